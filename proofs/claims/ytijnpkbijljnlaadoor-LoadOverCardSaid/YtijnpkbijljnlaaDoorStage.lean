/-
  A region that draws its order, walked once in the order of the text: operations that read the same value in every world of the class; new blocks may be laid meanwhile, one behind the other; a tail in one forced order.
-/
import Derived.Test.YtijnpkbijljnlaaDoorKit
import Derived.StillTail
namespace Go.Proofs.YtijnpkbijljnlaaDoor
open Go.RowKit
section
variable {P : Program} {ops : Array Oper}
def dstAt (ops : Array Oper) (j : Nat) : Option Tmp := (ops[j]?).bind (·.dst)
/-- The frame in which just the operations of c (below m) have put their values. -/
def FF (ops : Array Oper) (V : Nat → Value) (c : Nat → Bool) (a0 : Act) : Nat → Act
  | 0 => a0
  | m + 1 => if c m then (FF ops V c a0 m).put (dstAt ops m) (V m) else FF ops V c a0 m
def LK (ops : Array Oper) (V : Nat → Value) (c : Nat → Bool) (a0 : Act) (t : Nat) : Nat → Option Value
  | 0 => a0.tmps[t]?
  | m + 1 => if c m = true ∧ dstAt ops m = some t then (a0.tmps[t]?).map fun _ => V m else LK ops V c a0 t m
theorem put_get (a : Act) (d : Option Tmp) (v : Value) (t : Nat) : (a.put d v).tmps[t]? = if d = some t then (a.tmps[t]?).map fun _ => v else a.tmps[t]? := by
  cases d with
  | none => simp [Act.put]
  | some d =>
    simp only [Act.put, Array.getElem?_setIfInBounds]
    by_cases h : d = t
    · subst h
      by_cases hs : d < a.tmps.size
      · simp [hs]
      · simp [hs]
    · simp [h]
theorem put_defers (a : Act) (d : Option Tmp) (v : Value) : (a.put d v).defers = a.defers := by cases d <;> rfl
theorem FF_defers (V : Nat → Value) (c : Nat → Bool) (a0 : Act) (m : Nat) : (FF ops V c a0 m).defers = a0.defers := by
  induction m with
  | zero => rfl
  | succ m ih => simp only [FF]; split <;> simp [put_defers, ih]
theorem LK_some (V : Nat → Value) (c : Nat → Bool) (a0 : Act) (t m : Nat) : (LK ops V c a0 t m).isSome = (a0.tmps[t]?).isSome := by
  induction m with
  | zero => rfl
  | succ m ih => simp only [LK]; split <;> simp [ih]
theorem FF_get (V : Nat → Value) (c : Nat → Bool) (a0 : Act) (t m : Nat) : (FF ops V c a0 m).tmps[t]? = LK ops V c a0 t m := by
  induction m with
  | zero => rfl
  | succ m ih =>
    simp only [FF, LK]
    by_cases hc : c m = true
    · simp only [hc, if_true, true_and]
      rw [put_get, ih]
      by_cases hd : dstAt ops m = some t
      · simp only [hd, if_true]
        have := LK_some (ops := ops) V c a0 t m
        cases h1 : LK ops V c a0 t m <;> cases h2 : a0.tmps[t]? <;> simp [h1, h2] at this ⊢
      · simp only [hd, if_false]
    · simp only [hc, Bool.false_eq_true, if_false, false_and]
      exact ih
theorem LK_congr (V : Nat → Value) {c c' : Nat → Bool} (a0 : Act) (t m : Nat) (h : ∀ j, j < m → dstAt ops j = some t → c j = c' j) : LK ops V c a0 t m = LK ops V c' a0 t m := by
  induction m with
  | zero => rfl
  | succ m ih =>
    simp only [LK]
    rw [ih fun j hj => h j (by omega)]
    by_cases hd : dstAt ops m = some t
    · rw [h m (by omega) hd]
    · simp [hd]
theorem Act_ext {a b : Act} (h1 : ∀ t : Nat, a.tmps[t]? = b.tmps[t]?) (h2 : a.defers = b.defers) : a = b := by
  obtain ⟨x, y⟩ := a; obtain ⟨x', y'⟩ := b
  simp only at h1 h2
  rw [h2, Array.ext_getElem? h1]
theorem FF_congr (V : Nat → Value) {c c' : Nat → Bool} (a0 : Act) (m : Nat) (h : ∀ j, j < m → c j = c' j) : FF ops V c a0 m = FF ops V c' a0 m :=
  Act_ext (fun t => by rw [FF_get, FF_get]; exact LK_congr V a0 t m fun j hj _ => h j hj) (by rw [FF_defers, FF_defers])
theorem FF_stop (V : Nat → Value) (a0 : Act) (k m : Nat) (hk : k ≤ m) : FF ops V (fun j => decide (j < k)) a0 m = FF ops V (fun _ => true) a0 k := by
  induction m with
  | zero => obtain rfl : k = 0 := by omega
            rfl
  | succ m ih =>
    by_cases h : k = m + 1
    · subst h; exact FF_congr V a0 _ fun j hj => by simp [hj]
    · simp only [FF]
      rw [if_neg (by simp; omega)]
      exact ih (by omega)
/-- What j waits for directly. -/
def wf (ops : Array Oper) (j i : Nat) : Prop := ∃ oj, ops[j]? = some oj ∧ ∃ e ∈ oj.after, Region.binds .any e = true ∧ e.on = i
/-- The order of the text is one that is allowed, and what is not ordered is apart. -/
structure LexOk (ops : Array Oper) (N : Nat) : Prop where
  le : N ≤ ops.size
  sel : Region.noSelect ops = true
  back : ∀ k ok, k < N → ops[k]? = some ok → ∀ e ∈ ok.after, Region.binds .any e = true → e.on < k
  pair : ∀ k j ok oj, k < j → j < N → ops[k]? = some ok → ops[j]? = some oj → wf ops j k ∨ ok.apart ops oj = true
theorem agree {N : Nat} (lx : LexOk ops N) {listed : Array Bool} (inv : HeadInv .any ops N listed) (V : Nat → Value) (a0 : Act) {k : Nat} {ok : Oper} (hk : k < N) (hok : ops[k]? = some ok)
    (hr : k ∈ Region.ready .any ops listed) {t : Nat} (ht : t ∈ ok.looksAt ops) :
    LK ops V (fun j => listed.getD j false) a0 t N = LK ops V (fun j => decide (j < k)) a0 t N := by
  obtain ⟨hun, ok', hok', hall⟩ := mem_ready.1 hr
  obtain rfl : ok' = ok := Option.some.inj (hok'.symm.trans hok)
  refine LK_congr V a0 t N fun j hj hd => ?_
  obtain ⟨oj, hoj, hdj⟩ : ∃ oj, ops[j]? = some oj ∧ oj.dst = some t := by
    unfold dstAt at hd
    cases h : ops[j]? with
    | none => rw [h] at hd; cases hd
    | some oj => rw [h] at hd; exact ⟨oj, rfl, hd⟩
  rcases Nat.lt_trichotomy j k with h | h | h
  · rw [decide_eq_true h]
    rcases lx.pair j k oj ok' h hk hoj hok with ⟨o', ho', e, he, hb, hon⟩ | hap
    · obtain rfl : o' = ok' := Option.some.inj (ho'.symm.trans hok)
      rw [← hon]; exact hall e he hb
    · exact absurd ht ((Oper.apart_spec hap).1 t hdj)
  · subst h; rw [getD_both hun]; simp
  · rw [decide_eq_false (by omega)]
    cases hl : listed.getD j false with
    | false => rfl
    | true =>
      rcases lx.pair k j ok' oj h hj hok hoj with ⟨o', ho', e, he, hb, hon⟩ | hap
      · have h1 := inv.closed j o' ho' hl e he hb
        rw [hon, getD_both hun] at h1
        exact h1.symm
      · exact absurd ht ((Oper.apart_spec hap).2.2 t hdj)
theorem put_FF {N : Nat} (lx : LexOk ops N) {listed : Array Bool} (inv : HeadInv .any ops N listed) (V : Nat → Value) (a0 : Act) {k : Nat} {ok : Oper} (hk : k < N) (hok : ops[k]? = some ok)
    (hr : k ∈ Region.ready .any ops listed) :
    (FF ops V (fun j => listed.getD j false) a0 N).put ok.dst (V k) = FF ops V (fun j => (listed.setIfInBounds k true).getD j false) a0 N := by
  obtain ⟨hun, ok', hok', hall⟩ := mem_ready.1 hr
  obtain rfl : ok' = ok := Option.some.inj (hok'.symm.trans hok)
  have hks : k < listed.size := by rw [inv.size]; have := lx.le; omega
  have hset : ∀ j, (listed.setIfInBounds k true).getD j false = (decide (j = k) || listed.getD j false) := fun j => by
    by_cases h : j = k
    · subst h; simp [hks]
    · rw [getD_set_ne false (by omega)]; simp [h]
  refine Act_ext (fun t => ?_) (by rw [put_defers, FF_defers, FF_defers])
  rw [put_get, FF_get, FF_get]
  by_cases hd : ok'.dst = some t
  · rw [if_pos hd]
    -- no listed operation behind k writes there
    have hno : ∀ j, k < j → j < N → dstAt ops j = some t → listed.getD j false = false := fun j hkj hj hdj => by
      obtain ⟨oj, hoj, hdj'⟩ : ∃ oj, ops[j]? = some oj ∧ oj.dst = some t := by
        unfold dstAt at hdj
        cases h : ops[j]? with
        | none => rw [h] at hdj; cases hdj
        | some oj => rw [h] at hdj; exact ⟨oj, rfl, hdj⟩
      cases hl : listed.getD j false with
      | false => rfl
      | true =>
        rcases lx.pair k j ok' oj hkj hj hok hoj with ⟨o', ho', e, he, hb, hon⟩ | hap
        · have h1 := inv.closed j o' ho' hl e he hb
          rw [hon, getD_both hun] at h1
          cases h1
        · exact absurd hdj' ((Oper.apart_spec hap).2.1 t hd)
    have key : ∀ m, k < m → m ≤ N → LK ops V (fun j => (listed.setIfInBounds k true).getD j false) a0 t m = (a0.tmps[t]?).map fun _ => V k := fun m => by
      induction m with
      | zero => intro h; omega
      | succ m ih =>
        intro hkm hm
        simp only [LK]
        by_cases hmk : m = k
        · subst hmk
          rw [if_pos ⟨by rw [hset]; simp, by unfold dstAt; rw [hok]; exact hd⟩]
        · by_cases hdm : dstAt ops m = some t
          · rw [if_neg (by rw [hset, hno m (by omega) (by omega) hdm]; simp [hmk])]
            exact ih (by omega) (by omega)
          · rw [if_neg (by simp [hdm])]
            exact ih (by omega) (by omega)
    rw [key N hk (Nat.le_refl _)]
    have := LK_some (ops := ops) V (fun j => listed.getD j false) a0 t N
    generalize LK ops V (fun j => listed.getD j false) a0 t N = x at this ⊢
    cases x <;> cases h2 : a0.tmps[t]? <;> simp [h2] at this ⊢
  · rw [if_neg hd]
    refine LK_congr V a0 t N fun j hj hdj => ?_
    rw [hset]
    have : j ≠ k := fun e => by
      subst e
      unfold dstAt at hdj
      rw [hok] at hdj
      exact hd hdj
    simp [this]
theorem eval_of_agree {a b : Act} {x : Operand} (h : ∀ t, x = .tmp t → a.tmps[t]? = b.tmps[t]?) : a.eval x = b.eval x := by
  cases x with
  | tmp t =>
    simp only [Act.eval]
    rw [Array.getD_eq_getD_getElem?, Array.getD_eq_getD_getElem?, h t rfl]
  | const v => rfl
  | global g => rfl
  | func f => rfl
theorem exec_of_agree {a b : Act} {o : Oper} (hs : ∀ cs b, o.op ≠ .select cs b) (h : ∀ t, t ∈ o.looksAt ops → a.tmps[t]? = b.tmps[t]?) : execOp a.eval o = execOp b.eval o :=
  execOp_congr o hs fun x hx => eval_of_agree fun t ht => h t (by
    subst ht
    exact List.mem_append_left _ (List.mem_filterMap.2 ⟨.tmp t, by simpa using hx, rfl⟩))
theorem wanted_of_agree {a b : Act} {o : Oper} (h : ∀ t, t ∈ o.looksAt ops → a.tmps[t]? = b.tmps[t]?) : Region.wanted o (yielded ops a.tmps) = Region.wanted o (yielded ops b.tmps) := by
  unfold Region.wanted
  cases hg : o.guard with
  | none => rfl
  | some gw =>
    obtain ⟨g, want⟩ := gw
    have hy : yielded ops a.tmps g = yielded ops b.tmps g := by
      unfold yielded
      cases ht : (ops[g]?).bind (·.dst) with
      | none => rfl
      | some t =>
        simp only [Option.bind_some]
        rw [h t (List.mem_append_right _ (by rw [hg]; simp [ht]))]
    simp only [hy]
/-! ### stages -/
def isEff (o : Oper) : Bool :=
  match o.op with
  | .alloc _ | .buildSlice .. | .box .. => true
  | _ => false
def effAt (ops : Array Oper) (j : Nat) : Bool := (ops[j]?).any isEff
def cnt (c : Nat → Bool) : Nat → Nat
  | 0 => 0
  | m + 1 => cnt c m + if c m then 1 else 0
theorem cnt_congr {c c' : Nat → Bool} (m : Nat) (h : ∀ j, j < m → c j = c' j) : cnt c m = cnt c' m := by
  induction m with
  | zero => rfl
  | succ m ih => simp only [cnt]; rw [ih fun j hj => h j (by omega), h m (by omega)]
theorem cnt_below (c : Nat → Bool) (k m : Nat) (hk : k ≤ m) : cnt (fun j => c j && decide (j < k)) m = cnt c k := by
  induction m with
  | zero => obtain rfl : k = 0 := by omega
            rfl
  | succ m ih =>
    by_cases h : k = m + 1
    · subst h; exact cnt_congr _ fun j hj => by simp [hj]
    · simp only [cnt]
      rw [ih (by omega)]
      simp only [show ¬ m < k by omega, decide_false, Bool.and_false, Bool.false_eq_true, if_false, Nat.add_zero]
theorem cnt_set (c d : Nat → Bool) (k m : Nat) (hk : k < m) (hc : c k = false) (hd : d k = true) (h : ∀ j, j ≠ k → d j = c j) : cnt d m = cnt c m + 1 := by
  induction m with
  | zero => omega
  | succ m ih =>
    simp only [cnt]
    by_cases hkm : k = m
    · subst hkm
      rw [cnt_congr (c := d) (c' := c) k fun j hj => h j (by omega), hc, hd]; simp
    · rw [ih (by omega), h m (by omega)]; omega
def effUpon (C : World → Prop) (v : Value) : Result Next → Prop
  | .ok (.value u) w' => u = v ∧ C w'
  | _ => False
def Oper.quietS (P : Program) (o : Oper) (a : Act) (C : Nat → World → Prop) (next : Act → Prop) : Prop := ∃ v, (∀ s w, C s w → o.quietAt P a (C s) w v) ∧ next (a.put o.dst v)
def Oper.effS (P : Program) (o : Oper) (a : Act) (C : Nat → World → Prop) (s : Nat) (next : Act → Prop) : Prop := ∃ v, (∀ w, C s w → effUpon (C (s + 1)) v ((execOp a.eval o).run P w)) ∧ next (a.put o.dst v)
/-- The walk in the order of the text: the stage (how many blocks the statement has laid), the operations that are left. -/
def wpStg (P : Program) (ops : Array Oper) (C : Nat → World → Prop) (Q : Nat → Act → Prop) : Nat → List Oper → Act → Prop
  | s, [], a => Q s a
  | s, o :: rest, a => if Region.wanted o (yielded ops a.tmps) then (if isEff o then Oper.effS P o a C s (wpStg P ops C Q (s + 1) rest) else Oper.quietS P o a C (wpStg P ops C Q s rest)) else (isEff o = false ∧ wpStg P ops C Q s rest (a.put o.dst undef))
def StepOk (P : Program) (ops : Array Oper) (C : Nat → World → Prop) (a0 : Act) (V : Nat → Value) (k : Nat) (o : Oper) : Prop :=
  (Region.wanted o (yielded ops (FF ops V (fun _ => true) a0 k).tmps) = true ∧ isEff o = true ∧ ∀ w, C (cnt (effAt ops) k) w → effUpon (C (cnt (effAt ops) k + 1)) (V k) ((execOp (FF ops V (fun _ => true) a0 k).eval o).run P w)) ∨
  (Region.wanted o (yielded ops (FF ops V (fun _ => true) a0 k).tmps) = true ∧ isEff o = false ∧ ∀ s w, C s w → o.quietAt P (FF ops V (fun _ => true) a0 k) (C s) w (V k)) ∨
  (Region.wanted o (yielded ops (FF ops V (fun _ => true) a0 k).tmps) = false ∧ isEff o = false ∧ V k = undef)
theorem FF_V {V V' : Nat → Value} (c : Nat → Bool) (a0 : Act) (m : Nat) (h : ∀ j, j < m → V j = V' j) : FF ops V c a0 m = FF ops V' c a0 m := by
  induction m with
  | zero => rfl
  | succ m ih => simp only [FF]; rw [ih fun j hj => h j (by omega), h m (by omega)]
theorem stg_steps {C : Nat → World → Prop} {Q : Nat → Act → Prop} (a0 : Act) : ∀ (l : List Oper) (k s : Nat) (a : Act) (V0 : Nat → Value), (∀ j, j < l.length → ops[k + j]? = l[j]?) → a = FF ops V0 (fun _ => true) a0 k → s = cnt (effAt ops) k →
    wpStg P ops C Q s l a → ∃ V, (∀ j, j < k → V j = V0 j) ∧ (∀ j o, k ≤ j → j < k + l.length → ops[j]? = some o → StepOk P ops C a0 V j o) ∧ Q (cnt (effAt ops) (k + l.length)) (FF ops V (fun _ => true) a0 (k + l.length))
  | [], k, s, a, V0, _, ha, hs, h => ⟨V0, fun _ _ => rfl, fun j o h1 h2 _ => by simp at h2; omega, by subst ha hs; exact h⟩
  | o :: rest, k, s, a, V0, hl, ha, hs, h => by
    have hok : ops[k]? = some o := by have := hl 0 (by simp); simpa using this
    have heff : effAt ops k = isEff o := by unfold effAt; rw [hok]; rfl
    -- go on with the value v in place k
    have go : ∀ (v : Value) (s' : Nat), s' = cnt (effAt ops) (k + 1) → (∀ V : Nat → Value, (∀ j, j < k → V j = V0 j) → V k = v → StepOk P ops C a0 V k o) → wpStg P ops C Q s' rest (a.put o.dst v) →
        ∃ V, (∀ j, j < k → V j = V0 j) ∧ (∀ j o', k ≤ j → j < k + (o :: rest).length → ops[j]? = some o' → StepOk P ops C a0 V j o') ∧ Q (cnt (effAt ops) (k + (o :: rest).length)) (FF ops V (fun _ => true) a0 (k + (o :: rest).length)) := fun v s' hs' hstep hrest => by
      obtain ⟨V, h1, h2, h3⟩ := stg_steps a0 rest (k + 1) s' (a.put o.dst v) (fun j => if j = k then v else V0 j) (fun j hj => by
          have := hl (j + 1) (by simp; omega)
          rw [show k + 1 + j = k + (j + 1) by omega, this]; simp) (by
          subst ha
          simp only [FF, if_true]
          have e1 : dstAt ops k = o.dst := by unfold dstAt; rw [hok]; rfl
          rw [e1]
          congr 1
          exact FF_V _ _ _ fun j hj => by rw [if_neg (by omega)]) hs' hrest
      have hv : V k = v := by rw [h1 k (by omega)]; simp
      have hlt : ∀ j, j < k → V j = V0 j := fun j hj => by rw [h1 j (by omega), if_neg (by omega)]
      refine ⟨V, hlt, fun j o' hj1 hj2 ho' => ?_, ?_⟩
      · by_cases hjk : j = k
        · subst hjk
          obtain rfl : o' = o := Option.some.inj (ho'.symm.trans hok)
          exact hstep V hlt hv
        · exact h2 j o' (by omega) (by simp at hj2; omega) ho'
      · rw [show k + (o :: rest).length = k + 1 + rest.length by simp; omega]; exact h3
    have hfr : ∀ V : Nat → Value, (∀ j, j < k → V j = V0 j) → FF ops V (fun _ => true) a0 k = a := fun V hV => by rw [ha]; exact FF_V _ _ _ hV
    unfold wpStg at h
    by_cases hw : Region.wanted o (yielded ops a.tmps) = true
    · rw [if_pos hw] at h
      by_cases he : isEff o = true
      · rw [if_pos he] at h
        obtain ⟨v, hv, hK⟩ := h
        refine go v (s + 1) (by simp only [cnt]; rw [heff, he, ← hs]; rfl) (fun V hV hVk => .inl ?_) hK
        rw [hfr V hV, ← hs, hVk]
        exact ⟨hw, he, hv⟩
      · rw [if_neg he] at h
        obtain ⟨v, hv, hK⟩ := h
        have he' : isEff o = false := by simpa using he
        refine go v s (by simp only [cnt]; rw [heff, he', ← hs]; rfl) (fun V hV hVk => .inr (.inl ?_)) hK
        rw [hfr V hV, hVk]
        exact ⟨hw, he', hv⟩
    · rw [if_neg hw] at h
      refine go undef s (by simp only [cnt]; rw [heff, h.1, ← hs]; rfl) (fun V hV hVk => .inr (.inr ?_)) h.2
      rw [hfr V hV]
      exact ⟨by simpa using hw, h.1, hVk⟩
/-- Effects wait for one another, directly or by one between. -/
def EffOk (ops : Array Oper) (N : Nat) : Prop := ∀ i j, i < j → j < N → effAt ops i = true → effAt ops j = true → wf ops j i ∨ ∃ x, wf ops j x ∧ wf ops x i
theorem listed_wf {N : Nat} {listed : Array Bool} (inv : HeadInv .any ops N listed) {j i : Nat} (hj : listed.getD j false = true) (h : wf ops j i) : listed.getD i false = true := by
  obtain ⟨oj, hoj, e, he, hb, hon⟩ := h
  rw [← hon]; exact inv.closed j oj hoj hj e he hb
theorem ready_wf {listed : Array Bool} {j i : Nat} (hr : j ∈ Region.ready .any ops listed) (h : wf ops j i) : listed.getD i false = true := by
  obtain ⟨_, oj, hoj, hall⟩ := mem_ready.1 hr
  obtain ⟨oj', hoj', e, he, hb, hon⟩ := h
  obtain rfl : oj' = oj := Option.some.inj (hoj'.symm.trans hoj)
  rw [← hon]; exact hall e he hb
def stg (ops : Array Oper) (N : Nat) (listed : Array Bool) : Nat := cnt (fun j => effAt ops j && listed.getD j false) N
theorem stg_at {N : Nat} (ef : EffOk ops N) {listed : Array Bool} (inv : HeadInv .any ops N listed) {k : Nat} (hk : k < N) (hr : k ∈ Region.ready .any ops listed) (he : effAt ops k = true) : stg ops N listed = cnt (effAt ops) k := by
  have hun := (mem_ready.1 hr).1
  rw [← cnt_below (effAt ops) k N (by omega)]
  refine cnt_congr N fun j hj => ?_
  cases hej : effAt ops j with
  | false => rfl
  | true =>
    simp only [Bool.true_and]
    rcases Nat.lt_trichotomy j k with h | h | h
    · rw [decide_eq_true h]
      rcases ef j k h hk hej he with h1 | ⟨x, h1, h2⟩
      · exact ready_wf hr h1
      · exact listed_wf inv (ready_wf hr h1) h2
    · subst h; rw [getD_both hun]; simp
    · rw [decide_eq_false (by omega)]
      cases hl : listed.getD j false with
      | false => rfl
      | true =>
        exfalso
        have : listed.getD k false = true := by
          rcases ef k j h hj he hej with h1 | ⟨x, h1, h2⟩
          · exact listed_wf inv hl h1
          · exact listed_wf inv (listed_wf inv hl h1) h2
        rw [getD_both hun] at this
        cases this
theorem getD_set' {listed : Array Bool} {k : Nat} (hks : k < listed.size) (j : Nat) : (listed.setIfInBounds k true).getD j false = (decide (j = k) || listed.getD j false) := by
  by_cases h : j = k
  · subst h; simp [hks]
  · rw [getD_set_ne false (by omega)]; simp [h]
theorem stg_set_eff {N : Nat} {listed : Array Bool} {k : Nat} (hks : k < listed.size) (hk : k < N) (hun : listed.getD k true = false) (he : effAt ops k = true) : stg ops N (listed.setIfInBounds k true) = stg ops N listed + 1 := by
  refine cnt_set _ _ k N hk ?_ ?_ fun j hj => ?_
  · simp only [getD_both hun, Bool.and_false]
  · simp only [he, getD_set' hks, decide_true, Bool.true_or, Bool.and_self]
  · simp only [getD_set' hks, hj, decide_false, Bool.false_or]
theorem stg_set_non {N : Nat} {listed : Array Bool} {k : Nat} (hks : k < listed.size) (he : effAt ops k = false) : stg ops N (listed.setIfInBounds k true) = stg ops N listed := by
  refine cnt_congr N fun j hj => ?_
  by_cases h : j = k
  · subst h; simp only [he, Bool.false_and]
  · simp only [getD_set' hks, h, decide_false, Bool.false_or]
def prefArr (n N : Nat) : Array Bool := ((List.range n).map fun j => decide (j < N)).toArray
/-- How many of the first m are still to come. -/
def left (listed : Array Bool) : Nat → Nat := cnt (fun j => !listed.getD j false)
theorem left_zero {listed : Array Bool} {m : Nat} (h : left listed m = 0) : ∀ j, j < m → listed.getD j false = true := by
  induction m with
  | zero => intro j hj; omega
  | succ m ih =>
    unfold left at h ih
    simp only [cnt] at h
    intro j hj
    by_cases hjm : j = m
    · subst hjm
      cases hl : listed.getD j false with
      | true => rfl
      | false => simp [hl] at h
    · exact ih (by omega) j (by omega)
theorem left_some {listed : Array Bool} {m : Nat} (h : left listed m ≠ 0) : ∃ j, j < m ∧ listed.getD j false = false ∧ ∀ i, i < j → listed.getD i false = true := by
  induction m with
  | zero => exact absurd rfl h
  | succ m ih =>
    by_cases h0 : left listed m = 0
    · refine ⟨m, by omega, ?_, left_zero h0⟩
      unfold left at h h0
      simp only [cnt] at h
      cases hl : listed.getD m false with
      | false => rfl
      | true => exact absurd (show cnt (fun j => !listed.getD j false) m + (if (!listed.getD m false) = true then 1 else 0) = 0 by simp only [h0, hl, Bool.not_true, Bool.false_eq_true, if_false]) h
    · obtain ⟨j, hj, h1, h2⟩ := ih h0
      exact ⟨j, by omega, h1, h2⟩
theorem wpAny_stage {N : Nat} (lx : LexOk ops N) (ef : EffOk ops N) (hs : N = ops.size ∨ Region.sinkB .any ops N = true ∧ Region.chainB .any ops N = true) (hq : Region.seqB .any ops (ops.size - N) N (prefArr ops.size N) = true)
    {C : Nat → World → Prop} {Q' : Exit → Act → World → Prop} {a0 : Act} {V : Nat → Value} (hstep : ∀ j o, j < N → ops[j]? = some o → StepOk P ops C a0 V j o)
    (hfin : ∀ w, C (cnt (effAt ops) N) w → wpList P ops Q' (ops.toList.drop N) (FF ops V (fun _ => true) a0 N) w) :
    ∀ (u : Nat) (listed : Array Bool) (w : World), left listed N = u → HeadInv .any ops N listed → C (stg ops N listed) w → wpAny P .any ops Q' (u + (ops.size - N)) listed (FF ops V (fun j => listed.getD j false) a0 N) w
  | 0, listed, w, hu, inv, hC => by
    have hall := left_zero hu
    have hle := lx.le
    have hpref : listed = prefArr ops.size N := by
      apply Array.ext (by simp [prefArr, inv.size])
      intro j h1 h2
      have hj : j < ops.size := by rw [← inv.size]; exact h1
      have e2 : (prefArr ops.size N)[j] = decide (j < N) := by simp [prefArr]
      rw [e2]
      by_cases hjN : j < N
      · have := hall j hjN
        simp [h1] at this
        rw [this]; simp [hjN]
      · have := inv.tail j (by omega) hj
        simp [h1] at this
        rw [this]; simp [hjN]
    have hst : stg ops N listed = cnt (effAt ops) N := cnt_congr N fun j hj => by simp only [hall j hj, Bool.and_true]
    have hf : FF ops V (fun j => listed.getD j false) a0 N = FF ops V (fun _ => true) a0 N := FF_congr V a0 N fun j hj => hall j hj
    rw [hf, Nat.zero_add]
    have hlen : (ops.toList.drop N).length = ops.size - N := by simp
    have := wpAny_of_seq (P := P) (md := .any) (ops := ops) (Q' := Q') (ops.toList.drop N) N listed (FF ops V (fun _ => true) a0 N) w (fun j => by simp) (by rw [hlen, hpref]; exact hq) (hfin w (hst ▸ hC))
    rw [hlen] at this
    exact this
  | u + 1, listed, w, hu, inv, hC => by
    have hle := lx.le
    have hsel : ∀ (j : Nat) (o : Oper) (cs : Array SelectCase) (b : Bool), ops[j]? = some o → o.op ≠ .select cs b := fun j o cs b h => Region.noSelect_spec lx.sel j o cs b h
    obtain ⟨r, hrN, hrl, hrb⟩ := left_some (listed := listed) (m := N) (by omega)
    have hrr : r ∈ Region.ready .any ops listed := by
      have hro : ops[r]? = some ops[r] := Array.getElem?_eq_getElem (by omega)
      refine mem_ready.2 ⟨getD_in (by rw [inv.size]; omega) hrl, _, hro, fun e he hb => hrb _ (lx.back r _ hrN hro e he hb)⟩
    rw [show u + 1 + (ops.size - N) = (u + (ops.size - N)) + 1 by omega]
    refine ⟨fun h0 => (by rw [h0] at hrr; cases hrr), fun i hi => ?_⟩
    have hiN : i < N := by
      rcases hs with hs | ⟨hs, hc⟩
      · obtain ⟨_, o, ho, _⟩ := mem_ready.1 hi
        have := (Array.getElem?_eq_some_iff.1 ho).1
        omega
      · rcases Nat.lt_or_ge i N with h | h
        · exact h
        · by_cases hNs : N < ops.size
          · exact absurd hi (tail_waits hs hc hNs inv _ r rfl hrN (getD_in (by rw [inv.size]; omega) hrl) i h)
          · obtain ⟨_, o, ho, _⟩ := mem_ready.1 hi
            have := (Array.getElem?_eq_some_iff.1 ho).1
            omega
    obtain ⟨hun, o, ho, _⟩ := mem_ready.1 hi
    have his : i < listed.size := by rw [inv.size]; omega
    have hleft : left (listed.setIfInBounds i true) N = u := by
      have : left listed N = left (listed.setIfInBounds i true) N + 1 := by
        refine cnt_set _ _ i N hiN ?_ ?_ fun j hj => ?_
        · simp only [getD_set' his, decide_true, Bool.true_or, Bool.not_true]
        · simp only [getD_both hun, Bool.not_false]
        · simp only [getD_set' his, hj, decide_false, Bool.false_or]
      omega
    have hinv' := inv.set hi hiN
    have hagree : ∀ t, t ∈ o.looksAt ops → (FF ops V (fun j => listed.getD j false) a0 N).tmps[t]? = (FF ops V (fun _ => true) a0 i).tmps[t]? := fun t ht => by
      rw [← FF_stop V a0 i N (by omega), FF_get, FF_get]
      exact agree lx inv V a0 hiN ho hi ht
    have hwant := wanted_of_agree (ops := ops) hagree
    have hexec := exec_of_agree (ops := ops) (hsel i o · · ho) hagree
    have hput := put_FF lx inv V a0 hiN ho hi
    have heff : effAt ops i = isEff o := by unfold effAt; rw [ho]; rfl
    have next : ∀ w', C (stg ops N (listed.setIfInBounds i true)) w' → wpAny P .any ops Q' (u + (ops.size - N)) (listed.setIfInBounds i true) ((FF ops V (fun j => listed.getD j false) a0 N).put o.dst (V i)) w' := fun w' hw' => by
      rw [hput]
      exact wpAny_stage lx ef hs hq hstep hfin u _ w' hleft hinv' hw'
    unfold wpOp
    simp only [ho]
    rw [hwant]
    rcases hstep i o hiN ho with ⟨hw, he, hyes⟩ | ⟨hw, he, hyes⟩ | ⟨hw, he, hyes⟩
    · rw [if_pos hw]
      left
      have h3 := hyes w (by rw [← stg_at ef inv hiN hi (heff.trans he)]; exact hC)
      unfold Oper.wp
      rw [hexec]
      generalize (execOp (FF ops V (fun _ => true) a0 i).eval o).run P w = r at h3 ⊢
      cases r with
      | ok n w' =>
        cases n <;> simp only [effUpon] at h3 <;> simp only [Oper.upon]
        obtain ⟨rfl, h4⟩ := h3
        refine next _ ?_
        rw [stg_set_eff his hiN hun (heff.trans he), stg_at ef inv hiN hi (heff.trans he)]
        exact h4
      | halt x w' => simp only [effUpon] at h3
    · rw [if_pos hw]
      left
      have hsame : stg ops N (listed.setIfInBounds i true) = stg ops N listed := stg_set_non his (heff.trans he)
      have h3 := hyes (stg ops N listed) w hC
      unfold Oper.quietAt at h3
      unfold Oper.wp
      rw [hexec]
      generalize (execOp (FF ops V (fun _ => true) a0 i).eval o).run P w = r at h3 ⊢
      cases r with
      | ok n w' =>
        cases n <;> simp only [Oper.quietUpon] at h3 <;> simp only [Oper.upon]
        case value x =>
          obtain ⟨rfl, rfl⟩ := h3
          exact next _ (hsame.symm ▸ hC)
        case skip =>
          obtain ⟨rfl, h4⟩ := h3
          rw [← h4]
          exact next _ (hsame.symm ▸ hC)
        case enter f args =>
          obtain ⟨rfl, hc⟩ := h3
          refine hc.mono ?_
          rintro e w'' ⟨rfl, hw''⟩
          exact next _ (hsame.symm ▸ hw'')
      | halt x w' => simp only [Oper.quietUpon] at h3
    · rw [if_neg (by rw [hw]; simp)]
      rw [← hyes]
      exact next w ((stg_set_non his (heff.trans he)).symm ▸ hC)
end
/-! ### the Bool over a region, and the theorem -/
def waitsB (k : Nat) (p : Oper) : Bool := p.after.any fun e => Region.binds .any e && e.on == k
def effGo (ops : Array Oper) : Nat → List Oper → Bool
  | _, [] => true
  | k, o :: rest => (!isEff o || rest.all fun p => !isEff p || waitsB k p || p.after.any fun e => Region.binds .any e && (ops[e.on]?).any (waitsB k)) && effGo ops (k + 1) rest
def stgB (l : List Oper) (N : Nat) : Bool :=
  Region.noSelect l.toArray && decide (N ≤ l.length) && lexGo l.toArray 0 (l.take N) && effGo l.toArray 0 (l.take N) &&
    (decide (N = l.length) || (Region.sinkB .any l.toArray N && Region.chainB .any l.toArray N)) && Region.seqB .any l.toArray (l.length - N) N (prefArr l.length N)
theorem waitsB_spec {ops : Array Oper} {j k : Nat} {p : Oper} (hp : ops[j]? = some p) (h : waitsB k p = true) : wf ops j k := by
  obtain ⟨e, he, hb⟩ := Array.any_eq_true'.1 h
  simp only [Bool.and_eq_true, beq_iff_eq] at hb
  exact ⟨p, hp, e, he, hb.1, hb.2⟩
theorem lexGo_back {ops : Array Oper} : ∀ (l : List Oper) (k : Nat), lexGo ops k l = true → ∀ j o, l[j]? = some o → ∀ e ∈ o.after, Region.binds .any e = true → e.on < k + j
  | [], _, _, j, o, ho, _, _, _ => by simp at ho
  | x :: rest, k, h, j, o, ho, e, he, hb => by
    simp only [lexGo, Bool.and_eq_true] at h
    cases j with
    | zero =>
      simp at ho; subst ho
      have := Array.all_eq_true_iff_forall_mem.1 h.1.1 e he
      simpa [hb] using this
    | succ j =>
      have := lexGo_back rest (k + 1) h.2 j o (by simpa using ho) e he hb
      omega
theorem lexGo_pair {ops : Array Oper} : ∀ (l : List Oper) (k : Nat), lexGo ops k l = true → ∀ i j x y, i < j → l[i]? = some x → l[j]? = some y → waitsB (k + i) y = true ∨ x.apart ops y = true
  | [], _, _, i, j, x, y, _, hx, _ => by simp at hx
  | o :: rest, k, h, i, j, x, y, hij, hx, hy => by
    simp only [lexGo, Bool.and_eq_true] at h
    obtain ⟨j', rfl⟩ : ∃ j', j = j' + 1 := ⟨j - 1, by omega⟩
    cases i with
    | zero =>
      simp at hx; subst hx
      have := List.all_eq_true.1 h.1.2 y (List.mem_of_getElem? (by simpa using hy))
      simpa [waitsB] using this
    | succ i =>
      have := lexGo_pair rest (k + 1) h.2 i j' x y (by omega) (by simpa using hx) (by simpa using hy)
      rwa [show k + 1 + i = k + (i + 1) by omega] at this
theorem effGo_spec {ops : Array Oper} : ∀ (l : List Oper) (k : Nat), effGo ops k l = true → (∀ j, j < l.length → ops[k + j]? = l[j]?) → ∀ i j x y, i < j → l[i]? = some x → l[j]? = some y → isEff x = true → isEff y = true →
    wf ops (k + j) (k + i) ∨ ∃ z, wf ops (k + j) z ∧ wf ops z (k + i)
  | [], _, _, _, i, j, x, y, _, hx, _, _, _ => by simp at hx
  | o :: rest, k, h, hl, i, j, x, y, hij, hx, hy, ex, ey => by
    simp only [effGo, Bool.and_eq_true] at h
    obtain ⟨j', rfl⟩ : ∃ j', j = j' + 1 := ⟨j - 1, by omega⟩
    have hyl : j' + 1 < (o :: rest).length := (List.getElem?_eq_some_iff.1 hy).1
    have hyo : ops[k + (j' + 1)]? = some y := (hl _ hyl).trans hy
    cases i with
    | zero =>
      simp at hx; subst hx
      have h1 := h.1
      simp only [ex, Bool.not_true, Bool.false_or] at h1
      have := List.all_eq_true.1 h1 y (List.mem_of_getElem? (by simpa using hy))
      simp only [ey, Bool.not_true, Bool.false_or, Bool.or_eq_true] at this
      rcases this with h2 | h2
      · exact .inl (waitsB_spec hyo h2)
      · obtain ⟨e, he, hb⟩ := Array.any_eq_true'.1 h2
        simp only [Bool.and_eq_true] at hb
        cases hz : ops[e.on]? with
        | none => rw [hz] at hb; simp at hb
        | some z =>
          rw [hz] at hb
          exact .inr ⟨e.on, ⟨y, hyo, e, he, hb.1, rfl⟩, waitsB_spec hz hb.2⟩
    | succ i =>
      have := effGo_spec rest (k + 1) h.2 (fun m hm => by
        have := hl (m + 1) (by simp; omega)
        rw [show k + 1 + m = k + (m + 1) by omega, this]; simp) i j' x y (by omega) (by simpa using hx) (by simpa using hy) ex ey
      rwa [show k + 1 + i = k + (i + 1) by omega, show k + 1 + j' = k + (j' + 1) by omega] at this
/-- ONE WALK, IN THE ORDER OF THE TEXT, OF THE FIRST N OPERATIONS; the rest stands in one forced order. -/
theorem wpAny_region_stage {P : Program} {Q : Exit → Act → World → Prop} {a : Act} {w : World} {l : List Oper} (N : Nat) (C : Nat → World → Prop) (hB : stgB l N = true) (h0 : C 0 w.drew)
    (h : wpStg P l.toArray C (fun s a' => ∀ w', C s w' → wpList P l.toArray Q (l.drop N) a' w') 0 (l.take N) a) : wpAny P .any l.toArray Q l.toArray.size (Array.replicate l.toArray.size false) a w.drew := by
  simp only [stgB, Bool.and_eq_true, decide_eq_true_iff] at hB
  obtain ⟨⟨⟨⟨⟨hsel, hN⟩, hlex⟩, heff⟩, htail⟩, hseq⟩ := hB
  have htk : ∀ j, j < N → (l.take N)[j]? = l.toArray[j]? := fun j hj => by simp [hj]
  have htl : (l.take N).length = N := by simp; omega
  have lx : LexOk l.toArray N := by
    refine ⟨by simpa using hN, hsel, fun k ok hk hok e he hb => ?_, fun k j ok oj hkj hj hok hoj => ?_⟩
    · have := lexGo_back (l.take N) 0 hlex k ok ((htk k hk).trans hok) e he hb
      omega
    · rcases lexGo_pair (l.take N) 0 hlex k j ok oj hkj ((htk k (by omega)).trans hok) ((htk j hj).trans hoj) with h1 | h1
      · left; rw [Nat.zero_add] at h1; exact waitsB_spec hoj h1
      · exact .inr h1
  have ef : EffOk l.toArray N := fun i j hij hj hi1 hj1 => by
    have hio : ∃ x, l.toArray[i]? = some x ∧ isEff x = true := by
      unfold effAt at hi1
      cases hx : l.toArray[i]? with
      | none => rw [hx] at hi1; cases hi1
      | some x => rw [hx] at hi1; exact ⟨x, rfl, hi1⟩
    have hjo : ∃ x, l.toArray[j]? = some x ∧ isEff x = true := by
      unfold effAt at hj1
      cases hx : l.toArray[j]? with
      | none => rw [hx] at hj1; cases hj1
      | some x => rw [hx] at hj1; exact ⟨x, rfl, hj1⟩
    obtain ⟨x, hx, ex⟩ := hio
    obtain ⟨y, hy, ey⟩ := hjo
    have := effGo_spec (ops := l.toArray) (l.take N) 0 heff (fun m hm => by rw [Nat.zero_add]; exact (htk m (by omega)).symm) i j x y hij ((htk i (by omega)).trans hx) ((htk j hj).trans hy) ex ey
    simpa only [Nat.zero_add] using this
  obtain ⟨V, _, hstep, hfin⟩ := stg_steps (P := P) (ops := l.toArray) (C := C) a (l.take N) 0 0 a (fun _ => undef) (fun j hj => by rw [Nat.zero_add]; exact (htk j (by omega)).symm) rfl rfl h
  rw [htl, Nat.zero_add] at hfin
  have hls : l.toArray.size = l.length := by simp
  have inv0 : HeadInv .any l.toArray N (Array.replicate l.toArray.size false) :=
    ⟨by simp, fun j oj _ hl => (by rw [getD_replicate_false] at hl; cases hl), fun t _ ht => getD_in (by simpa using ht) (getD_replicate_false _ _)⟩
  have hleft : left (Array.replicate l.toArray.size false) N = N := by
    have : ∀ m, left (Array.replicate l.toArray.size false) m = m := fun m => by
      induction m with
      | zero => rfl
      | succ m ih => unfold left at ih ⊢; simp only [cnt]; rw [ih]; simp only [getD_replicate_false, Bool.not_false, if_true]
    exact this N
  have hstg : stg l.toArray N (Array.replicate l.toArray.size false) = 0 := by
    have : ∀ m, cnt (fun j => effAt l.toArray j && (Array.replicate l.toArray.size false).getD j false) m = 0 := fun m => by
      induction m with
      | zero => rfl
      | succ m ih => simp only [cnt]; rw [ih]; simp only [getD_replicate_false, Bool.and_false, Bool.false_eq_true, if_false]
    exact this N
  have hff : FF l.toArray V (fun j => (Array.replicate l.toArray.size false).getD j false) a N = a := by
    have : ∀ m, FF l.toArray V (fun j => (Array.replicate l.toArray.size false).getD j false) a m = a := fun m => by
      induction m with
      | zero => rfl
      | succ m ih => simp only [FF, getD_replicate_false, Bool.false_eq_true, if_false]; simpa only [getD_replicate_false] using ih
    exact this N
  have := wpAny_stage (P := P) (Q' := Q) (a0 := a) (V := V) (C := C) lx ef (by
      simp only [Bool.or_eq_true, decide_eq_true_iff, Bool.and_eq_true] at htail
      rw [hls]; exact htail) (by rw [hls]; exact hseq) (fun j o hj ho => hstep j o (by omega) (by rw [htl]; omega) ho) (by simpa using hfin) N _ w.drew hleft inv0 (by rw [hstg]; exact h0)
  rw [hff] at this
  rw [show N + (l.toArray.size - N) = l.toArray.size by rw [hls]; omega] at this
  exact this
theorem wp_region_stage {P : Program} {id : Nat} {Q : Exit → Act → World → Prop} {a : Act} {w : World} {l : List Oper} (N : Nat) (C : Nat → World → Prop) (hm : P.follows .mixedOrders = true) (hB : stgB l N = true) (h0 : C 0 w.drew)
    (h : wpStg P l.toArray C (fun s a' => ∀ w', C s w' → wpList P l.toArray Q (l.drop N) a' w') 0 (l.take N) a) : (Code.region id l.toArray true).wp P Q a w :=
  wp_region_any hm (wpAny_region_stage N C hB h0 h)
/-! ### the two classes that serve -/
/-- Worlds that part from 'Ws s' in draws alone. -/
def Drawn (Ws : Nat → World) (s : Nat) (w : World) : Prop := ∃ n, w = (Ws s).drewN n
section
variable {P : Program} {ops : Array Oper} {C : Nat → World → Prop} {Q : Nat → Act → Prop} {s : Nat} {o : Oper} {rest : List Oper} {a : Act}
theorem wpStg_quiet (hw : Region.wanted o (yielded ops a.tmps) = true) (he : isEff o = false) (h : ∀ K : Act → Prop, (∀ a, wpStg P ops C Q s rest a → K a) → Oper.quietS P o a C K) : wpStg P ops C Q s (o :: rest) a := by
  unfold wpStg; rw [if_pos hw, if_neg (by rw [he]; simp)]; exact h _ fun _ h => h
theorem wpStg_eff (hw : Region.wanted o (yielded ops a.tmps) = true) (he : isEff o = true) (h : ∀ K : Act → Prop, (∀ a, wpStg P ops C Q (s + 1) rest a → K a) → Oper.effS P o a C s K) : wpStg P ops C Q s (o :: rest) a := by
  unfold wpStg; rw [if_pos hw, if_pos he]; exact h _ fun _ h => h
theorem wpStg_skip (hw : Region.wanted o (yielded ops a.tmps) = false) (he : isEff o = false) (h : wpStg P ops C Q s rest (a.put o.dst undef)) : wpStg P ops C Q s (o :: rest) a := by
  unfold wpStg; rw [if_neg (by rw [hw]; simp)]; exact ⟨he, h⟩
theorem wpStg_nil (h : Q s a) : wpStg P ops C Q s [] a := h
end
theorem Drawn.start (Ws : Nat → World) (w : World) (h : Ws 0 = w) : Drawn Ws 0 w.drew := ⟨1, by rw [h]; rfl⟩
/-- The worlds of a statement that lays one block. -/
def two (w : World) (o : Obj) (s : Nat) : World := if s = 0 then w else w.alloc o
/-! ### cells behind a new block and behind a store -/
theorem cell_alloc {w : World} {a : Addr} {v : Value} (h : w.cell? a = some v) (o : Obj) : (w.alloc o).cell? a = some v :=
  (World.cell?_of_block (w := w) (Below.heap_alloc w o a.block (cell_lt h))).trans h
theorem cell_set_other {w : World} {a p : Addr} {v : Value} (h : w.cell? a = some v) (u : Value) (hne : p.block ≠ a.block) : (w.setCell p u).cell? a = some v :=
  (World.cell?_of_block (w := w) (Below.heap_setCell w p u a.block (fun e => hne e.symm))).trans h
theorem cell_two {w : World} {a : Addr} {v : Value} (h : w.cell? a = some v) (o : Obj) (s : Nat) : (two w o s).cell? a = some v := by
  unfold two; split
  · exact h
  · exact cell_alloc h o
/-- A block of two cells that was laid, and then filled. -/
theorem two_filled {W : World} {N : Nat} (hN : W.heap.size = N) (x y u v : Value) (t : TypeId) (n : Nat) :
    ((((W.alloc (.cells #[x, y] t)).drewN n).setCell ⟨N, 0, none⟩ u).setCell ⟨N, 1, none⟩ v) = (W.alloc (.cells #[u, v] t)).drewN n := by
  subst hN
  show (((W.alloc (.cells #[x, y] t)).setCell ⟨W.heap.size, 0, none⟩ u).setCell ⟨W.heap.size, 1, none⟩ v).drewN n = _
  rw [World.setCell_alloc_at _ _ _ _ _ rfl, World.setCell_alloc_at _ _ _ _ _ rfl]
  rfl
theorem cell_two_new {W : World} {N : Nat} (hN : W.heap.size = N) (u v : Value) (t : TypeId) (n : Nat) :
    ((W.alloc (.cells #[u, v] t)).drewN n).cell? ⟨N, 0, none⟩ = some u ∧ ((W.alloc (.cells #[u, v] t)).drewN n).cell? ⟨N, 1, none⟩ = some v := by
  subst hN
  exact ⟨World.cell?_alloc_at (w := W) _ t _ _ rfl, World.cell?_alloc_at (w := W) _ t _ _ rfl⟩
/-- A callee that leaves the world as it was, met in a world of the class. -/
theorem Calls.drawn {P : Program} {f : FuncId} {args : Array Value} {w : World} {n : Nat} {v : Value}
    (h : Calls P f args (w.drewN n) fun e w' => e = .returned v ∧ w.drewN n = w') : Calls P f args (w.drewN n) fun e w'' => e = .returned v ∧ ∃ m, w'' = w.drewN m :=
  h.mono fun _ _ ⟨he, hm⟩ => ⟨he, n, hm.symm⟩
end Go.Proofs.YtijnpkbijljnlaaDoor
