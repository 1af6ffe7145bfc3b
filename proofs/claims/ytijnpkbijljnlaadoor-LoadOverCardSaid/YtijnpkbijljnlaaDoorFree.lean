/-
  A region that draws its order, whatever of its effects may go ahead of which: all that floats first, then the effects in each order that they may have.
-/
import Derived.Test.YtijnpkbijljnlaaDoorChain
namespace Go.Proofs.YtijnpkbijljnlaaDoor
open Go.RowKit
section
variable {P : Program} {ops : Array Oper}
def rdyB (ops : Array Oper) (rem : List Nat) (i : Nat) : Bool := rem.all fun r => !(ops[i]?).any (waitsB r)
/-- One that waits for all others, directly or by one between. -/
def allB (ops : Array Oper) (i : Nat) : Bool := (List.range ops.size).all fun j => (j == i) || (ops[i]?).any fun o => waitsB j o || o.after.any fun e => Region.binds .any e && (ops[e.on]?).any (waitsB j)
/-- The effects that are left, in each order. -/
def wpTs (P : Program) (ops : Array Oper) (C : World → Prop) (Q : Act → World → Prop) : Nat → List Nat → Act → World → Prop
  | 0, _, a, w => Q a w
  | m + 1, rem, a, w => ∀ i, i ∈ rem → rdyB ops rem i = true → ∃ o, ops[i]? = some o ∧ wpList P ops (only fun a' w' => (allB ops i = true ∨ C w') ∧ wpTs P ops C Q m (rem.erase i) a' w') [o] a w
structure FreeOk (ops : Array Oper) (T : List Nat) : Prop where
  lx : LexOk ops ops.size
  flo : ∀ k ok, T.contains k = false → ops[k]? = some ok → ∀ e ∈ ok.after, Region.binds .any e = true → T.contains e.on = false
theorem wpAny_free {T : List Nat} (ck : FreeOk ops T) {C : World → Prop} {Q' : Exit → Act → World → Prop} {a0 : Act} {V : Nat → Value} (hstep : ∀ j o, T.contains j = false → ops[j]? = some o → FlOk P ops C T a0 V j o) :
    ∀ (u : Nat) (listed : Array Bool) (w : World) (rem : List Nat) (V' : Nat → Value) (ds : List Deferred), left listed ops.size = u → HeadInv .any ops ops.size listed → (u ≠ 0 → C w) → (∀ j, flo T j = true → V' j = V j) →
      (∀ j, j < ops.size → T.contains j = true → (listed.getD j false = false ↔ j ∈ rem)) → (∀ j, j ∈ rem → j < ops.size ∧ T.contains j = true) → rem.Nodup →
      wpTs P ops C (fun a w => Q' .normal a w) rem.length rem (FF ops V' (fun j => listed.getD j false || flo T j) { a0 with defers := ds } ops.size) w →
      wpAny P .any ops Q' u listed (FF ops V' (fun j => listed.getD j false) { a0 with defers := ds } ops.size) w
  | 0, listed, w, rem, V', ds, hu, inv, hC, hV, hrem, hin, hch, h => by
    have hall := left_zero hu
    have hrr : Region.ready .any ops listed = [] := by
      cases hr : Region.ready .any ops listed with
      | nil => rfl
      | cons i r =>
        have hi : i ∈ Region.ready .any ops listed := by rw [hr]; simp
        obtain ⟨hun, o, ho, _⟩ := mem_ready.1 hi
        have := hall i (Array.getElem?_eq_some_iff.1 ho).1
        rw [getD_both hun] at this
        cases this
    refine ⟨hrr, ?_⟩
    cases rem with
    | nil =>
      have e : FF ops V' (fun j => listed.getD j false || flo T j) { a0 with defers := ds } ops.size = FF ops V' (fun j => listed.getD j false) { a0 with defers := ds } ops.size := FF_congr _ _ _ fun j hj => by rw [hall j hj]; rfl
      rw [e] at h
      exact h
    | cons r0 rs =>
      have h1 := hin r0 (by simp)
      have h2 := (hrem r0 h1.1 h1.2).2 (by simp)
      rw [hall r0 h1.1] at h2
      cases h2
  | u + 1, listed, w, rem, V', ds, hu, inv, hC, hV, hrem, hin, hch, h => by
    have lx := ck.lx
    have hsel : ∀ (j : Nat) (o : Oper) (cs : Array SelectCase) (b : Bool), ops[j]? = some o → o.op ≠ .select cs b := fun j o cs b h => Region.noSelect_spec lx.sel j o cs b h
    obtain ⟨r, hrN, hrl, hrb⟩ := left_some (listed := listed) (m := ops.size) (by omega)
    have hrr : r ∈ Region.ready .any ops listed := by
      have hro : ops[r]? = some ops[r] := Array.getElem?_eq_getElem (by omega)
      refine mem_ready.2 ⟨getD_in (by rw [inv.size]; omega) hrl, _, hro, fun e he hb => hrb _ (lx.back r _ hrN hro e he hb)⟩
    refine ⟨fun h0 => (by rw [h0] at hrr; cases hrr), fun i hi => ?_⟩
    obtain ⟨hun, o, ho, hall⟩ := mem_ready.1 hi
    have hiN : i < ops.size := (Array.getElem?_eq_some_iff.1 ho).1
    have his : i < listed.size := by rw [inv.size]; omega
    have hleft : left (listed.setIfInBounds i true) ops.size = u := by
      have : left listed ops.size = left (listed.setIfInBounds i true) ops.size + 1 := by
        refine cnt_set _ _ i ops.size hiN ?_ ?_ fun j hj => ?_
        · simp only [getD_set' his, decide_true, Bool.true_or, Bool.not_true]
        · simp only [getD_both hun, Bool.not_false]
        · simp only [getD_set' his, hj, decide_false, Bool.false_or]
      omega
    have hinv' := inv.set hi hiN
    have hdst : dstAt ops i = o.dst := by unfold dstAt; rw [ho]; rfl
    have at_dst : ∀ {j t : Nat}, dstAt ops j = some t → ∃ oj, ops[j]? = some oj ∧ oj.dst = some t := fun {j t} hd => by
      unfold dstAt at hd
      cases h : ops[j]? with
      | none => rw [h] at hd; cases hd
      | some oj => rw [h] at hd; exact ⟨oj, rfl, hd⟩
    cases hT : T.contains i with
    | false =>
      have hfi : flo T i = true := by unfold flo; rw [hT]; rfl
      have hagree : ∀ t, t ∈ o.looksAt ops → (FF ops V' (fun j => listed.getD j false) { a0 with defers := ds } ops.size).tmps[t]? = (FF ops V (flo T) a0 i).tmps[t]? := fun t ht => by
        rw [FF_get, FF_get, agree lx inv V' _ hiN ho hi ht, LK_defers]
        rw [show LK ops V (flo T) a0 t i = LK ops V' (flo T) a0 t i from LK_V _ _ _ _ fun j _ hj => (hV j hj).symm, ← LK_cut V' (flo T) a0 t i ops.size (by omega)]
        refine LK_congr V' a0 t ops.size fun j hj hd => ?_
        by_cases hji : j < i
        · simp only [hji, decide_true, Bool.true_and]
          cases hf : flo T j with
          | true => rfl
          | false =>
            exfalso
            obtain ⟨oj, hoj, hdj⟩ := at_dst hd
            have hjT : T.contains j = true := by unfold flo at hf; simpa using hf
            rcases lx.pair j i oj o hji hiN hoj ho with ⟨o', ho', e, he, hb, hon⟩ | hap
            · obtain rfl : o' = o := Option.some.inj (ho'.symm.trans ho)
              have := ck.flo i o' hT ho e he hb
              rw [hon, hjT] at this
              cases this
            · exact absurd ht ((Oper.apart_spec hap).1 t hdj)
        · simp only [hji, decide_false, Bool.false_and]
      have hwant := wanted_of_agree (ops := ops) hagree
      have hexec := exec_of_agree (ops := ops) (hsel i o · · ho) hagree
      have hput := put_FF lx inv V' { a0 with defers := ds } hiN ho hi
      have next : wpAny P .any ops Q' u (listed.setIfInBounds i true) ((FF ops V' (fun j => listed.getD j false) { a0 with defers := ds } ops.size).put o.dst (V i)) w := by
        rw [← hV i hfi, hput]
        refine wpAny_free ck hstep u _ w rem V' ds hleft hinv' (fun _ => hC (by omega)) hV (fun j hj hjT => ?_) hin hch ?_
        · rw [getD_set' his]
          have : j ≠ i := fun e => by subst e; rw [hT] at hjT; cases hjT
          simp only [this, decide_false, Bool.false_or]
          exact hrem j hj hjT
        · have e : FF ops V' (fun j => (listed.setIfInBounds i true).getD j false || flo T j) { a0 with defers := ds } ops.size = FF ops V' (fun j => listed.getD j false || flo T j) { a0 with defers := ds } ops.size := FF_congr _ _ _ fun j hj => by
            rw [getD_set' his]
            by_cases hji : j = i
            · subst hji; rw [hfi]; simp
            · simp only [hji, decide_false, Bool.false_or]
          rw [e]; exact h
      unfold wpOp
      simp only [ho]
      rw [hwant]
      rcases hstep i o hT ho with ⟨hw, hyes⟩ | ⟨hw, hyes⟩
      · rw [if_pos hw]
        left
        unfold Oper.wp
        rw [hexec, hyes w (hC (by omega))]
        exact next
      · rw [if_neg (by rw [hw]; simp), ← hyes]
        exact next
    | true =>
      have hirem : i ∈ rem := (hrem i hiN hT).1 (getD_both hun)
      have hrl : rem.length = (rem.length - 1) + 1 := by have := List.length_pos_of_mem hirem; omega
      have hlen : (rem.erase i).length = rem.length - 1 := List.length_erase_of_mem hirem
      rw [hrl] at h
      have hrdy : rdyB ops rem i = true := List.all_eq_true.2 fun r hr => by
        cases hw : (ops[i]?).any (waitsB r) with
        | false => rfl
        | true =>
          exfalso
          rw [ho] at hw
          have h2 := ready_wf hi (waitsB_spec ho (by simpa using hw))
          have h3 := hin r hr
          rw [(hrem r h3.1 h3.2).2 hr] at h2
          cases h2
      obtain ⟨o', ho', h⟩ := h i hirem hrdy
      obtain rfl : o' = o := Option.some.inj (ho'.symm.trans ho)
      have hagree : ∀ t, t ∈ o'.looksAt ops → (FF ops V' (fun j => listed.getD j false) { a0 with defers := ds } ops.size).tmps[t]? = (FF ops V' (fun j => listed.getD j false || flo T j) { a0 with defers := ds } ops.size).tmps[t]? := fun t ht => by
        rw [FF_get, FF_get]
        refine LK_congr V' _ t ops.size fun j hj hd => ?_
        cases hl : listed.getD j false with
        | true => rfl
        | false =>
          cases hf : flo T j with
          | false => rfl
          | true =>
            exfalso
            have hjT : T.contains j = false := by unfold flo at hf; simpa using hf
            obtain ⟨oj, hoj, hdj⟩ := at_dst hd
            rcases Nat.lt_trichotomy j i with h1 | h1 | h1
            · rcases lx.pair j i oj o' h1 hiN hoj ho with hw | hap
              · have := ready_wf hi hw
                rw [hl] at this; cases this
              · exact absurd ht ((Oper.apart_spec hap).1 t hdj)
            · subst h1; rw [hT] at hjT; cases hjT
            · rcases lx.pair i j o' oj h1 hj ho hoj with ⟨oj', hoj', e, he, hb, hon⟩ | hap
              · obtain rfl : oj' = oj := Option.some.inj (hoj'.symm.trans hoj)
                have := ck.flo j oj' hjT hoj e he hb
                rw [hon, hT] at this; cases this
              · exact absurd ht ((Oper.apart_spec hap).2.2 t hdj)
      have hwant := wanted_of_agree (ops := ops) hagree
      have hexec := exec_of_agree (ops := ops) (hsel i o' · · ho) hagree
      -- the listed ones together with all that floats
      have inv2 : HeadInv .any ops ops.size (withFlo listed T ops.size) := by
        refine ⟨by simp [withFlo], fun j oj hoj hlj e he hb => ?_, fun t h1 h2 => by omega⟩
        have hj : j < ops.size := (Array.getElem?_eq_some_iff.1 hoj).1
        have hej : e.on < ops.size := by have := lx.back j oj hj hoj e he hb; omega
        rw [withFlo_getD hj] at hlj
        rw [withFlo_getD hej]
        cases hl : listed.getD j false with
        | true => rw [inv.closed j oj hoj hl e he hb]; rfl
        | false =>
          rw [hl, Bool.false_or] at hlj
          have hjT : T.contains j = false := by unfold flo at hlj; simpa using hlj
          have := ck.flo j oj hjT hoj e he hb
          unfold flo; rw [this]; simp
      have hi2 : i ∈ Region.ready .any ops (withFlo listed T ops.size) := by
        refine mem_ready.2 ⟨?_, o', ho, fun e he hb => ?_⟩
        · rw [withFlo_getD hiN, getD_both hun]; unfold flo; rw [hT]; rfl
        · have hej : e.on < ops.size := by have := lx.back i o' hiN ho e he hb; omega
          rw [withFlo_getD hej, hall e he hb]; rfl
      have hzero : allB ops i = true → u = 0 := fun hall => by
        rw [← hleft]
        have hl : ∀ j, j < ops.size → (listed.setIfInBounds i true).getD j false = true := fun j hj => by
          rw [getD_set' his]
          have h1 := List.all_eq_true.1 hall j (List.mem_range.2 hj)
          rw [ho] at h1
          by_cases hji : j = i
          · simp [hji]
          · have h2 : waitsB j o' = true ∨ (o'.after.any fun e => Region.binds .any e && (ops[e.on]?).any (waitsB j)) = true := by simpa [hji] using h1
            rcases h2 with h2 | h2
            · rw [ready_wf hi (waitsB_spec ho h2)]; simp
            · obtain ⟨e, he, hb⟩ := Array.any_eq_true'.1 h2
              simp only [Bool.and_eq_true] at hb
              cases hz : ops[e.on]? with
              | none => rw [hz] at hb; simp at hb
              | some z =>
                rw [hz] at hb
                have h3 := ready_wf hi ⟨o', ho, e, he, hb.1, rfl⟩
                rw [listed_wf inv h3 (waitsB_spec hz hb.2)]; simp
        have : ∀ m, m ≤ ops.size → left (listed.setIfInBounds i true) m = 0 := fun m => by
          induction m with
          | zero => intro _; rfl
          | succ m ih => intro hm; have := ih (by omega); unfold left at this ⊢; simp only [cnt]; rw [this]; simp only [hl m (by omega), Bool.not_true, Bool.false_eq_true, if_false]
        exact this _ (Nat.le_refl _)
      have next : ∀ (v : Value) (w' : World) (ds' : List Deferred), ((allB ops i = true ∨ C w') ∧ wpTs P ops C (fun a w => Q' .normal a w) (rem.length - 1) (rem.erase i) ((FF ops V' (fun j => listed.getD j false || flo T j) { a0 with defers := ds' } ops.size).put o'.dst v) w') →
          wpAny P .any ops Q' u (listed.setIfInBounds i true) ((FF ops V' (fun j => listed.getD j false) { a0 with defers := ds' } ops.size).put o'.dst v) w' := fun v w' ds' hK => by
        obtain ⟨V2, hV2⟩ : ∃ V2 : Nat → Value, V2 = fun j => if j = i then v else V' j := ⟨_, rfl⟩
        have hne : ∀ j, j ≠ i → V' j = V2 j := fun j hj => by rw [hV2]; simp [hj]
        have hvi : V2 i = v := by rw [hV2]; simp
        have e1 : FF ops V' (fun j => listed.getD j false) { a0 with defers := ds' } ops.size = FF ops V2 (fun j => listed.getD j false) { a0 with defers := ds' } ops.size := FF_Vc _ _ _ fun j hj hl => hne j fun e => by subst e; rw [getD_both hun] at hl; cases hl
        have e2 : FF ops V' (fun j => listed.getD j false || flo T j) { a0 with defers := ds' } ops.size = FF ops V2 (fun j => (withFlo listed T ops.size).getD j false) { a0 with defers := ds' } ops.size := by
          rw [FF_Vc (V := V') (V' := V2) _ _ _ fun j hj hl => hne j fun e => by
            subst e; rw [getD_both hun] at hl; unfold flo at hl; rw [hT] at hl; cases hl]
          exact FF_congr _ _ _ fun j hj => (withFlo_getD hj _).symm
        have p1 := put_FF lx inv V2 { a0 with defers := ds' } hiN ho hi
        have p2 := put_FF lx inv2 V2 { a0 with defers := ds' } hiN ho hi2
        rw [hvi] at p1 p2
        rw [e1, p1]
        rw [e2, p2] at hK
        refine wpAny_free ck hstep u _ w' (rem.erase i) V2 ds' hleft hinv' (fun hu => hK.1.resolve_left fun hall => hu (hzero hall)) (fun j hj => ?_) (fun j hj hjT => ?_) (fun j hj => hin j (List.mem_of_mem_erase hj)) (hch.erase i) ?_
        · rw [← hV j hj, hne j fun e => by subst e; unfold flo at hj; rw [hT] at hj; cases hj]
        · rw [getD_set' his]
          by_cases hji : j = i
          · subst hji
            simp only [decide_true, Bool.true_or, Bool.true_eq_false, false_iff]
            exact fun hm => (hch.mem_erase_iff.1 hm).1 rfl
          · simp only [hji, decide_false, Bool.false_or]
            rw [hrem j hj hjT, hch.mem_erase_iff]
            simp [hji]
        · have e3 : FF ops V2 (fun j => (listed.setIfInBounds i true).getD j false || flo T j) { a0 with defers := ds' } ops.size = FF ops V2 (fun j => ((withFlo listed T ops.size).setIfInBounds i true).getD j false) { a0 with defers := ds' } ops.size := FF_congr _ _ _ fun j hj => by
            rw [getD_set' his, getD_set' (by rw [inv2.size]; exact hiN), withFlo_getD hj, Bool.or_assoc]
          rw [e3, hlen]; exact hK.2
      unfold wpOp
      simp only [ho]
      rw [hwant]
      unfold wpList at h
      by_cases hw : Region.wanted o' (yielded ops (FF ops V' (fun j => listed.getD j false || flo T j) { a0 with defers := ds } ops.size).tmps) = true
      · rw [if_pos hw] at h ⊢
        left
        rcases h with h | ⟨_, h⟩
        rotate_left
        · exact (only_lets h).elim
        unfold Oper.wp at h ⊢
        rw [hexec]
        generalize (execOp (FF ops V' (fun j => listed.getD j false || flo T j) { a0 with defers := ds } ops.size).eval o').run P w = res at h ⊢
        cases res with
        | ok n w' =>
          cases n with
          | value v => exact next _ _ _ h.2
          | skip => exact next _ _ _ h.2
          | defer d =>
            have e := h.2
            simp only [Oper.upon]
            rw [← FF_set_defers] at e ⊢
            rw [FF_defers] at e ⊢
            exact next _ _ _ e
          | enter f args =>
            refine Calls.mono h ?_
            intro e w'' he
            cases e with
            | returned v => exact next _ _ _ he.2
            | panicked ch => exact absurd he.1 (by simp)
            | outgrown => exact (only_lets he).elim
          | row row args =>
            refine Rows.mono h ?_
            intro v w'' he
            exact next _ _ _ he.2
          | _ => exact h.elim
        | halt x w' =>
          cases x with
          | panic v => exact absurd h.1 (by simp)
          | _ => exact h.elim
      · rw [if_neg hw] at h ⊢
        exact next _ _ _ h.2
end
def freeOkB (l : List Oper) (T : List Nat) : Bool :=
  Region.noSelect l.toArray && lexGo l.toArray 0 l && floGo T 0 l && decide T.Nodup && T.all fun j => decide (j < l.length)
theorem wpAny_region_free {P : Program} {Q : Exit → Act → World → Prop} {a : Act} {w : World} {l : List Oper} (T : List Nat) (C : World → Prop) (hB : freeOkB l T = true) (h0 : C w.drew)
    (h : wpFl P l.toArray C T (fun a' => wpTs P l.toArray C (fun a w => Q .normal a w) T.length T a' w.drew) 0 l a) : wpAny P .any l.toArray Q l.toArray.size (Array.replicate l.toArray.size false) a w.drew := by
  simp only [freeOkB, Bool.and_eq_true, decide_eq_true_iff] at hB
  obtain ⟨⟨⟨⟨hsel, hlex⟩, hflo⟩, hnd⟩, hin⟩ := hB
  have hls : l.toArray.size = l.length := by simp
  have lx : LexOk l.toArray l.toArray.size := by
    refine ⟨Nat.le_refl _, hsel, fun k ok hk hok e he hb => ?_, fun k j ok oj hkj hj hok hoj => ?_⟩
    · have := lexGo_back l 0 hlex k ok (by simpa using hok) e he hb
      omega
    · rcases lexGo_pair l 0 hlex k j ok oj hkj (by simpa using hok) (by simpa using hoj) with h1 | h1
      · left; rw [Nat.zero_add] at h1; exact waitsB_spec hoj h1
      · exact .inr h1
  have ck : FreeOk l.toArray T := ⟨lx, fun k ok hT hok e he hb => floGo_spec l 0 hflo k ok (by simpa using hok) (by rw [Nat.zero_add]; exact hT) e he hb⟩
  obtain ⟨V, _, hstep, hfin⟩ := fl_steps (P := P) (ops := l.toArray) (C := C) (T := T) a l 0 a (fun _ => undef) (fun j hj => by rw [Nat.zero_add]; simp) rfl h
  have inv0 : HeadInv .any l.toArray l.toArray.size (Array.replicate l.toArray.size false) :=
    ⟨Array.size_replicate, fun j oj _ hl => (by rw [getD_replicate_false] at hl; cases hl), fun t _ ht => getD_in (by rw [Array.size_replicate]; exact ht) (getD_replicate_false _ _)⟩
  have hleft : left (Array.replicate l.toArray.size false) l.toArray.size = l.toArray.size := by
    have : ∀ m, left (Array.replicate l.toArray.size false) m = m := fun m => by
      induction m with
      | zero => rfl
      | succ m ih => unfold left at ih ⊢; simp only [cnt]; rw [ih]; simp only [getD_replicate_false, Bool.not_false, if_true]
    exact this _
  have hff : FF l.toArray V (fun j => (Array.replicate l.toArray.size false).getD j false) { a with defers := a.defers } l.toArray.size = a := by
    have : ∀ m, FF l.toArray V (fun j => (Array.replicate l.toArray.size false).getD j false) a m = a := fun m => by
      induction m with
      | zero => rfl
      | succ m ih => simp only [FF, getD_replicate_false, Bool.false_eq_true, if_false]; simpa only [getD_replicate_false] using ih
    exact this _
  have := wpAny_free (P := P) (Q' := Q) (a0 := a) (V := V) (C := C) ck (fun j o hT ho => hstep j o (Nat.zero_le _) (by have := (Array.getElem?_eq_some_iff.1 ho).1; rw [hls] at this; omega) hT ho) l.toArray.size _ w.drew T V a.defers hleft inv0 (fun _ => h0) (fun _ _ => rfl)
    (fun j hj hT => ⟨fun _ => by simpa using hT, fun _ => getD_replicate_false _ _⟩) (fun j hj => ⟨by have := List.all_eq_true.1 hin j hj; rw [hls]; simpa using this, by simpa using hj⟩) hnd (by
      have e : FF l.toArray V (fun j => (Array.replicate l.toArray.size false).getD j false || flo T j) { a with defers := a.defers } l.toArray.size = FF l.toArray V (flo T) a (0 + l.length) := by
        rw [Nat.zero_add, ← hls]
        exact FF_congr _ _ _ fun j hj => by rw [getD_replicate_false, Bool.false_or]
      rw [e]; exact hfin)
  rw [hff] at this
  exact this
theorem wp_region_free {P : Program} {id : Nat} {Q : Exit → Act → World → Prop} {a : Act} {w : World} {l : List Oper} (T : List Nat) (C : World → Prop) (hm : P.follows .mixedOrders = true) (hB : freeOkB l T = true) (h0 : C w.drew)
    (h : wpFl P l.toArray C T (fun a' => wpTs P l.toArray C (fun a w => Q .normal a w) T.length T a' w.drew) 0 l a) : (Code.region id l.toArray true).wp P Q a w :=
  wp_region_any hm (wpAny_region_free T C hB h0 h)
section
variable {P : Program} {ops : Array Oper} {C : World → Prop} {Q : Act → World → Prop} {m : Nat} {rem rem1 rem2 : List Nat} {i j : Nat} {o o2 : Oper} {a : Act} {w : World}
/-- One alone may go next. -/
theorem wpTs_1 (hr : rem.filter (rdyB ops rem) = [i]) (he : rem.erase i = rem1) (ho : ops[i]? = some o) (h : ∀ K : Exit → Act → World → Prop, (∀ a' w', C w' → wpTs P ops C Q m rem1 a' w' → K .normal a' w') → wpList P ops K [o] a w) : wpTs P ops C Q (m + 1) rem a w := fun k hk hb => by
  have : k ∈ rem.filter (rdyB ops rem) := List.mem_filter.2 ⟨hk, hb⟩
  rw [hr] at this
  obtain rfl : k = i := by simpa using this
  subst he
  exact ⟨o, ho, h _ fun _ _ h1 h2 => ⟨rfl, .inr h1, h2⟩⟩
/-- Either of two may. -/
theorem wpTs_2 (hr : rem.filter (rdyB ops rem) = [i, j]) (he : rem.erase i = rem1) (he2 : rem.erase j = rem2) (ho : ops[i]? = some o) (ho2 : ops[j]? = some o2) (h : ∀ K : Exit → Act → World → Prop, (∀ a' w', C w' → wpTs P ops C Q m rem1 a' w' → K .normal a' w') → wpList P ops K [o] a w)
    (h2 : ∀ K : Exit → Act → World → Prop, (∀ a' w', C w' → wpTs P ops C Q m rem2 a' w' → K .normal a' w') → wpList P ops K [o2] a w) : wpTs P ops C Q (m + 1) rem a w := fun k hk hb => by
  have : k ∈ rem.filter (rdyB ops rem) := List.mem_filter.2 ⟨hk, hb⟩
  rw [hr] at this
  subst he he2
  rcases (by simpa using this : k = i ∨ k = j) with rfl | rfl
  · exact ⟨o, ho, h _ fun _ _ h1 h2 => ⟨rfl, .inr h1, h2⟩⟩
  · exact ⟨o2, ho2, h2 _ fun _ _ h1 h2 => ⟨rfl, .inr h1, h2⟩⟩
/-- The last one, which waits for all: what it leaves need not be of the class. -/
theorem wpTs_last (hr : rem.filter (rdyB ops rem) = [i]) (he : rem.erase i = rem1) (ho : ops[i]? = some o) (ha : allB ops i = true) (h : ∀ K : Exit → Act → World → Prop, (∀ a' w', wpTs P ops C Q m rem1 a' w' → K .normal a' w') → wpList P ops K [o] a w) : wpTs P ops C Q (m + 1) rem a w := fun k hk hb => by
  have : k ∈ rem.filter (rdyB ops rem) := List.mem_filter.2 ⟨hk, hb⟩
  rw [hr] at this
  obtain rfl : k = i := by simpa using this
  subst he
  exact ⟨o, ho, h _ fun _ _ h2 => ⟨rfl, .inl ha, h2⟩⟩
theorem wpTs_0 (h : Q a w) : wpTs P ops C Q 0 rem a w := h
end
end Go.Proofs.YtijnpkbijljnlaaDoor
