/-
  patch.Size; what is made gives back what it was made of; the walk of PatchBack.
-/
import Derived.Test.YtgelgpcpllmnkaaPatchApply
import Derived.Test.YtgelgpcpllmnkaaSliceEqual
namespace Go.Proofs.Ytgelgpcpllmnkaa
open Go.RowKit
def sizePc (p : Pc) : Nat := 2 + (p.2.2.length - 1)
def sizeL (ps : List Pc) : Nat := (ps.map sizePc).sum
theorem sizeL_snoc (ps : List Pc) (p : Pc) : sizeL (ps ++ [p]) = sizeL ps + sizePc p := by simp [sizeL]
set_option maxRecDepth 100000 in
set_option maxHeartbeats 2000000 in
theorem size_any (po : Option Addr) (cp : Nat) (ps : List Pc) (va : Nat → Option Addr) (vc : Nat → Nat) (w : World) (hp : PcsAt w po ps va vc) (hn : ps.length ≤ 10000) (hfs : ∀ p ∈ ps, p.2.2.length ≤ 10000) :
    Calls Try.prog 49 #[.slice po ps.length cp] w fun e w' => e = .returned (.int .i64 (sizeL ps : Nat)) ∧ Below w.heap.size w w' := by
  obtain ⟨n, hnn⟩ : ∃ n, ps.length = n := ⟨_, rfl⟩
  have HNN := hid hnn
  rw [hnn] at hn ⊢
  clear hnn
  go_enter Try.func49, Try.ntmps49
  go_wp2
  go_loopw [3, 5, 8] (fun s_ _ ix wr => ∃ (i s : Nat), ix = .int .i64 i ∧ s_ = .int .i64 s ∧ i ≤ n ∧ s ≤ i * 10002 ∧ Hid (s = sizeL (ps.take i)) ∧ Below w.heap.size w wr) (fun _ _ ix _ => n - (intOf ix).toNat)
  case atStart => exact ⟨0, 0, rfl, rfl, Nat.zero_le _, Nat.zero_le _, rfl, Below.refl _ _⟩
  case round =>
    obtain ⟨i, s, rfl, rfl, hin, hs, HS, hbr⟩ := hrel
    rcases Nat.lt_or_ge i n with hlt | hge
    · have t0 : decide ((i : Int) < (n : Int)) = true := by simp; omega
      have hil : i < ps.length := by have := HNN.out; omega
      have HT := hid (show sizeL (ps.take (i + 1)) = s + sizePc ps[i] by rw [List.take_succ_eq_append_getElem hil, sizeL_snoc, HS.out])
      have hf := hfs ps[i] (List.getElem_mem _)
      clear HS
      obtain ⟨b, o, rfl, ⟨c0, c1, c2⟩, _, _, _⟩ := (hp.below hbr) i hil
      obtain ⟨p, hpp⟩ : ∃ p, ps[i] = p := ⟨_, rfl⟩
      rw [hpp] at HT c0 c1 c2 hf
      clear hpp
      obtain ⟨fr, mn, fs⟩ := p
      simp only at c0 c1 c2 hf
      have hbx := hbr.alloc hbr.size (Obj.cells #[.int .i64 fr, .int .i64 mn, .slice (va i) fs.length (vc i)] 88)
      obtain ⟨m, hm⟩ : ∃ m, fs.length = m := ⟨_, rfl⟩
      have HP := hid (show sizePc (fr, mn, fs) = 2 + (m - 1) by unfold sizePc; rw [hm])
      rw [hm] at c2 hbx hf
      clear hm
      rcases Nat.eq_zero_or_pos m with h0 | h0
      · subst h0
        go_wp2
        go_roundw
        case rel => exact ⟨i + 1, s + 2, by go_num, by go_num, hlt, by omega, by show _ = _; rw [HT.out, HP.out], hbx⟩
        case measure => simp [intOf]; omega
      · have d0 : decide (0 < (m : Int)) = true := by simp; omega
        go_wp2
        go_roundw
        case rel => exact ⟨i + 1, s + 2 + (m - 1), by go_num, by go_num, hlt, by omega, by show _ = _; rw [HT.out, HP.out, Nat.add_assoc], hbx⟩
        case measure => simp [intOf]; omega
    · obtain rfl : i = n := by omega
      have HE := hid (show s = sizeL ps by rw [HS.out, List.take_of_length_le (by have := HNN.out; omega)])
      clear HS
      have t0 : decide ((i : Int) < (i : Int)) = false := by simp
      go_wp2
      go_ret
      exact ⟨by rw [← HE.out]; rfl, hbr⟩
/-! ### pieces of one's own, as they lie -/
theorem cellsP_get : ∀ (ps : List (Pc × Value)) (i : Nat) (h : i < ps.length) (j : Nat), j < 3 → (cellsP ps)[i * 3 + j]? = (cellsOfPc ps[i])[j]?
  | [], i, h, _, _ => by cases h
  | p :: ps, 0, _, j, hj => by
    show (cellsOfPc p ++ cellsP ps)[0 * 3 + j]? = _
    rw [Nat.zero_mul, Nat.zero_add, List.getElem?_append_left (by simpa [cellsOfPc] using hj)]; rfl
  | p :: ps, i + 1, h, j, hj => by
    show (cellsOfPc p ++ cellsP ps)[(i + 1) * 3 + j]? = _
    rw [List.getElem?_append_right (by simp [cellsOfPc]; omega), show (i + 1) * 3 + j - (cellsOfPc p).length = i * 3 + j by simp [cellsOfPc]; omega, cellsP_get ps i (by simpa using h) j hj]
    rfl
def slA : Value → Option Addr | .slice a _ _ => a | _ => none
def slC : Value → Nat | .slice _ _ c => c | _ => 0
def vaOf (ps : List (Pc × Value)) (i : Nat) : Option Addr := slA ((ps[i]?).elim undef Prod.snd)
def vcOf (ps : List (Pc × Value)) (i : Nat) : Nat := slC ((ps[i]?).elim undef Prod.snd)
theorem pcs_of_own {W : World} {B : Nat} {no : Option Nat} {v : Value} {ps : List (Pc × Value)} (h : W.ownsRow B 88 3 v ps.length (cellsP ps)) (hok : ∀ x ∈ ps, PcOk W B no x) :
    ∃ ao c, v = .slice ao ps.length c ∧ PcsAt W ao (ps.map Prod.fst) (vaOf ps) (vcOf ps) := by
  rcases h.2 with ⟨e, h2⟩ | ⟨g, cap, cur, e, _, _, _⟩
  · rw [e, h2]
    exact ⟨none, 0, rfl, fun i hi => by rw [List.length_map] at hi; omega⟩
  · subst e
    refine ⟨_, _, rfl, fun i hi => ?_⟩
    rw [List.length_map] at hi
    have hg : ∀ j, j < 3 → W.cell? ⟨g, 0 + i * 3 + j, none⟩ = (cellsOfPc ps[i])[j]? := fun j hj => by
      rw [Nat.zero_add, h.cellAt (i * 3 + j) (by omega), cellsP_get ps i hi j hj]
    have hx := hok ps[i] (List.getElem_mem _)
    have hva : vaOf ps i = slA ps[i].2 := by unfold vaOf; rw [List.getElem?_eq_getElem hi]; rfl
    have hvc : vcOf ps i = slC ps[i].2 := by unfold vcOf; rw [List.getElem?_eq_getElem hi]; rfl
    have e0 : (ps.map Prod.fst)[i]'(by rw [List.length_map]; exact hi) = ps[i].1 := List.getElem_map ..
    rw [e0]
    obtain ⟨x, hx0⟩ : ∃ x, ps[i] = x := ⟨_, rfl⟩
    rw [hx0] at hx hva hvc hg ⊢
    clear hx0
    obtain ⟨⟨fr, mn, fs⟩, u⟩ := x
    dsimp only at hx hva hvc hg ⊢
    have key : ∃ sa sc, u = .slice sa fs.length sc ∧ Row W sa fs.length (fun j => .int .u32 (fs.getD j 0)) ∧ fs.length ≤ sc ∧ sc ≤ maxLen := by
      rcases hx with ⟨h1, h2⟩ | ⟨_, h2, _⟩
      · simp only at h1 h2
        subst h1 h2
        exact ⟨none, 0, rfl, fun i hi => (by cases hi), Nat.le_refl _, Nat.zero_le _⟩
      · obtain ⟨sa, sc, e, h3, h4, h5⟩ := vu_view h2
        exact ⟨sa, sc, e, h5, h3, h4⟩
    obtain ⟨sa, sc, rfl, h3, h4, h5⟩ := key
    rw [hva, hvc]
    exact ⟨g, 0, rfl, ⟨hg 0 (by decide), hg 1 (by decide), hg 2 (by decide)⟩, h3, h4, h5⟩
/-! ### the plain law -/
def wordsP (a : Nat → Int) (ps : List Pc) : List Int := ps.flatMap (wordsOf a)
theorem wordsP_snoc (a : Nat → Int) (ps : List Pc) (p : Pc) : wordsP a (ps ++ [p]) = wordsP a ps ++ wordsOf a p := by simp [wordsP]
theorem wordsP_flush (a : Nat → Int) (ps : List Pc) (fs : List Int) : wordsP a (flushF ps fs) = wordsP a ps ++ fs := by
  unfold flushF
  split
  · rename_i h; rw [h, List.append_nil]
  · rename_i h; rw [wordsP_snoc, wordsOf, if_neg h]
theorem sizeL_flush (ps : List Pc) (fs : List Int) : sizeL (flushF ps fs) = sizeL ps + if fs = [] then 0 else fs.length + 1 := by
  unfold flushF
  split
  · rename_i h; simp [h]
  · rename_i h
    have : 0 < fs.length := List.length_pos_iff.2 h
    rw [sizeL_snoc, sizePc]
    simp only; omega
structure Good (a b : Nat → Int) (la k : Nat) (ps : List Pc) (fs : List Int) : Prop where
  words : wordsP a ps ++ fs = (List.range k).map b
  good : ∀ p ∈ ps, badPc la p = false
  size : (sizeL ps + if fs = [] then 0 else fs.length + 1) ≤ k + if fs = [] then 0 else 1
  lens : ∀ p ∈ ps, p.2.2.length ≤ k
  flen : fs.length ≤ k
  many : ps.length ≤ k
theorem good_flush {la k : Nat} {ps : List Pc} {fs : List Int} (h : ∀ p ∈ ps, badPc la p = false) : ∀ p ∈ flushF ps fs, badPc la p = false := fun p hp => by
  unfold flushF at hp
  split at hp
  · exact h p hp
  · rename_i hne
    rcases List.mem_append.1 hp with hp | hp
    · exact h p hp
    · obtain rfl : p = (0, 0, fs) := by simpa using hp
      unfold badPc
      rw [if_neg hne]; rfl
structure Done (a b : Nat → Int) (la lb : Nat) (qs : List Pc) : Prop where
  words : wordsP a qs = (List.range lb).map b
  good : ∀ p ∈ qs, badPc la p = false
  size : sizeL qs ≤ lb + 1
  lens : ∀ p ∈ qs, p.2.2.length ≤ lb
  many : qs.length ≤ lb + 1
theorem done_flush {a b : Nat → Int} {la k : Nat} {ps : List Pc} {fs : List Int} (h : Good a b la k ps fs) : Done a b la k (flushF ps fs) := by
  refine ⟨by rw [wordsP_flush]; exact h.words, good_flush (k := k) h.good, ?_, fun p hp => ?_, by have := flushF_len ps fs; have := h.many; omega⟩
  · have := h.size
    rw [sizeL_flush]
    split at this <;> split <;> simp_all <;> omega
  · unfold flushF at hp
    split at hp
    · exact h.lens p hp
    · rcases List.mem_append.1 hp with hp | hp
      · exact h.lens p hp
      · obtain rfl : p = (0, 0, fs) := by simpa using hp
        exact h.flen
theorem make_done (a b : Nat → Int) (la lb : Nat) : ∀ m k ps fs, lb ≤ k + m → k ≤ lb → Good a b la k ps fs → Done a b la lb (makeF a b la lb m k ps fs) := by
  intro m
  induction m with
  | zero =>
    intro k ps fs hm hk h
    obtain rfl : k = lb := by omega
    exact done_flush h
  | succ m ih =>
    intro k ps fs hm hk h
    rcases Nat.lt_or_ge k lb with hlt | hge
    · by_cases h4 : (longF a b la lb k la).2 < 4
      · rw [makeF_new (by omega) hlt h4]
        refine ih (k + 1) ps (fs ++ [b k]) (by omega) hlt ⟨?_, h.good, ?_, fun p hp => by have := h.lens p hp; omega, by have := h.flen; simp; omega, by have := h.many; omega⟩
        · rw [← List.append_assoc, h.words, List.range_succ, List.map_append]; rfl
        · have hs := h.size
          rw [if_neg (by simp), if_neg (by simp), List.length_append]
          split at hs
          · rename_i h0; rw [h0]; simp; omega
          · simp; omega
      · rw [makeF_old (by omega) hlt h4]
        have hle := longF_le (a := a) (b := b) (la := la) (lb := lb) (k := k) (by omega)
        have hsp := longF_spec (a := a) (b := b) (la := la) (lb := lb) (k := k) la
        obtain ⟨⟨r, q⟩, hr⟩ : ∃ y, longF a b la lb k la = y := ⟨_, rfl⟩
        rw [hr] at h4 hle hsp ⊢
        dsimp only at h4 hle hsp ⊢
        have hd := done_flush h
        refine ih (k + q) _ [] (by omega) hle.2 ⟨?_, fun p hp => ?_, ?_, fun p hp => ?_, by simp, ?_⟩
        · rw [wordsP_snoc, List.append_nil, hd.words, List.range_add, List.map_append, List.map_map]
          congr 1
          unfold wordsOf
          rw [if_pos rfl]
          simp only [Int.toNat_natCast]
          refine List.map_congr_left fun j hj => ?_
          have := hsp j (List.mem_range.1 hj)
          exact this.2.2
        · rcases List.mem_append.1 hp with hp | hp
          · exact hd.good p hp
          · obtain rfl : p = ((r : Int), (q : Int), []) := by simpa using hp
            unfold badPc
            rw [if_pos rfl]
            simp
            omega
        · rw [sizeL_snoc, if_pos rfl, if_pos rfl]
          have := hd.size
          show sizeL (flushF ps fs) + 2 + 0 ≤ _
          omega
        · rcases List.mem_append.1 hp with hp | hp
          · have := hd.lens p hp; omega
          · obtain rfl : p = ((r : Int), (q : Int), []) := by simpa using hp
            exact Nat.zero_le _
        · have := hd.many
          simp
          omega
    · rw [makeF_end _ _ _ hge]
      obtain rfl : k = lb := by omega
      exact done_flush h
theorem make_is_done (a b : Nat → Int) (la lb : Nat) : Done a b la lb (makeF a b la lb lb 0 [] []) :=
  make_done a b la lb lb 0 [] [] (by omega) (Nat.zero_le _) ⟨rfl, fun _ h => (by cases h), Nat.le_refl _, fun _ h => (by cases h), Nat.le_refl _, Nat.le_refl _⟩
theorem apply_good (a : Nat → Int) (la : Nat) : ∀ (ps : List Pc) (out : List Int), (∀ p ∈ ps, badPc la p = false) → out.length + (wordsP a ps).length ≤ 4096 → applyL a la ps out = (out ++ wordsP a ps, 0)
  | [], out, _, _ => by show (out, (0 : Int)) = (out ++ [], 0); rw [List.append_nil]
  | p :: ps, out, hg, hl => by
    have hc : wordsP a (p :: ps) = wordsOf a p ++ wordsP a ps := List.flatMap_cons
    rw [hc, List.length_append] at hl
    show (if _ then _ else if _ then _ else _) = _
    rw [if_neg (by rw [hg p (by simp)]; simp), if_neg (by omega), apply_good a la ps _ (fun q hq => hg q (List.mem_cons_of_mem _ hq)) (by rw [List.length_append]; omega), hc, List.append_assoc]
set_option maxRecDepth 100000 in
set_option maxHeartbeats 2000000 in
theorem patchBack_walk (ao bo : Option Addr) (la lb ca cb : Nat) (a b : Nat → Int) (w : World) (ha : Row w ao la (fun j => .int .u32 (a j))) (hb : Row w bo lb (fun j => .int .u32 (b j))) (hca : la ≤ ca) (hcam : ca ≤ maxLen) :
    Calls Try.prog 13 #[.slice ao la ca, .slice bo lb cb] w fun e w' => e = .returned (.bool true) ∧ Below w.heap.size w w' := by
  by_cases h1 : 400 < la
  · have d1 : decide (400 < (la : Int)) = true := by simp; omega
    go_enter Try.func13, Try.ntmps13
    go_wp2
    go_ret
    exact ⟨rfl, Below.refl _ _⟩
  · have d1 : decide (400 < (la : Int)) = false := by simp; omega
    by_cases h2 : 400 < lb
    · have d2 : decide (400 < (lb : Int)) = true := by simp; omega
      go_enter Try.func13, Try.ntmps13
      go_wp2
      go_ret
      exact ⟨rfl, Below.refl _ _⟩
    · have d2 : decide (400 < (lb : Int)) = false := by simp; omega
      have HM := hid (make_any ao bo la lb ca cb a b w ha hb (by omega) (by omega))
      obtain ⟨D1, D2, D3, D4, D5⟩ := make_is_done a b la lb
      obtain ⟨qs, hqs⟩ : ∃ qs, makeF a b la lb lb 0 [] [] = qs := ⟨_, rfl⟩
      rw [hqs] at HM D1 D2 D3 D4 D5
      clear hqs
      have HA := hid (apply_good a la qs [] D2 (by rw [D1]; simp; omega))
      obtain ⟨L, hL⟩ : ∃ L, (List.range lb).map b = L := ⟨_, rfl⟩
      have hLl : L.length = lb := by rw [← hL]; simp
      have HEL : Hid (eqL (fun i => L.getD i 0) b L.length lb = true) := by
        show _ = _
        rw [hLl]
        exact eqL_all fun j hj => by rw [← hL]; simp [List.getD, hj]
      rw [D1, hL, List.nil_append] at HA
      clear hL D1 D2
      have HLL := hid hLl
      clear hLl
      have HD4 := hid D4
      clear D4
      go_enter Try.func13, Try.ntmps13
      go_wp2_with fail
      refine HM.out.mono ?_
      rintro e w1 ⟨v, ps, rfl, hown, hmap, hok, b1⟩
      obtain ⟨po, cp, rfl, hpc⟩ := pcs_of_own hown hok
      have hpl : ps.length = qs.length := by rw [← hmap, List.length_map]
      rw [hmap] at hpc
      rw [hpl]
      clear hmap hok hown HM hpl
      go_wp2_with fail
      refine (apply_any ao po la ca cp a qs _ _ w1 (ha.below b1) hpc (by omega) hca hcam (by omega)).mono ?_
      rw [HA.out]
      rintro e w2 ⟨v2, rfl, hown2, hb2⟩
      have b2 := b1.trans (hb2.mono b1.size)
      obtain ⟨ra, rc, rfl, hrc, hrm, hrr⟩ := vu_view hown2
      have hpc2 := hpc.below hb2
      have HE := equal_any ra bo L.length lb rc cb _ _ w2 hrr (hb.below b2) (by have := HLL.out; omega)
      rw [HEL.out] at HE
      clear HA
      go_wp2_with fail
      refine HE.mono ?_
      rintro e w3 ⟨rfl, hb3⟩
      have b3 := b2.trans (hb3.mono b2.size)
      clear HE
      have HZ := hid (size_any po cp qs _ _ w3 (hpc2.below hb3) (by omega) (fun p hp => by have := HD4.out p hp; omega))
      obtain ⟨z, hz⟩ : ∃ z, sizeL qs = z := ⟨_, rfl⟩
      rw [hz] at HZ D3
      clear hz
      have dz : decide ((z : Int) ≤ (lb : Int) + 1) = true := by simp; omega
      go_wp2_with fail
      refine HZ.out.mono ?_
      rintro e w4 ⟨rfl, hb4⟩
      have b4 := b3.trans (hb4.mono b3.size)
      go_wp2_with fail
      refine (patchAlive_any _).mono ?_
      rintro e w5 ⟨rfl, hb5⟩
      go_wp2_with fail
      go_ret
      exact ⟨rfl, b4.trans (hb5.mono b4.size)⟩
end Go.Proofs.Ytgelgpcpllmnkaa
