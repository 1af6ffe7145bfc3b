/-
  Layer 2: the walk of CheckSums.
-/
import Derived.Test.YtmjfodaoeeepcaaSumSeqs
import Derived.Test.YtmjfodaoeeepcaaCheckLaws
namespace Go.Proofs.Ytmjfodaoeeepcaa
open Go.RowKit Go.Shelf
def sints (xs : List Int) : List Value := xs.map fun x => .int .i64 x
theorem sints_at {xs : List Int} {i : Nat} (h : i < xs.length) : (sints xs)[i]? = some (.int .i64 (xs.getD i 0)) := by simp [sints, h]
theorem row_sints {w : World} {base n cap : Nat} {e : TypeId} {ao : Option Addr} {xs : List Int} (hn : xs.length = n) (h : w.ownsRow base e 1 (.slice ao n cap) n (sints xs)) : Row w ao n (fun i => .int .i64 (xs.getD i 0)) := by
  refine (row_of_own h).congr fun i hi => ?_
  rw [List.getD_eq_getElem?_getD, sints_at (by omega)]; rfl
structure Stop (p : Prop) : Prop where
  out : p
theorem infoS : (Try.prog.info? 3).map (fun i => (i.zero, i.size, i.bytes)) = some (some (.int .i64 0), 1, 8) := by kernel_rfl
theorem sints_map {xs : List Int} {n : Nat} (h : xs.length = n) : ([] : List Value) ++ (List.range n).map (fun i => Value.int .i64 (xs.getD i 0)) = sints xs := by
  subst h
  apply List.ext_getElem
  · simp [sints]
  · intro i h1 h2
    simp [sints] at h1 ⊢
    simp [h1]
theorem one_new (W : World) (u : Value) (t : TypeId) : ∀ (j : Nat) (x : Value), [u][j]? = some x → (W.alloc (Obj.cells #[u] t)).cell? ((⟨W.heap.size, 0, none⟩ : Addr).add j) = some x := fun j x hj => by
  rw [add_off, Nat.zero_add, World.cell?_alloc_at _ _ _ _ rfl]; simpa using hj
set_option maxRecDepth 100000 in
set_option maxHeartbeats 1000000 in
theorem lazy_any (ao : Option Addr) (n c : Nat) (xs : List Int) (w : World) (hxn : xs.length = n) (hn : n ≤ 1000) (hT : Row w ao n (fun i => .int .i64 (xs.getD i 0))) :
    Calls Try.prog 11 #[.slice ao n c, .bool (rSum xs).2] w fun e w' => e = .returned (.bool true) ∧ Below w.heap.size w w' := by
  obtain ⟨i0, hi, hz0, hz1, hz2⟩ := info_parts infoS
  cases hs : sumF 0 xs with
  | some s =>
    have h1 : (rSum xs).2 = true := by unfold rSum; rw [hs]
    rw [h1]
    clear hs h1
    go_enter Try.func11, Try.ntmps11
    go_wp2
    go_ret
    exact ⟨rfl, Below.refl _ _⟩
  | none =>
    have h1 : (rSum xs).2 = false := by unfold rSum; rw [hs]
    rw [h1]
    have hn1 : 0 < n := by
      rcases Nat.eq_zero_or_pos n with h | h
      · rw [h] at hxn
        rw [List.eq_nil_of_length_eq_zero hxn] at hs
        cases hs
      · exact h
    obtain ⟨b, o, rfl, _⟩ := hT 0 hn1
    have HS := hid hs
    have HN := hid hxn
    have HT := hid hT
    clear hs h1 hxn hT
    have bx := Boxed.new w 4 (.bool false)
    have hb1 := (Below.refl w.heap.size w).alloc (Nat.le_refl _) (Obj.cells #[.bool false] 4)
    have hb2 := hb1.alloc hb1.size (Obj.cells #[] 3)
    have e0 := World.ownsRow_lit (base := w.heap.size + 1) (e := 3) (size := 1) (w.alloc (Obj.cells #[.bool false] 4)) #[] 0 (by simp) (by unfold maxLen; omega) (by simp)
    rw [World.size_alloc] at e0
    have bx2 := bx.alloc (Obj.cells #[] 3)
    have hrow2 := HT.out.below hb2
    have HLS := hid (sints_map HN.out)
    clear bx hb1
    go_enter Try.func11, Try.ntmps11
    go_wp2_with (at_builtin; refine Stop.out ?_)
    refine ⟨?_⟩
    refine wpList_append_own _ rfl _ _ 22 rfl (w.heap.size + 1) 3 i0 (.int .i64 0) 1 8 Try.underlying22 hi hz0 hz1 hz2 rfl (by decide) (.slice (some ⟨w.heap.size + 1, 0, none⟩) 0 0) 0 _ rfl e0 ⟨b, o, none⟩ n c _ rfl (by simp) (news_row hrow2) (news_one fun _ => rfl) (by unfold maxLen; omega) (by omega) (by simp) ?_
    intro v1 w1 hown1 hgrow1 _
    rw [Nat.zero_add] at hown1
    have hown1 : w1.ownsRow (w.heap.size + 1) 3 1 v1 n (sints xs) := by rw [← HLS.out]; exact hown1
    have B1 := hid (hb2.grown hgrow1 hb2.size fun j hj => (by have := (e0.lt j hj).1; omega))
    have X1 := hid (bx2.kept hgrow1 (fun e => by have := (e0.lt _ e.symm).1; omega))
    have hsz1 : w.heap.size + 1 ≤ w1.heap.size := by
      obtain ⟨_, _, _, hg1, hg2, _⟩ := own_form hown1 (by omega)
      omega
    clear hgrow1 hb2 bx2 hrow2 e0
    go_wp2_with (at_builtin; refine Stop.out ?_)
    refine ⟨?_⟩
    refine wpList_append_own _ rfl _ _ 22 rfl (w.heap.size + 1) 3 i0 (.int .i64 0) 1 8 Try.underlying22 hi hz0 hz1 hz2 rfl (by decide) v1 n _ rfl (hown1.alloc _) ⟨w1.heap.size, 0, none⟩ 1 1 [.int .i64 0] rfl rfl (one_new _ _ _) (by simp [Value.oneCell']) (by unfold maxLen; omega) (by omega) (by simp; omega) ?_
    intro v2 w2 hown2 hgrow2 _
    have B2 := hid ((B1.out.alloc B1.out.size _).grown hgrow2 (by have := B1.out.size; simp; omega) fun j hj => (by have := (hown1.lt j hj).1; omega))
    have X2 := hid ((X1.out.alloc _).kept hgrow2 (fun e => by have := (hown1.lt _ e.symm).1; omega))
    obtain ⟨g, cp, rfl, hg1, hg2, _⟩ := own_form hown2 (by omega)
    have O2 := hid hown2
    clear hown1 hgrow2 hown2 B1 X1
    go_wp2_with (go_at_call 39; refine (lrow_any _ _ _ _ _).mono ?_; rintro e w3 ⟨rfl, rfl⟩; refine Stop.out ?_)
    refine ⟨?_⟩
    have hq2 : w.heap.size < w2.heap.size := X2.out.lt
    obtain ⟨W3, hW3⟩ : ∃ W3, W3 = (w2.alloc (.cells #[.slice (some ⟨g, 0, none⟩) (n + 1) cp] 22)).alloc (.cells #[.pointer (some ⟨w.heap.size, 0, none⟩)] 74) := ⟨_, rfl⟩
    have z1 := (Boxed.new w2 22 (.slice (some ⟨g, 0, none⟩) (n + 1) cp)).alloc (.cells #[.pointer (some ⟨w.heap.size, 0, none⟩)] 74)
    have z2 := Boxed.new (w2.alloc (.cells #[.slice (some ⟨g, 0, none⟩) (n + 1) cp] 22)) 74 (.pointer (some ⟨w.heap.size, 0, none⟩))
    have z3 := (X2.out.alloc (.cells #[.slice (some ⟨g, 0, none⟩) (n + 1) cp] 22)).alloc (.cells #[.pointer (some ⟨w.heap.size, 0, none⟩)] 74)
    have z4 := ((O2.out.alloc (.cells #[.slice (some ⟨g, 0, none⟩) (n + 1) cp] 22)).alloc (.cells #[.pointer (some ⟨w.heap.size, 0, none⟩)] 74))
    have z5 := (B2.out.alloc B2.out.size (.cells #[.slice (some ⟨g, 0, none⟩) (n + 1) cp] 22)).alloc (by have := B2.out.size; simp; omega) (.cells #[.pointer (some ⟨w.heap.size, 0, none⟩)] 74)
    rw [World.size_alloc] at z2
    rw [← hW3] at z1 z2 z3 z4 z5 ⊢
    have hL : (xs ++ [0]).length = n + 1 := by rw [List.length_append, HN.out]; rfl
    have z6 : Row W3 (some ⟨g, 0, none⟩) (xs ++ [0]).length (fun i => .int .i64 ((xs ++ [0]).getD i 0)) := by
      rw [hL]
      refine row_sints (base := w.heap.size + 1) (e := 3) (cap := cp) hL ?_
      rw [show sints (xs ++ [0]) = sints xs ++ [.int .i64 0] by simp [sints]]
      exact z4
    have HT' := hid (row1_turns 7 (by omega) w2.heap.size (w2.heap.size + 1) w.heap.size (some ⟨g, 0, none⟩) cp (xs ++ [0]) W3 (by rw [hL]; exact z1) z2 z6 (by omega) (by
      rw [hL, show n + 1 - 1 = xs.length by rw [HN.out]; omega, List.take_left]; exact HS.out))
    have X3 := hid z3
    have B3 := hid z5
    clear z1 z2 z3 z4 z5 z6 hW3 hL B2 X2 O2
    go_wp2_with (go_at_call 8; refine (sum_turns 8 (by omega) 53 _ (xs ++ [0]) W3 (enters_of Try.func53 (by kernel_rfl) rfl) HT'.out).mono ?_; rintro e w4 ⟨rfl, b4⟩; have c4 := (b4.cell (cell_lt X3.out.cell)).trans X3.out.cell; have B4 := hid (B3.out.trans (b4.mono B3.out.size)))
    go_ret
    exact ⟨rfl, B4.out⟩
set_option maxRecDepth 100000 in
set_option maxHeartbeats 1000000 in
theorem checkSums_walk (ao : Option Addr) (n c : Nat) (xs : List Int) (w : World) (hxn : xs.length = n) (hm : n ≤ maxLen) (hT : Row w ao n (fun i => .int .i64 (xs.getD i 0))) :
    Calls Try.prog 3 #[.slice ao n c] w fun e w' => e = .returned (.bool true) ∧ Below w.heap.size w w' := by
  unfold maxLen at hm
  by_cases hg : 1000 < n
  · have d0 : decide (1000 < (n : Int)) = true := by simp; omega
    go_enter Try.func3, Try.ntmps3
    go_wp2
    go_ret
    exact ⟨rfl, Below.refl _ _⟩
  · have d0 : decide (1000 < (n : Int)) = false := by simp; omega
    have hn : n ≤ 1000 := by omega
    have HT := hid hT
    have HN := hid hxn
    have z1 := Boxed.new w 22 (.slice ao n c)
    have hb1 := (Below.refl w.heap.size w).alloc (Nat.le_refl _) (Obj.cells #[.slice ao n c] 22)
    have HV := hid (values1_turns 7 (by omega) w.heap.size ao c xs (w.alloc (Obj.cells #[.slice ao n c] 22)) (by rw [hxn]; exact z1) (by rw [hxn]; exact hT.below hb1) (by omega))
    have HB1 := hid hb1
    clear hg hm hT hxn z1 hb1
    go_enter Try.func3, Try.ntmps3
    go_wp2_with fail
    refine (values_any ao n c w).mono ?_
    rintro e w1 ⟨rfl, rfl⟩
    go_wp2_with fail
    refine (sum_turns 8 (by omega) 37 _ xs _ (enters_of Try.func37 (by kernel_rfl) rfl) HV.out).mono ?_
    rintro e w2 ⟨rfl, b2⟩
    have B2 := hid (HB1.out.trans (b2.mono HB1.out.size))
    have HL := hid (fun (W : World) (hb : Below w.heap.size w W) => lazy_any ao n c xs W HN.out hn (HT.out.below hb))
    have HR := hid (fun (W : World) (hb : Below w.heap.size w W) => refSum02_any ao n c xs HN.out (by omega) W (HT.out.below hb))
    obtain ⟨⟨m, ok⟩, hm⟩ : ∃ y, rSum xs = y := ⟨_, rfl⟩
    rw [hm] at HL HR ⊢
    clear hm b2 HV HB1
    go_wp2_with fail
    refine (HR.out w2 B2.out).mono ?_
    rintro e w3 ⟨rfl, rfl⟩
    have t1 : (m == m) = true := by simp
    have t2 : (ok == ok) = true := by simp
    go_wp2_with fail
    refine (HL.out w2 B2.out).mono ?_
    rintro e w4 ⟨rfl, b4⟩
    have B4 := hid (B2.out.trans (b4.mono B2.out.size))
    clear b4
    go_wp2_with fail
    refine (checkAlive_any _).mono ?_
    rintro e w5 ⟨rfl, b5⟩
    have B5 := hid (B4.out.trans (b5.mono B4.out.size))
    go_wp2
    go_ret
    exact ⟨rfl, B5.out⟩
end Go.Proofs.Ytmjfodaoeeepcaa
