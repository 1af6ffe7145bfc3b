/-
  The walks of RleSmall and RleBack, and the example of layer 54.
-/
import Derived.Test.YtgelgpcpllmnkaaRleLaw
import Derived.Test.YtgelgpcpllmnkaaSliceEqual
namespace Go.Proofs.Ytgelgpcpllmnkaa
open Go.RowKit Go.Shelf
def Wd (x : Int) : Prop := 0 ≤ x ∧ x < 4294967296
theorem wordsN_bd {f : Nat → Int} {n : Nat} (h : ∀ i, i < n → Wd (f i)) : ∀ d k, n - k ≤ d → ∀ x ∈ words f (groupsN f n k), Wd x := by
  intro d
  induction d with
  | zero => intro k hk x hx; rw [groupsN_end (by omega)] at hx; cases hx
  | succ d ih =>
    intro k hk x hx
    rcases Nat.lt_or_ge k n with hlt | hge
    · have hp := grpAt_pos (f := f) hlt
      rw [groupsN_on hlt, words_cons, List.mem_append] at hx
      rcases hx with hx | hx
      · unfold gwords at hx
        split at hx
        · rw [hp.2.2.2] at hx
          rcases List.mem_cons.1 hx with rfl | hx
          · unfold Wd; omega
          · obtain rfl : x = f k := by simpa using hx
            exact h k hlt
        · rcases List.mem_cons.1 hx with rfl | hx
          · unfold Wd; omega
          · obtain ⟨j, hj, rfl⟩ := List.mem_map.1 hx
            have := List.mem_range.1 hj
            exact h _ (by omega)
      · exact ih _ (by omega) x hx
    · rw [groupsN_end hge] at hx; cases hx
theorem packF_bd {f : Nat → Int} {n : Nat} (h : ∀ i, i < n → Wd (f i)) : ∀ i, i < (packF f n).length → Wd ((packF f n).getD i 0) := fun i hi => by
  rw [List.getD, List.getElem?_eq_getElem hi]
  exact wordsN_bd h n 0 (by omega) _ (List.getElem_mem hi)
theorem unpackPost_some {f : Nat → Int} {n most : Nat} {w w' : World} {e : Ending} {out : List Int} (h : unpackF f n most = some out) (hp : UnpackPost f n most w e w') : ∃ v, e = .returned (.tuple #[v, .bool true]) ∧ w'.ownsRow w.heap.size 72 1 v out.length (u32L out) ∧ Below w.heap.size w w' := by
  unfold UnpackPost at hp; rw [h] at hp; exact hp
theorem unpackPost_none {f : Nat → Int} {n most : Nat} {w w' : World} {e : Ending} (h : unpackF f n most = none) (hp : UnpackPost f n most w e w') : e = .returned (.tuple #[.slice none 0 0, .bool false]) ∧ Below w.heap.size w w' := by
  unfold UnpackPost at hp; rw [h] at hp; exact hp
theorem eqL_list {L : List Int} {f : Nat → Int} {n : Nat} (h : L = (List.range n).map f) : eqL (fun i => L.getD i 0) f L.length n = true := by
  have hl : L.length = n := by rw [h]; simp
  rw [hl]
  exact eqL_all fun j hj => by rw [h]; simp [List.getD, hj]
theorem row4 (w : World) (a b c d : Int) : Row (w.alloc (.cells #[.int .u32 a, .int .u32 b, .int .u32 c, .int .u32 d] 72)) (some ⟨w.heap.size, 0, none⟩) 4 (fun i => .int .u32 ([a, b, c, d].getD i 0)) := fun i hi => by
  refine ⟨w.heap.size, 0, rfl, ?_⟩
  rw [Nat.zero_add, World.cell?_alloc_at _ _ _ _ rfl]
  match i, hi with
  | 0, _ => rfl | 1, _ => rfl | 2, _ => rfl | 3, _ => rfl
theorem pack_ex : packF (fun i => [7, 7, 7, 1].getD i 0) 4 = [2147483651, 7, 1, 1] := by decide +kernel
theorem openF_len {f : Nat → Int} {n most : Nat} : ∀ m k (out : List Int) b, out.length ≤ most → openF f n most m k out = some b → b.length ≤ most := by
  intro m
  induction m with
  | zero => intro k out b h hb; unfold openF at hb; cases hb; exact h
  | succ m ih =>
    intro k out b h hb
    unfold openF at hb
    split at hb
    · cases hb; exact h
    · split at hb
      · cases hb
      · rename_i hbad
        refine ih _ _ _ ?_ hb
        rw [List.length_append, told_length]
        unfold badAt at hbad
        omega
theorem unpackF_packL {f : Nat → Int} {n most : Nat} {b : List Int} (h : unpackF f n most = some b) : packF (fun i => b.getD i 0) b.length = (List.range n).map f ∧ b.length ≤ most := by
  unfold unpackF at h
  rw [Option.filter_eq_some_iff] at h
  exact ⟨by simpa [packL] using h.2, openF_len _ _ _ _ (Nat.zero_le _) h.1⟩
set_option maxRecDepth 100000 in
set_option maxHeartbeats 1000000 in
theorem rleAlive_any (w : World) : Calls Try.prog 39 #[] w fun e w' => e = .returned (.bool true) ∧ Below w.heap.size w w' := by
  have HP := hid (pack_any (some ⟨w.heap.size, 0, none⟩) 4 4 (fun i => [7, 7, 7, 1].getD i 0) _ (row4 w 7 7 7 1) (by omega) (by omega) (by unfold maxLen; omega))
  rw [pack_ex] at HP
  have B0 : Below w.heap.size w (w.alloc (Obj.cells #[.int .u32 7, .int .u32 7, .int .u32 7, .int .u32 1] 72)) := (Below.refl _ _).alloc (Nat.le_refl _) _
  go_enter Try.func39, Try.ntmps39
  go_wp2_with fail
  refine HP.out.mono ?_
  rintro e w1 ⟨v, rfl, hp, hb1⟩
  obtain ⟨pa, pc, rfl, hpc, hpm, hpr⟩ := own_view hp
  have b1 := B0.trans (hb1.mono B0.size)
  have HE := hid (equal_any pa (some ⟨w1.heap.size, 0, none⟩) 4 4 pc 4 _ _ _ (hpr.alloc _) (row4 w1 2147483651 7 1 1) (by omega))
  rw [show eqL (fun i => [2147483651, 7, 1, 1].getD i 0) (fun i => [2147483651, 7, 1, 1].getD i 0) 4 4 = true from eqL_all fun _ _ => rfl] at HE
  have b2 := b1.alloc b1.size (Obj.cells #[.int .u32 2147483651, .int .u32 7, .int .u32 1, .int .u32 1] 72)
  go_wp2_with fail
  refine HE.out.mono ?_
  rintro e w2 ⟨rfl, hb2⟩
  go_wp2_with fail
  go_ret
  exact ⟨rfl, b2.trans (hb2.mono b2.size)⟩
set_option maxRecDepth 100000 in
set_option maxHeartbeats 2000000 in
theorem rleBack_walk (ao bo : Option Addr) (n m ca cb : Nat) (f g : Nat → Int) (w : World) (ha : Row w ao n (fun i => .int .u32 (f i))) (hb : Row w bo m (fun i => .int .u32 (g i))) (hf : ∀ i, i < n → Wd (f i)) (hg : ∀ i, i < m → Wd (g i))
    (hn : n ≤ ca) (hnm : ca ≤ maxLen) (hm : m ≤ cb) (hmm : cb ≤ maxLen) :
    Calls Try.prog 9 #[.slice ao n ca, .slice bo m cb] w fun e w' => e = .returned (.bool true) ∧ Below w.heap.size w w' := by
  by_cases h1 : 10000 < n ∨ 10000 < m
  · rcases h1 with h1 | h1
    · have d1 : decide (10000 < (n : Int)) = true := by simp; omega
      go_enter Try.func9, Try.ntmps9
      go_wp2
      go_ret
      exact ⟨rfl, Below.refl _ _⟩
    · have d2 : decide (10000 < (m : Int)) = true := by simp; omega
      go_enter Try.func9, Try.ntmps9
      go_wp2
      all_goals
        go_ret
        exact ⟨rfl, Below.refl _ _⟩
  · have d1 : decide (10000 < (n : Int)) = false := by simp; omega
    have d2 : decide (10000 < (m : Int)) = false := by simp; omega
    have HP := hid (pack_any ao n ca f w ha (by omega) hn hnm)
    have HBD := hid (packF_bd hf)
    have HSH := packF_short f n
    have HU0 := hid (unpack_pack f n n)
    have HU1 := hid (unpack_pack f n (n - 1))
    rw [if_pos (Nat.le_refl n)] at HU0
    obtain ⟨P, hP⟩ : ∃ P, packF f n = P := ⟨_, rfl⟩
    rw [hP] at HP HU0 HU1 HBD HSH
    clear hP
    obtain ⟨L, hL⟩ : ∃ L, (List.range n).map f = L := ⟨_, rfl⟩
    have HEL := hid (eqL_list hL.symm)
    have hLl : L.length = n := by rw [← hL]; simp
    rw [hL] at HU0
    clear hL
    go_enter Try.func9, Try.ntmps9
    go_wp2_with fail
    refine HP.out.mono ?_
    rintro e w1 ⟨v, rfl, hp, hb1⟩
    obtain ⟨pa, pc, rfl, hpc, hpm, hpr⟩ := own_view hp
    go_wp2_with fail
    refine (unpack_any pa P.length pc n (fun i => P.getD i 0) w1 hpr HBD.out (by omega) hpc hpm (by omega)).mono ?_
    intro e w2 hpost
    obtain ⟨v2, rfl, hp2, hb2⟩ := unpackPost_some HU0.out hpost
    have b2 := hb1.trans (hb2.mono hb1.size)
    obtain ⟨qa, qc, rfl, hqc, hqm, hqr⟩ := own_view hp2
    go_wp2_with fail
    have HE := equal_any qa ao L.length n qc ca _ _ w2 hqr (ha.below b2) (by omega)
    rw [HEL.out, hLl] at HE
    refine HE.mono ?_
    rintro e w3 ⟨rfl, hb3⟩
    have b3 := b2.trans (hb3.mono b2.size)
    have hpr3 := (hpr.below hb2).below hb3
    rcases Nat.eq_zero_or_pos n with hn0 | hn0
    rotate_left
    · have d3 : decide (0 < (n : Int)) = true := by simp; omega
      rw [if_neg (by omega)] at HU1
      go_wp2_with fail
      have HA := unpack_any pa P.length pc (n - 1) (fun i => P.getD i 0) w3 hpr3 HBD.out (by omega) hpc hpm (by omega)
      rw [show ((n - 1 : Nat) : Int) = (n : Int) - 1 by omega] at HA
      refine HA.mono ?_
      clear HA
      intro e w4 hpost4
      obtain ⟨rfl, hb4'⟩ := unpackPost_none HU1.out hpost4
      have b4 := b3.trans (hb4'.mono b3.size)
      go_wp2_with fail
      refine (unpack_any bo m cb 20000 g w4 (hb.below b4) hg (by omega) hm hmm (by omega)).mono ?_
      intro e w5 hpost5
      rcases HU : unpackF g m 20000 with _ | b
      · obtain ⟨rfl, hb5⟩ := unpackPost_none HU hpost5
        have b5 := b4.trans (hb5.mono b4.size)
        clear HU
        go_wp2_with fail
        refine (rleAlive_any _).mono ?_
        rintro e w6 ⟨rfl, hb6⟩
        go_wp2_with fail
        go_ret
        exact ⟨rfl, b5.trans (hb6.mono b5.size)⟩
      · obtain ⟨v5, rfl, hp5, hb5⟩ := unpackPost_some HU hpost5
        have b5 := b4.trans (hb5.mono b4.size)
        obtain ⟨HK, HM⟩ := unpackF_packL HU
        obtain ⟨ra, rc, rfl, hrc, hrm, hrr⟩ := own_view hp5
        clear HU
        have HE5 := hid (eqL_list HK)
        clear HK
        go_wp2_with fail
        refine (pack_any ra b.length rc (fun i => b.getD i 0) _ hrr (by omega) hrc hrm).mono ?_
        rintro e w6 ⟨v6, rfl, hp6, hb6⟩
        have b6 := b5.trans (hb6.mono b5.size)
        obtain ⟨sa, sc, rfl, hsc, hsm, hsr⟩ := own_view hp6
        have HQ := equal_any sa bo (packF (fun i => b.getD i 0) b.length).length m sc cb _ _ w6 hsr (hb.below b6) (by have HS := packF_short (fun i => b.getD i 0) b.length; omega)
        rw [HE5.out] at HQ
        go_wp2_with fail
        refine HQ.mono ?_
        rintro e w7 ⟨rfl, hb7⟩
        have b7 := b6.trans (hb7.mono b6.size)
        go_wp2_with fail
        refine (rleAlive_any _).mono ?_
        rintro e w8 ⟨rfl, hb8⟩
        go_wp2_with fail
        go_ret
        exact ⟨rfl, b7.trans (hb8.mono b7.size)⟩
    · have d3 : decide (0 < (n : Int)) = false := by simp; omega
      obtain rfl : n = 0 := hn0
      go_wp2_with fail
      refine (unpack_any bo m cb 20000 g w3 (hb.below b3) hg (by omega) hm hmm (by omega)).mono ?_
      have b4 := b3
      intro e w5 hpost5
      rcases HU : unpackF g m 20000 with _ | b
      · obtain ⟨rfl, hb5⟩ := unpackPost_none HU hpost5
        have b5 := b4.trans (hb5.mono b4.size)
        clear HU
        go_wp2_with fail
        refine (rleAlive_any _).mono ?_
        rintro e w6 ⟨rfl, hb6⟩
        go_wp2_with fail
        go_ret
        exact ⟨rfl, b5.trans (hb6.mono b5.size)⟩
      · obtain ⟨v5, rfl, hp5, hb5⟩ := unpackPost_some HU hpost5
        have b5 := b4.trans (hb5.mono b4.size)
        obtain ⟨HK, HM⟩ := unpackF_packL HU
        obtain ⟨ra, rc, rfl, hrc, hrm, hrr⟩ := own_view hp5
        clear HU
        have HE5 := hid (eqL_list HK)
        clear HK
        go_wp2_with fail
        refine (pack_any ra b.length rc (fun i => b.getD i 0) _ hrr (by omega) hrc hrm).mono ?_
        rintro e w6 ⟨v6, rfl, hp6, hb6⟩
        have b6 := b5.trans (hb6.mono b5.size)
        obtain ⟨sa, sc, rfl, hsc, hsm, hsr⟩ := own_view hp6
        have HQ := equal_any sa bo (packF (fun i => b.getD i 0) b.length).length m sc cb _ _ w6 hsr (hb.below b6) (by have HS := packF_short (fun i => b.getD i 0) b.length; omega)
        rw [HE5.out] at HQ
        go_wp2_with fail
        refine HQ.mono ?_
        rintro e w7 ⟨rfl, hb7⟩
        have b7 := b6.trans (hb7.mono b6.size)
        go_wp2_with fail
        refine (rleAlive_any _).mono ?_
        rintro e w8 ⟨rfl, hb8⟩
        go_wp2_with fail
        go_ret
        exact ⟨rfl, b7.trans (hb8.mono b7.size)⟩
end Go.Proofs.Ytgelgpcpllmnkaa
