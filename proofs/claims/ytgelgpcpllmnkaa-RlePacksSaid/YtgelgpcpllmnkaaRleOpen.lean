/-
  Contract of the document's layer 54: open, Unpack, which takes the same groups as the program's does.
-/
import Derived.Test.YtgelgpcpllmnkaaRleRef
namespace Go.Proofs.Ytgelgpcpllmnkaa
open Go.RowKit Go.Shelf
/-! as far as groups may be told at all -/
def badR (f : Nat → Int) (n most k : Nat) (out : List Int) : Prop := most - out.length < headOf (f k) ∨ n - k - 1 < has f k
instance (f : Nat → Int) (n most k : Nat) (out : List Int) : Decidable (badR f n most k out) := by unfold badR; infer_instance
def openR (f : Nat → Int) (n most : Nat) : Nat → Nat → List Int → Option (List Int)
  | 0, _, out => some out
  | m + 1, k, out => if n ≤ k then some out else if badR f n most k out then none else openR f n most m (k + 1 + has f k) (out ++ told f k)
theorem openR_end {f : Nat → Int} {n most k : Nat} (m : Nat) (out : List Int) (h : n ≤ k) : openR f n most m k out = some out := by
  cases m with
  | zero => rfl
  | succ m => exact if_pos h
theorem openR_bad {f : Nat → Int} {n most k m : Nat} {out : List Int} (hm : n ≤ k + m) (h : k < n) (hb : badR f n most k out) : openR f n most m k out = none := by
  cases m with
  | zero => omega
  | succ m => show (if n ≤ k then some out else if _ then none else _) = none; rw [if_neg (by omega), if_pos hb]
theorem openR_on {f : Nat → Int} {n most k m : Nat} {out : List Int} (hm : n ≤ k + m) (h : k < n) (hb : ¬ badR f n most k out) : openR f n most m k out = openR f n most (m - 1) (k + 1 + has f k) (out ++ told f k) := by
  cases m with
  | zero => omega
  | succ m => show (if n ≤ k then some out else if _ then none else _) = _; rw [if_neg (by omega), if_neg hb]; rfl
theorem openR_of_openF {f : Nat → Int} {n most : Nat} : ∀ m k (out b : List Int), openF f n most m k out = some b → openR f n most m k out = some b := by
  intro m
  induction m with
  | zero => intro k out b h; exact h
  | succ m ih =>
    intro k out b h
    unfold openF at h
    unfold openR
    split
    · rename_i hk; rw [if_pos hk] at h; exact h
    · rename_i hk
      rw [if_neg hk] at h
      split at h
      · cases h
      · rename_i hb
        rw [if_neg (fun hr => hb (by unfold badR at hr; unfold badAt; rcases hr with hr | hr <;> simp [hr]))]
        exact ih _ _ _ h
theorem openR_len {f : Nat → Int} {n most : Nat} : ∀ m k (out : List Int) b, out.length ≤ most → openR f n most m k out = some b → b.length ≤ most := by
  intro m
  induction m with
  | zero => intro k out b h hb; unfold openR at hb; cases hb; exact h
  | succ m ih =>
    intro k out b h hb
    unfold openR at hb
    split at hb
    · cases hb; exact h
    · split at hb
      · cases hb
      · rename_i hbad
        refine ih _ _ _ ?_ hb
        rw [List.length_append, told_length]
        unfold badR at hbad
        omega
def unpackR (f : Nat → Int) (n most : Nat) : Option (List Int) := (openR f n most n 0 []).filter fun out => packL out == (List.range n).map f
/-- What is packed as it was is told by groups that may be. -/
theorem open_of_packL {f : Nat → Int} {n most : Nat} {out : List Int} (hl : out.length ≤ most) (h : packL out = (List.range n).map f) : openF f n most n 0 [] = some out := by
  have hw : words (fun i => out.getD i 0) (groupsN (fun i => out.getD i 0) out.length 0) = (List.range n).map f := h
  have hn : (words (fun i => out.getD i 0) (groupsN (fun i => out.getD i 0) out.length 0)).length = n := by rw [hw]; simp
  have := open_pack (fun i => out.getD i 0) out.length most f n out.length 0 0 n (by omega) (by omega) (by omega) (by omega) (by omega) (fun i hi => by
    rw [hw]; rw [hn] at hi; simp [List.getD, hi])
  rw [if_pos hl, range_getD] at this
  exact this
theorem unpackR_is (f : Nat → Int) (n most : Nat) : unpackR f n most = unpackF f n most := by
  unfold unpackR unpackF
  cases hF : openF f n most n 0 [] with
  | some b => rw [openR_of_openF _ _ _ _ hF]
  | none =>
    cases hR : openR f n most n 0 [] with
    | none => rfl
    | some out =>
      by_cases hp : packL out = (List.range n).map f
      · rw [open_of_packL (openR_len _ _ _ _ (Nat.zero_le _) hR) hp] at hF
        cases hF
      · simp [Option.filter, hp]
def OpenPost (f : Nat → Int) (n most : Nat) (w : World) (e : Ending) (w' : World) : Prop :=
  match openR f n most n 0 [] with
  | none => e = .returned (.tuple #[.slice none 0 0, .bool false]) ∧ Below w.heap.size w w'
  | some out => ∃ v, e = .returned (.tuple #[v, .bool true]) ∧ w'.ownsRow w.heap.size 72 1 v out.length (u32L out) ∧ Below w.heap.size w w'
theorem openPost_bad {f : Nat → Int} {n most : Nat} {w w' : World} {e : Ending} (h : openR f n most n 0 [] = none) (he : e = .returned (.tuple #[.slice none 0 0, .bool false])) (hb : Below w.heap.size w w') : OpenPost f n most w e w' := by
  unfold OpenPost; rw [h]; exact ⟨he, hb⟩
theorem openPost_good {f : Nat → Int} {n most : Nat} {w w' : World} {e : Ending} {out : List Int} {v : Value} (h : openR f n most n 0 [] = some out) (he : e = .returned (.tuple #[v, .bool true])) (ho : w'.ownsRow w.heap.size 72 1 v out.length (u32L out)) (hb : Below w.heap.size w w') : OpenPost f n most w e w' := by
  unfold OpenPost; rw [h]; exact ⟨v, he, ho, hb⟩
set_option maxRecDepth 100000 in
set_option maxHeartbeats 4000000 in
theorem open_any (ao : Option Addr) (n c most : Nat) (f : Nat → Int) (w : World) (hrow : Row w ao n (fun j => .int .u32 (f j))) (hf : ∀ i, i < n → 0 ≤ f i ∧ f i < 4294967296) (hn : n ≤ 100000) (hc : n ≤ c) (_hcm : c ≤ maxLen) (hmost : most ≤ 20000) :
    Calls Try.prog 55 #[.int .i64 most, .slice ao n c] w fun e w' => OpenPost f n most w e w' := by
  obtain ⟨i0, hi, hz0, hz1, hz2⟩ := info_parts infoU32
  go_enter Try.func55, Try.ntmps55
  go_wp2
  go_loopw [6, 7, 8, 9] (fun v at_ _ _ wr => ∃ (k m : Nat) (out : List Int), at_ = .int .i64 k ∧ k ≤ n ∧ n ≤ k + m ∧ Hid (openR f n most n 0 [] = openR f n most m k out) ∧ out.length ≤ most ∧ wr.ownsRow w.heap.size 72 1 v out.length (u32L out) ∧ Below w.heap.size w wr) (fun _ at_ _ _ _ => n - (intOf at_).toNat)
  case atStart => exact ⟨0, n, [], rfl, Nat.zero_le _, by omega, rfl, Nat.zero_le _, World.ownsRow_nil _ _ _ _, Below.refl _ _⟩
  case round =>
    obtain ⟨k, m, out, rfl, hk, hm, HO, hlen, hown, hbr⟩ := hrel
    rcases Nat.lt_or_ge k n with hlt | hge
    · have t0 : decide ((k : Int) < (n : Int)) = true := by simp; omega
      have hsz := hid hbr.size
      have hrow' := hrow.below hbr
      obtain ⟨b, o, rfl, hck0⟩ := hrow' k hlt
      have hck : wr.cell? ⟨b, o + k, none⟩ = some (.int .u32 (f k)) := hck0
      clear hck0
      have hfk := hf k hlt
      have HL : (f k).tmod 2147483648 = ((headOf (f k) : Nat) : Int) := by rw [Int.tmod_eq_emod_of_nonneg hfk.1]; unfold headOf; omega
      have hh : headOf (f k) < 2147483648 := by unfold headOf; omega
      obtain ⟨av, ac, rfl, hac, hacm, _⟩ := own_view hown
      by_cases hs : 2147483648 ≤ f k
      · have HH : decide (2147483648 ≤ f k) = true := by simpa using hs
        have hhas : has f k = 1 := if_pos hs
        have htold : told f k = List.replicate (headOf (f k)) (f (k + 1)) := if_pos hs
        have HBAD : Hid (badR f n most k out → openR f n most n 0 [] = none) := fun hb => by rw [HO.out, openR_bad hm hlt hb]
        have HON : Hid (¬ badR f n most k out → openR f n most n 0 [] = openR f n most (m - 1) (k + 1 + has f k) (out ++ told f k)) := fun hb => by rw [HO.out, openR_on hm hlt hb]
        unfold badR at HBAD HON
        rw [hhas] at HBAD HON
        rw [htold] at HON
        obtain ⟨h, hhe⟩ : ∃ h, headOf (f k) = h := ⟨_, rfl⟩
        rw [hhe] at HBAD HON HL hh
        clear HO hhas htold hhe
        by_cases b3 : most - out.length < h
        · have d3 : decide ((most : Int) - (out.length : Int) < (h : Int)) = true := by simp; omega
          have HB := hid (HBAD.out (Or.inl b3))
          clear HBAD HON
          go_wp2
          go_ret2
          exact openPost_bad HB.out rfl hbr
        have d3 : decide ((most : Int) - (out.length : Int) < (h : Int)) = false := by simp; omega
        by_cases b2 : n - k - 1 < 1
        · have d2 : decide ((n : Int) ≤ (k : Int) + 1) = true := by simp; omega
          have HB := hid (HBAD.out (Or.inr b2))
          clear HBAD HON
          go_wp2
          go_ret2
          exact openPost_bad HB.out rfl hbr
        have d2 : decide ((n : Int) ≤ (k : Int) + 1) = false := by simp; omega
        have HN := hid (HON.out (by omega))
        clear HBAD HON
        have e1 : k + 1 + 1 - (k + 1) = 1 := by omega
        have hcx0 := hrow'.cellAt (i := k + 1) (by omega)
        obtain ⟨x, hx⟩ : ∃ x, f (k + 1) = x := ⟨_, rfl⟩
        have hcx : wr.cell? ⟨b, o + (k + 1), none⟩ = some (.int .u32 x) := by rw [← hx]; exact hcx0
        rw [hx] at HN
        have hcx0w := hrow.cellAt (i := k + 1) (by omega)
        rw [hx] at hcx0w
        clear hcx0 hx
        go_wp2
        go_loopw [6, 9] (fun v i_ wr => ∃ i : Nat, i_ = .int .i64 i ∧ i ≤ h ∧ wr.ownsRow w.heap.size 72 1 v (out.length + i) (u32L (out ++ List.replicate i x)) ∧ Below w.heap.size w wr ∧ wr.cell? ⟨b, o + (k + 1), none⟩ = some (.int .u32 x)) (fun _ i_ _ => h - (intOf i_).toNat)
        case atStart => exact ⟨0, rfl, Nat.zero_le _, by simpa using hown, hbr, hcx⟩
        case round =>
          obtain ⟨i, rfl, hih, hown2, hbr2, hcx2⟩ := hrel
          have hcl := cell_lt (hcx0w)
          obtain ⟨bv, bc, rfl, _, _, _⟩ := own_view hown2
          rcases Nat.lt_or_ge i h with hlt2 | hge2
          · have t2 : decide ((i : Int) < (h : Int)) = true := by simp; omega
            have hsz2 := hid hbr2.size
            have hnews := news1 wr (Value.int .u32 x) 72
            go_wp2_with (at_builtin; refine wpList_append_own _ rfl _ _ 71 rfl w.heap.size 72 i0 (.int .u32 0) 1 4 Try.underlying71 hi hz0 hz1 hz2 rfl (by decide) _ _ _ rfl (hown2.alloc _) ⟨wr.heap.size, 0, none⟩ 1 1 _ rfl rfl hnews (by simp [Value.oneCell']) (by unfold maxLen; omega) (by omega) (by have := hsz2.out; simp; omega) ?_; intro v' w1 hown1 hgrow _)
            go_roundw
            case rel =>
              have hbz := (hbr2.alloc hbr2.size _).grown hgrow (by have := hsz2.out; simp; omega) (fun j hj => (hown2.lt j hj).1)
              refine ⟨i + 1, by go_num, by omega, ?_, hbz, (hbz.cell hcl).trans hcx0w⟩
              rw [List.replicate_succ', ← List.append_assoc, u32L_append, ← Nat.add_assoc]
              exact hown1
            case measure => simp [intOf]; omega
          · obtain rfl : i = h := by omega
            have t2 : decide ((i : Int) < (i : Int)) = false := by simp
            go_wp2
            go_roundw
            case rel => exact ⟨k + 1 + 1, m - 1, out ++ List.replicate i x, by go_num, by omega, by omega, HN.out, by simp; omega, by simpa using hown2, hbr2⟩
            case measure => simp [intOf]; omega
      · have HH : decide (2147483648 ≤ f k) = false := by simpa using hs
        have hhas : has f k = headOf (f k) := if_neg hs
        have htold : told f k = (List.range (headOf (f k))).map fun j => f (k + 1 + j) := if_neg hs
        have HBAD : Hid (badR f n most k out → openR f n most n 0 [] = none) := fun hb => by rw [HO.out, openR_bad hm hlt hb]
        have HON : Hid (¬ badR f n most k out → openR f n most n 0 [] = openR f n most (m - 1) (k + 1 + has f k) (out ++ told f k)) := fun hb => by rw [HO.out, openR_on hm hlt hb]
        unfold badR at HBAD HON
        rw [hhas] at HBAD HON
        rw [htold] at HON
        obtain ⟨h, hhe⟩ : ∃ h, headOf (f k) = h := ⟨_, rfl⟩
        rw [hhe] at HBAD HON HL hh
        clear HO hhas htold hhe
        by_cases b3 : most - out.length < h
        · have d3 : decide ((most : Int) - (out.length : Int) < (h : Int)) = true := by simp; omega
          have HB := hid (HBAD.out (Or.inl b3))
          clear HBAD HON
          go_wp2
          go_ret2
          exact openPost_bad HB.out rfl hbr
        have d3 : decide ((most : Int) - (out.length : Int) < (h : Int)) = false := by simp; omega
        by_cases b2 : n - k - 1 < h
        · have d2 : decide ((n : Int) - (k : Int) - 1 < (h : Int)) = true := by simp; omega
          have HB := hid (HBAD.out (Or.inr b2))
          clear HBAD HON
          go_wp2
          go_ret2
          exact openPost_bad HB.out rfl hbr
        have d2 : decide ((n : Int) - (k : Int) - 1 < (h : Int)) = false := by simp; omega
        have HN := hid (HON.out (by omega))
        clear HBAD HON
        by_cases hc1 : c = k + 1
        · have hh0 : Hid (h = 0) := by unfold Hid; omega
          subst hc1
          have e1 : k + 1 + h - (k + 1) = h := by omega
          have hrk : Row wr (some ⟨b, o, none⟩) h (fun j => .int .u32 (f (k + 1 + j))) := fun i hi => by have := hh0.out; omega
          go_wp2_with (at_builtin; refine wpList_append_own _ rfl _ _ 71 rfl w.heap.size 72 i0 (.int .u32 0) 1 4 Try.underlying71 hi hz0 hz1 hz2 rfl (by decide) _ _ _ rfl hown ⟨b, o, none⟩ (k + 1 + h - (k + 1)) _ _ rfl (by simp [e1]) (news_row hrk) (news_one fun _ => rfl) (by unfold maxLen; omega) (by omega) hsz.out ?_; intro v' w1 hown1 hgrow _; rw [e1] at hown1)
          go_roundw
          case rel =>
            refine ⟨k + 1 + h, m - 1, out ++ (List.range h).map (fun j => f (k + 1 + j)), by go_num, by omega, by omega, HN.out, by simp; omega, ?_, hbr.grown hgrow hsz.out fun j hj => (hown.lt j hj).1⟩
            rw [List.length_append, List.length_map, List.length_range, u32L_append]
            simpa [u32L, Function.comp_def] using hown1
          case measure => simp [intOf]; omega
        · have hc2 : k + 1 < c := by omega
          have e1 : k + 1 + h - (k + 1) = h := by omega
          have hrk : Row wr (some ⟨b, o + (k + 1), none⟩) h (fun j => .int .u32 (f (k + 1 + j))) := (hrow'.from (k := k + 1) (by omega)).less (by omega)
          go_wp2_with (at_builtin; refine wpList_append_own _ rfl _ _ 71 rfl w.heap.size 72 i0 (.int .u32 0) 1 4 Try.underlying71 hi hz0 hz1 hz2 rfl (by decide) _ _ _ rfl hown ⟨b, o + (k + 1), none⟩ (k + 1 + h - (k + 1)) _ _ rfl (by simp [e1]) (news_row hrk) (news_one fun _ => rfl) (by unfold maxLen; omega) (by omega) hsz.out ?_; intro v' w1 hown1 hgrow _; rw [e1] at hown1)
          go_roundw
          case rel =>
            refine ⟨k + 1 + h, m - 1, out ++ (List.range h).map (fun j => f (k + 1 + j)), by go_num, by omega, by omega, HN.out, by simp; omega, ?_, hbr.grown hgrow hsz.out fun j hj => (hown.lt j hj).1⟩
            rw [List.length_append, List.length_map, List.length_range, u32L_append]
            simpa [u32L, Function.comp_def] using hown1
          case measure => simp [intOf]; omega
    · obtain rfl : k = n := by omega
      have HE := hid (show openR f k most k 0 [] = some out by rw [HO.out]; exact openR_end _ _ (Nat.le_refl _))
      clear HO
      have t0 : decide ((k : Int) < (k : Int)) = false := by simp
      go_wp2
      go_ret2
      exact openPost_good HE.out rfl hown hbr
end Go.Proofs.Ytgelgpcpllmnkaa
