/-
  Contract of rle.Unpack: the words that just such groups tell, or that they are none's.
-/
import Derived.Test.YtgelgpcpllmnkaaBits
import Derived.Test.YtgelgpcpllmnkaaRlePackIs
namespace Go.Proofs.Ytgelgpcpllmnkaa
open Go.RowKit Go.Shelf
/-! a head's bits -/
theorem head_low {a : Int} (h0 : 0 ≤ a) (h1 : a < 4294967296) : bits .andNot .u32 a 2147483648 = a % 2147483648 := by
  obtain ⟨x, rfl⟩ : ∃ x, a = B x := ⟨BitVec.ofNat 32 a.toNat, by unfold B; rw [BitVec.toNat_ofNat, Nat.mod_eq_of_lt (by omega)]; omega⟩
  rw [show (2147483648 : Int) = B 2147483648#32 by decide, B_andNot, show ~~~2147483648#32 = 2147483647#32 by decide]
  unfold B
  rw [BitVec.toNat_and, show (2147483647#32).toNat = 2 ^ 31 - 1 by decide, Nat.and_two_pow_sub_one_eq_mod, show (2147483648#32).toNat = 2147483648 by decide]
  omega
theorem and_top (x : Nat) (hx : x < 4294967296) : x &&& 2 ^ 31 = if 2147483648 ≤ x then 2147483648 else 0 := by
  apply Nat.eq_of_testBit_eq
  intro i
  rw [Nat.testBit_and, Nat.testBit_two_pow]
  by_cases hi : 31 = i
  · subst hi
    rw [Nat.testBit_eq_decide_div_mod_eq]
    by_cases h : 2147483648 ≤ x
    · rw [if_pos h, show x / 2 ^ 31 % 2 = 1 by omega]; decide
    · rw [if_neg h, show x / 2 ^ 31 % 2 = 0 by omega]; decide
  · have e : decide (31 = i) = false := by simp [hi]
    rw [e, Bool.and_false]
    split
    · rw [show (2147483648 : Nat) = 2 ^ 31 by decide, Nat.testBit_two_pow, e]
    · rw [Nat.zero_testBit]
theorem head_high {a : Int} (h0 : 0 ≤ a) (h1 : a < 4294967296) : bits .and .u32 a 2147483648 = if 2147483648 ≤ a then 2147483648 else 0 := by
  obtain ⟨x, rfl⟩ : ∃ x, a = B x := ⟨BitVec.ofNat 32 a.toNat, by unfold B; rw [BitVec.toNat_ofNat, Nat.mod_eq_of_lt (by omega)]; omega⟩
  rw [show bits .and .u32 (B x) 2147483648 = B (x &&& 2147483648#32) from B_and x 2147483648#32]
  have hx := B_lt x
  unfold B
  rw [BitVec.toNat_and, show (2147483648#32).toNat = 2 ^ 31 by decide, and_top _ hx]
  by_cases h : 2147483648 ≤ x.toNat
  · rw [if_pos h, if_pos (by omega)]; rfl
  · rw [if_neg h, if_neg (by omega)]; rfl
/-! what is told -/
def headOf (a : Int) : Nat := (a % 2147483648).toNat
/-- The words of the group at k. -/
def told (f : Nat → Int) (k : Nat) : List Int := if 2147483648 ≤ f k then List.replicate (headOf (f k)) (f (k + 1)) else (List.range (headOf (f k))).map fun j => f (k + 1 + j)
/-- How many words of the row it takes beside its head. -/
def has (f : Nat → Int) (k : Nat) : Nat := if 2147483648 ≤ f k then 1 else headOf (f k)
def badAt (f : Nat → Int) (n most k : Nat) (out : List Int) : Prop := headOf (f k) < 1 ∨ 4096 < headOf (f k) ∨ n - k - 1 < has f k ∨ most - out.length < headOf (f k)
instance (f : Nat → Int) (n most k : Nat) (out : List Int) : Decidable (badAt f n most k out) := by unfold badAt; infer_instance
/-- The words that groups tell as they stand, at most so many. -/
def openF (f : Nat → Int) (n most : Nat) : Nat → Nat → List Int → Option (List Int)
  | 0, _, out => some out
  | m + 1, k, out => if n ≤ k then some out else if badAt f n most k out then none else openF f n most m (k + 1 + has f k) (out ++ told f k)
theorem told_length (f : Nat → Int) (k : Nat) : (told f k).length = headOf (f k) := by unfold told; split <;> simp
theorem openF_end {f : Nat → Int} {n most k : Nat} (m : Nat) (out : List Int) (h : n ≤ k) : openF f n most m k out = some out := by
  cases m with
  | zero => rfl
  | succ m => exact if_pos h
theorem openF_bad {f : Nat → Int} {n most k m : Nat} {out : List Int} (hm : n ≤ k + m) (h : k < n) (hb : badAt f n most k out) : openF f n most m k out = none := by
  cases m with
  | zero => omega
  | succ m => show (if n ≤ k then some out else if _ then none else _) = none; rw [if_neg (by omega), if_pos hb]
theorem openF_on {f : Nat → Int} {n most k m : Nat} {out : List Int} (hm : n ≤ k + m) (h : k < n) (hb : ¬ badAt f n most k out) : openF f n most m k out = openF f n most (m - 1) (k + 1 + has f k) (out ++ told f k) := by
  cases m with
  | zero => omega
  | succ m => show (if n ≤ k then some out else if _ then none else _) = _; rw [if_neg (by omega), if_neg hb]; rfl
theorem own_view {w : World} {base : Nat} {v : Value} {n : Nat} {xs : List Int} {e : TypeId} (h : w.ownsRow base e 1 v n (u32L xs)) : ∃ ao c, v = .slice ao n c ∧ n ≤ c ∧ c ≤ maxLen ∧ Row w ao n (fun i => .int .u32 (xs.getD i 0)) := by
  have hl := h.1
  rw [u32L, List.length_map, Nat.mul_one] at hl
  have key : ∀ ao c, v = .slice ao n c → Row w ao n (fun i => .int .u32 (xs.getD i 0)) := fun ao c e => by
    subst e
    exact (row_of_own h).congr fun i hi => by simp [u32L, List.getD, List.getElem?_eq_getElem (show i < xs.length by omega)]
  rcases h.2 with ⟨e, h2⟩ | ⟨g, cap, cur, e, _, _, hnc, hcm, _⟩
  · subst h2; exact ⟨none, 0, e, Nat.le_refl _, Nat.zero_le _, key _ _ e⟩
  · exact ⟨_, cap, e, hnc, hcm, key _ _ e⟩
/-- What groups tell, if they are just those of what they tell. -/
def packL (xs : List Int) : List Int := packF (fun i => xs.getD i 0) xs.length
def unpackF (f : Nat → Int) (n most : Nat) : Option (List Int) := (openF f n most n 0 []).filter fun out => packL out == (List.range n).map f
def UnpackPost (f : Nat → Int) (n most : Nat) (w : World) (e : Ending) (w' : World) : Prop :=
  match unpackF f n most with
  | none => e = .returned (.tuple #[.slice none 0 0, .bool false]) ∧ Below w.heap.size w w'
  | some out => ∃ v, e = .returned (.tuple #[v, .bool true]) ∧ w'.ownsRow w.heap.size 72 1 v out.length (u32L out) ∧ Below w.heap.size w w'
theorem unpackPost_bad {f : Nat → Int} {n most : Nat} {w w' : World} {e : Ending} (h : unpackF f n most = none) (he : e = .returned (.tuple #[.slice none 0 0, .bool false])) (hb : Below w.heap.size w w') : UnpackPost f n most w e w' := by
  unfold UnpackPost; rw [h]; exact ⟨he, hb⟩
theorem unpackPost_good {f : Nat → Int} {n most : Nat} {w w' : World} {e : Ending} {out : List Int} {v : Value} (h : unpackF f n most = some out) (he : e = .returned (.tuple #[v, .bool true])) (ho : w'.ownsRow w.heap.size 72 1 v out.length (u32L out)) (hb : Below w.heap.size w w') : UnpackPost f n most w e w' := by
  unfold UnpackPost; rw [h]; exact ⟨v, he, ho, hb⟩
theorem unpackF_bad {f : Nat → Int} {n most : Nat} {out : List Int} (h : openF f n most n 0 [] = some out) (hne : packL out ≠ (List.range n).map f) : unpackF f n most = none := by
  unfold unpackF; rw [h]; simp [Option.filter, hne]
theorem unpackF_good {f : Nat → Int} {n most : Nat} {out : List Int} (h : openF f n most n 0 [] = some out) (he : packL out = (List.range n).map f) : unpackF f n most = some out := by
  unfold unpackF; rw [h]; simp [Option.filter, he]
set_option maxRecDepth 100000 in
set_option maxHeartbeats 4000000 in
theorem unpack_any (ao : Option Addr) (n c most : Nat) (f : Nat → Int) (w : World) (hrow : Row w ao n (fun j => .int .u32 (f j))) (hf : ∀ i, i < n → 0 ≤ f i ∧ f i < 4294967296) (hn : n ≤ 100000) (hc : n ≤ c) (_hcm : c ≤ maxLen) (hmost : most ≤ 20000) :
    Calls Try.prog 40 #[.int .i64 most, .slice ao n c] w fun e w' => UnpackPost f n most w e w' := by
  obtain ⟨i0, hi, hz0, hz1, hz2⟩ := info_parts infoU32
  go_enter Try.func40, Try.ntmps40
  go_wp2
  go_loopw [6, 7, 8, 9, 10, 11, 73] (fun v at_ _ _ _ _ _ wr => ∃ (k m : Nat) (out : List Int), at_ = .int .i64 k ∧ k ≤ n ∧ n ≤ k + m ∧ Hid (openF f n most n 0 [] = openF f n most m k out) ∧ out.length ≤ most ∧ wr.ownsRow w.heap.size 72 1 v out.length (u32L out) ∧ Below w.heap.size w wr) (fun _ at_ _ _ _ _ _ _ => n - (intOf at_).toNat)
  case atStart => exact ⟨0, n, [], rfl, Nat.zero_le _, by omega, rfl, Nat.zero_le _, World.ownsRow_nil _ _ _ _, Below.refl _ _⟩
  case round =>
    obtain ⟨k, m, out, rfl, hk, hm, HO, hlen, hown, hbr⟩ := hrel
    rcases Nat.lt_or_ge k n with hlt | hge
    · have t0 : decide ((k : Int) < (n : Int)) = true := by simp; omega
      have hsz := hid hbr.size
      have hrow' := hrow.below hbr
      obtain ⟨b, o, rfl, hck0⟩ := hrow' k hlt
      have hck : wr.cell? ⟨b, o + k, none⟩ = some (.int .u32 (f k)) := hck0
      clear hck0
      have hfk := hf k hlt
      have HL : bits .andNot .u32 (f k) 2147483648 = ((headOf (f k) : Nat) : Int) := by rw [head_low hfk.1 hfk.2]; unfold headOf; omega
      have hh : headOf (f k) < 2147483648 := by unfold headOf; omega
      obtain ⟨av, ac, rfl, hac, hacm, _⟩ := own_view hown
      by_cases hs : 2147483648 ≤ f k
      · have HH : bits .and .u32 (f k) 2147483648 = 2147483648 := by rw [head_high hfk.1 hfk.2, if_pos hs]
        have hhas : has f k = 1 := if_pos hs
        have htold : told f k = List.replicate (headOf (f k)) (f (k + 1)) := if_pos hs
        have HBAD : Hid (badAt f n most k out → unpackF f n most = none) := fun hb => by unfold unpackF; rw [HO.out, openF_bad hm hlt hb]; rfl
        have HON : Hid (¬ badAt f n most k out → openF f n most n 0 [] = openF f n most (m - 1) (k + 1 + has f k) (out ++ told f k)) := fun hb => by rw [HO.out, openF_on hm hlt hb]
        unfold badAt at HBAD HON
        rw [hhas] at HBAD HON
        rw [htold] at HON
        obtain ⟨h, hhe⟩ : ∃ h, headOf (f k) = h := ⟨_, rfl⟩
        rw [hhe] at HBAD HON HL hh
        clear HO hhas htold hhe
        by_cases b0 : h < 1
        · have d0 : decide ((h : Int) < 1) = true := by simp; omega
          have HB := hid (HBAD.out (Or.inl b0))
          clear HBAD HON
          go_wp2
          go_ret2
          exact unpackPost_bad HB.out rfl hbr
        have d0 : decide ((h : Int) < 1) = false := by simp; omega
        by_cases b1 : 4096 < h
        · have d1 : decide (4096 < (h : Int)) = true := by simp; omega
          have HB := hid (HBAD.out (Or.inr (Or.inl b1)))
          clear HBAD HON
          go_wp2
          go_ret2
          exact unpackPost_bad HB.out rfl hbr
        have d1 : decide (4096 < (h : Int)) = false := by simp; omega
        by_cases b2 : n - k - 1 < 1
        · have d2 : decide ((n : Int) - (k : Int) - 1 < (1 : Int)) = true := by simp; omega
          have HB := hid (HBAD.out (Or.inr (Or.inr (Or.inl b2))))
          clear HBAD HON
          go_wp2
          go_ret2
          exact unpackPost_bad HB.out rfl hbr
        have d2 : decide ((n : Int) - (k : Int) - 1 < (1 : Int)) = false := by simp; omega
        by_cases b3 : most - out.length < h
        · have d3 : decide ((most : Int) - (out.length : Int) < (h : Int)) = true := by simp; omega
          have HB := hid (HBAD.out (Or.inr (Or.inr (Or.inr b3))))
          clear HBAD HON
          go_wp2
          go_ret2
          exact unpackPost_bad HB.out rfl hbr
        have d3 : decide ((most : Int) - (out.length : Int) < (h : Int)) = false := by simp; omega
        have HN := hid (HON.out (by omega))
        clear HBAD HON
        have e1 : k + 1 + 1 - (k + 1) = 1 := by omega
        have hcx0 := hrow'.cellAt (i := k + 1) (by omega)
        obtain ⟨x, hx⟩ : ∃ x, f (k + 1) = x := ⟨_, rfl⟩
        have hcx : wr.cell? ⟨b, o + (k + 1), none⟩ = some (.int .u32 x) := by rw [← hx]; exact hcx0
        rw [hx] at HN
        have hcx0w := hrow.cellAt (i := k + 1) (by omega)
        rw [hx] at hcx0w
        clear hcx0 hx
        go_wp2
        go_loopw [6, 73] (fun v i_ wr => ∃ i : Nat, i_ = .int .i64 i ∧ i ≤ h ∧ wr.ownsRow w.heap.size 72 1 v (out.length + i) (u32L (out ++ List.replicate i x)) ∧ Below w.heap.size w wr ∧ wr.cell? ⟨b, o + (k + 1), none⟩ = some (.int .u32 x)) (fun _ i_ _ => h - (intOf i_).toNat)
        case atStart => exact ⟨0, rfl, Nat.zero_le _, by simpa using hown, hbr, hcx⟩
        case round =>
          obtain ⟨i, rfl, hih, hown2, hbr2, hcx2⟩ := hrel
          have hcl := cell_lt (hcx0w)
          obtain ⟨bv, bc, rfl, _, _, _⟩ := own_view hown2
          rcases Nat.lt_or_ge i h with hlt2 | hge2
          · have t2 : decide ((i : Int) < (h : Int)) = true := by simp; omega
            have hsz2 := hid hbr2.size
            have hnews := news1 wr (Value.int .u32 x) 72
            go_wp2_with (at_builtin; refine wpList_append_own _ rfl _ _ 71 rfl w.heap.size 72 i0 (.int .u32 0) 1 4 Try.underlying71 hi hz0 hz1 hz2 rfl (by decide) _ _ _ rfl (hown2.alloc _) ⟨wr.heap.size, 0, none⟩ 1 1 _ rfl rfl hnews (by simp [Value.oneCell']) (by unfold maxLen; omega) (by omega) (by have := hsz2.out; simp; omega) ?_; intro v' w1 hown1 hgrow _)
            go_roundw
            case rel =>
              have hbz := (hbr2.alloc hbr2.size _).grown hgrow (by have := hsz2.out; simp; omega) (fun j hj => (hown2.lt j hj).1)
              refine ⟨i + 1, by go_num, by omega, ?_, hbz, (hbz.cell hcl).trans hcx0w⟩
              rw [List.replicate_succ', ← List.append_assoc, u32L_append, ← Nat.add_assoc]
              exact hown1
            case measure => simp [intOf]; omega
          · obtain rfl : i = h := by omega
            have t2 : decide ((i : Int) < (i : Int)) = false := by simp
            go_wp2
            go_roundw
            case rel => exact ⟨k + 1 + 1, m - 1, out ++ List.replicate i x, by go_num, by omega, by omega, HN.out, by simp; omega, by simpa using hown2, hbr2⟩
            case measure => simp [intOf]; omega
      · have HH : bits .and .u32 (f k) 2147483648 = 0 := by rw [head_high hfk.1 hfk.2, if_neg hs]
        have hhas : has f k = headOf (f k) := if_neg hs
        have htold : told f k = (List.range (headOf (f k))).map fun j => f (k + 1 + j) := if_neg hs
        have HBAD : Hid (badAt f n most k out → unpackF f n most = none) := fun hb => by unfold unpackF; rw [HO.out, openF_bad hm hlt hb]; rfl
        have HON : Hid (¬ badAt f n most k out → openF f n most n 0 [] = openF f n most (m - 1) (k + 1 + has f k) (out ++ told f k)) := fun hb => by rw [HO.out, openF_on hm hlt hb]
        unfold badAt at HBAD HON
        rw [hhas] at HBAD HON
        rw [htold] at HON
        obtain ⟨h, hhe⟩ : ∃ h, headOf (f k) = h := ⟨_, rfl⟩
        rw [hhe] at HBAD HON HL hh
        clear HO hhas htold hhe
        by_cases b0 : h < 1
        · have d0 : decide ((h : Int) < 1) = true := by simp; omega
          have HB := hid (HBAD.out (Or.inl b0))
          clear HBAD HON
          go_wp2
          go_ret2
          exact unpackPost_bad HB.out rfl hbr
        have d0 : decide ((h : Int) < 1) = false := by simp; omega
        by_cases b1 : 4096 < h
        · have d1 : decide (4096 < (h : Int)) = true := by simp; omega
          have HB := hid (HBAD.out (Or.inr (Or.inl b1)))
          clear HBAD HON
          go_wp2
          go_ret2
          exact unpackPost_bad HB.out rfl hbr
        have d1 : decide (4096 < (h : Int)) = false := by simp; omega
        by_cases b2 : n - k - 1 < h
        · have d2 : decide ((n : Int) - (k : Int) - 1 < (h : Int)) = true := by simp; omega
          have HB := hid (HBAD.out (Or.inr (Or.inr (Or.inl b2))))
          clear HBAD HON
          go_wp2
          go_ret2
          exact unpackPost_bad HB.out rfl hbr
        have d2 : decide ((n : Int) - (k : Int) - 1 < (h : Int)) = false := by simp; omega
        by_cases b3 : most - out.length < h
        · have d3 : decide ((most : Int) - (out.length : Int) < (h : Int)) = true := by simp; omega
          have HB := hid (HBAD.out (Or.inr (Or.inr (Or.inr b3))))
          clear HBAD HON
          go_wp2
          go_ret2
          exact unpackPost_bad HB.out rfl hbr
        have d3 : decide ((most : Int) - (out.length : Int) < (h : Int)) = false := by simp; omega
        have HN := hid (HON.out (by omega))
        clear HBAD HON
        have e1 : k + 1 + h - (k + 1) = h := by omega
        have hrk : Row wr (some ⟨b, o + (k + 1), none⟩) h (fun j => .int .u32 (f (k + 1 + j))) := (hrow'.from (k := k + 1) (by omega)).less (by omega)
        go_wp2_with (at_builtin; refine wpList_append_own _ rfl _ _ 71 rfl w.heap.size 72 i0 (.int .u32 0) 1 4 Try.underlying71 hi hz0 hz1 hz2 rfl (by decide) _ _ _ rfl hown ⟨b, o + (k + 1), none⟩ (k + 1 + h - (k + 1)) _ _ rfl (by simp [e1]) (news_row hrk) (news_one fun _ => rfl) (by unfold maxLen; omega) (by omega) hsz.out ?_; intro v' w1 hown1 hgrow _; rw [e1] at hown1)
        go_roundw
        case rel =>
          refine ⟨k + 1 + h, m - 1, out ++ (List.range h).map (fun j => f (k + 1 + j)), by go_num, by omega, by omega, HN.out, by simp; omega, ?_, hbr.grown hgrow hsz.out fun j hj => (hown.lt j hj).1⟩
          rw [List.length_append, List.length_map, List.length_range, u32L_append]
          simpa [u32L, Function.comp_def] using hown1
        case measure => simp [intOf]; omega
    · obtain rfl : k = n := by omega
      have HE := hid (show openF f k most k 0 [] = some out by rw [HO.out]; exact openF_end _ _ (Nat.le_refl _))
      clear HO
      obtain ⟨av, ac, rfl, hac, hacm, hra⟩ := own_view hown
      have t0 : decide ((k : Int) < (k : Int)) = false := by simp
      obtain ⟨P, hPe⟩ : ∃ P, packF (fun i => out.getD i 0) out.length = P := ⟨_, rfl⟩
      have HPe := hid (show packL out = P from hPe)
      have HP := hid (pack_any av out.length ac (fun i => out.getD i 0) wr hra (by omega) hac hacm)
      rw [hPe] at HP
      clear hPe
      by_cases hpl : P.length = k
      · have t1 : ((P.length : Int) == (k : Int)) = true := by simp [hpl]
        go_wp2_with (go_at_call 38; refine HP.out.mono ?_; rintro e w1 ⟨pv, rfl, hp, hb1⟩; obtain ⟨pa, pc, rfl, hpc, hpm, hpr⟩ := own_view hp)
        clear HP
        go_loopw [91] (fun i_ wr => ∃ i : Nat, i_ = .int .i64 i ∧ i ≤ k ∧ Hid (∀ j, j < i → P.getD j 0 = f j) ∧ Below w1.heap.size w1 wr) (fun i_ _ => k - (intOf i_).toNat)
        case atStart => exact ⟨0, rfl, Nat.zero_le _, fun j hj => by omega, Below.refl _ _⟩
        case round =>
          obtain ⟨i, rfl, hik, HS, hbq⟩ := hrel
          have hbx := hbr.trans (hb1.mono hbr.size)
          have hby := hbx.trans (hbq.mono hbx.size)
          rcases Nat.lt_or_ge i k with hi1 | hi1
          · have t2 : decide ((i : Int) < (P.length : Int)) = true := by simp; omega
            obtain ⟨b, o, rfl, hc10⟩ := (hrow.below hby) i hi1
            have hc1 : wr.cell? ⟨b, o + i, none⟩ = some (.int .u32 (f i)) := hc10
            clear hc10
            obtain ⟨b2, o2, rfl, hc20⟩ := (hpr.below hbq) i (by omega)
            have hc2 : wr.cell? ⟨b2, o2 + i, none⟩ = some (.int .u32 (P.getD i 0)) := hc20
            clear hc20
            obtain ⟨y, hy⟩ : ∃ y, P.getD i 0 = y := ⟨_, rfl⟩
            rw [hy] at hc2
            have HY := hid hy
            clear hy
            cases h3 : (y == f i)
            · have HB := hid (show unpackF f k most = none from unpackF_bad HE.out fun e => by
                rw [HPe.out] at e
                have h4 : y ≠ f i := by simpa using h3
                exact h4 (by rw [← HY.out, e]; simp [List.getD, hi1]))
              clear HE HS
              have h4 : (y != f i) = true := by simp [bne, h3]
              go_wp2
              go_quiet (fail)
              go_wp2
              go_ret2
              exact unpackPost_bad HB.out rfl (below_drewN hby)
            · have HT : Hid (∀ j, j < i + 1 → P.getD j 0 = f j) := fun j hj => by
                rcases Nat.lt_or_ge j i with h5 | h5
                · exact HS.out j h5
                · obtain rfl : j = i := by omega
                  rw [HY.out]; simpa using h3
              clear HS
              have h4 : (y != f i) = false := by simp [bne, h3]
              go_wp2
              go_quiet (fail)
              go_wp2
              go_roundw
              case rel => exact ⟨i + 1, by go_num, by omega, HT, below_drewN hbq⟩
              case measure => simp [intOf]; omega
          · have t2 : decide ((i : Int) < (P.length : Int)) = false := by simp; omega
            have HG := hid (show unpackF f k most = some out from unpackF_good HE.out (by
              rw [HPe.out]
              refine List.ext_getElem (by simp [hpl]) fun j h1 h2 => ?_
              have := HS.out j (by omega)
              rw [List.getD, List.getElem?_eq_getElem h1] at this
              simpa using this))
            clear HE HS
            go_wp2
            go_ret2
            exact unpackPost_good HG.out rfl ((hown.kept (grown_below hb1) (row_any _)).kept (grown_below hbq) (row_any _)) hby
      · have t1 : ((P.length : Int) == (k : Int)) = false := by simp; omega
        have HB := hid (show unpackF f k most = none from unpackF_bad HE.out fun e => by
          rw [HPe.out] at e
          exact hpl (by rw [e]; simp))
        clear HE
        go_wp2_with (go_at_call 38; refine HP.out.mono ?_; rintro e w1 ⟨pv, rfl, hp, hb1⟩; obtain ⟨pa, pc, rfl, hpc, hpm, hpr⟩ := own_view hp)
        go_ret2
        exact unpackPost_bad HB.out rfl (hbr.trans (hb1.mono hbr.size))
end Go.Proofs.Ytgelgpcpllmnkaa
