/-
  The document's layer 4, and the walk of CrcSums.
-/
import Derived.Test.YtgcpfmdldgmbnaaCrcLaws
import Derived.Test.YtgcpfmdldgmbnaaStage
namespace Go.Proofs.Ytgcpfmdldgmbnaa
open Go.RowKit
theorem B_tdiv (x : BitVec 32) : (B x).tdiv 2 % (4294967296 : Int) = B (x >>> 1) := by
  rw [← B_half]
  have h : x.toNat < 4294967296 := x.isLt
  unfold B
  rw [Int.tdiv_eq_ediv_of_nonneg (by omega)]
  omega
theorem B_half_poly (x : BitVec 32) : bits .xor .u32 ((B x).tdiv 2 % (4294967296 : Int)) 3988292384 = B (x >>> 1 ^^^ poly) := by
  rw [B_tdiv, B_poly]
theorem bt_mod (x : BitVec 32) (m : Nat) : x.toNat / 2 ^ m % 2 = if bt x m then 1 else 0 := by
  unfold bt
  rw [BitVec.getLsbD, Nat.testBit_eq_decide_div_mod_eq]
  by_cases h : x.toNat / 2 ^ m % 2 = 1
  · simp [h]
  · have : x.toNat / 2 ^ m % 2 = 0 := by omega
    simp [this]
theorem B_unlike (s b : BitVec 32) (m : Nat) : ((B s).tmod 2 != (B b / 2 ^ m).tmod 2) = (bt s 0 != bt b m) := by
  have h1 : (B s).tmod 2 = if bt s 0 then 1 else 0 := by
    have := bt_mod s 0
    rw [Nat.pow_zero, Nat.div_one] at this
    unfold B
    rw [Int.tmod_eq_emod_of_nonneg (by omega)]
    split <;> rename_i h <;> simp only [h, if_true, if_false, Bool.false_eq_true] at this <;> omega
  have h2 : (B b / 2 ^ m).tmod 2 = if bt b m then 1 else 0 := by
    have := bt_mod b m
    have e : B b / 2 ^ m = ((b.toNat / 2 ^ m : Nat) : Int) := by unfold B; simp
    rw [e, Int.tmod_eq_emod_of_nonneg (Int.natCast_nonneg _)]
    split <;> rename_i h <;> simp only [h, if_true, if_false, Bool.false_eq_true] at this <;> omega
  rw [h1, h2]
  cases bt s 0 <;> cases bt b m <;> rfl
section
attribute [local go_sem] B_and B_or B_xor B_andNot B_not B_inj B_zero B8_u32 B8_u32' B_half B_and1 B_poly B_zero0 B_one1
theorem rsum_any (ao : Option Addr) (n cap : Nat) (f : Nat → BitVec 8) (w : World) (hr : Row w ao n (fun i => .int .u8 (B8 (f i)))) (hn : n ≤ 2000) :
    Calls Try.prog 35 #[.slice ao n cap] w fun e w' => e = .returned (.int .u32 (B (bytesC 0#32 ((List.range n).map f)))) ∧ w = w' := by
  go_enter Try.func35, Try.ntmps35
  go_wp2
  go_loop [3, 4, 5, 6, 7] (fun s i _ _ _ => ∃ k : Nat, k ≤ n ∧ i = .int .i64 k ∧ s = .int .u32 (B (~~~(bytesC 0#32 ((List.range k).map f))))) (fun _ i _ _ _ => n - (intOf i).toNat)
  case atStart => exact ⟨0, by omega, rfl, congrArg (Value.int .u32) (show (4294967295 : Int) = B (~~~0#32) by decide)⟩
  case round =>
    obtain ⟨k, hk, rfl, rfl⟩ := hrel
    by_cases hlt : k < n
    · have HB := hid (bytesC_succ 0#32 f k)
      generalize bytesC 0#32 ((List.range k).map f) = t at HB ⊢
      have hB8 := hid (rbits_byte t (f k))
      obtain ⟨b, o, rfl, hc⟩ := hr k hlt
      have hbl := hr.lt hlt rfl
      go_wp2
      go_loop [3, 5, 6, 7] (fun s q _ _ => ∃ m : Nat, m ≤ 8 ∧ q = .int .u64 m ∧ s = .int .u32 (B (rbits (~~~t) ((f k).setWidth 32) m))) (fun _ q _ _ => 8 - (intOf q).toNat)
      case atStart => exact ⟨0, by omega, rfl, rfl⟩
      case round =>
        obtain ⟨m, hm, rfl, rfl⟩ := hrel
        have HK := hid (show rbits (~~~t) ((f k).setWidth 32) (m + 1) = rstp (rbits (~~~t) ((f k).setWidth 32) m) (bt ((f k).setWidth 32) m) from rfl)
        by_cases hm8 : m < 8
        · generalize rbits (~~~t) ((f k).setWidth 32) m = s at HK ⊢
          have hu := B_unlike s ((f k).setWidth 32) m
          have HR := hid (show rstp s (bt ((f k).setWidth 32) m) = if bt s 0 != bt ((f k).setWidth 32) m then (s >>> 1) ^^^ poly else s >>> 1 from rfl)
          cases hb : (bt s 0 != bt ((f k).setWidth 32) m)
          all_goals
            rw [hb] at hu
            go_wp2
            go_round
            case rel => exact ⟨m + 1, by omega, by go_num, by rw [HK.out, HR.out, hb]; first | exact congrArg (Value.int .u32) (B_tdiv s) | exact congrArg (Value.int .u32) (B_half_poly s)⟩
            case measure => simp [intOf]; omega
        · obtain rfl : m = 8 := by omega
          rw [hB8.out]
          clear HK
          go_wp2
          go_round
          case rel => exact ⟨k + 1, by omega, by go_num, by rw [HB.out]⟩
          case measure => simp [intOf]; omega
    · obtain rfl : k = n := by omega
      go_wp2
      go_ret
      exact ⟨rfl, rfl⟩
/-- The bytes of words. -/
def bytesAt (f : Nat → BitVec 32) (k : Nat) : List Value := ((List.range k).flatMap fun i => wordB (f i)).map fun b => .int .u8 (B8 b)
theorem bytesAt_succ (f : Nat → BitVec 32) (k : Nat) : bytesAt f (k + 1) = bytesAt f k ++ [.int .u8 (B8 ((f k >>> 24).setWidth 8)), .int .u8 (B8 ((f k >>> 16).setWidth 8)), .int .u8 (B8 ((f k >>> 8).setWidth 8)), .int .u8 (B8 ((f k).setWidth 8))] := by
  unfold bytesAt
  rw [List.range_succ, List.flatMap_append, List.map_append]
  rfl
theorem u8w (x : Int) : IntKind.u8.wrap x = x % 256 := by simp [IntKind.wrap_u8']
theorem B_nn (x : BitVec 32) : 0 ≤ B x := Int.natCast_nonneg _
theorem byte24 (x : BitVec 32) : IntKind.u8.wrap (IntKind.u32.wrap ((B x).tdiv 16777216)) = B8 ((x >>> 24).setWidth 8) := by
  rw [← B_byte24, u8w, IntKind.wrap_u32', Int.tdiv_eq_ediv_of_nonneg (B_nn x)]
  have h : x.toNat < 4294967296 := x.isLt
  unfold B
  omega
theorem byte16 (x : BitVec 32) : IntKind.u8.wrap ((IntKind.u32.wrap ((B x).tdiv 65536)).tmod 256) = B8 ((x >>> 16).setWidth 8) := by
  rw [← B_byte16, u8w, IntKind.wrap_u32', Int.tdiv_eq_ediv_of_nonneg (B_nn x), Int.tmod_eq_emod_of_nonneg (Int.emod_nonneg _ (by decide))]
  have h : x.toNat < 4294967296 := x.isLt
  unfold B
  omega
theorem byte8 (x : BitVec 32) : IntKind.u8.wrap ((IntKind.u32.wrap ((B x).tdiv 256)).tmod 256) = B8 ((x >>> 8).setWidth 8) := by
  rw [← B_byte8, u8w, IntKind.wrap_u32', Int.tdiv_eq_ediv_of_nonneg (B_nn x), Int.tmod_eq_emod_of_nonneg (Int.emod_nonneg _ (by decide))]
  have h : x.toNat < 4294967296 := x.isLt
  unfold B
  omega
theorem byte0 (x : BitVec 32) : IntKind.u8.wrap ((B x).tmod 256) = B8 (x.setWidth 8) := by
  rw [← B_byte0, u8w, Int.tmod_eq_emod_of_nonneg (B_nn x)]
  omega
theorem infoU8 : (Try.prog.info? 5).map (fun i => (i.zero, i.size, i.bytes)) = some (some (.int .u8 0), 1, 1) := by kernel_rfl
attribute [local go_sem] Oper.quietS Oper.effS effUpon Drawn
attribute [local go_sem] B_byte24 B_byte16 B_byte8 B_byte0 B_byte1
set_option maxHeartbeats 1000000 in
theorem rbytes_any (ao : Option Addr) (n cap : Nat) (f : Nat → BitVec 32) (w : World) (hr : Row w ao n (fun i => .int .u32 (B (f i)))) (hn : n ≤ 500) :
    Calls Try.prog 36 #[.slice ao n cap] w fun e w' => ∃ v, e = .returned v ∧ w'.ownsRow w.heap.size 5 1 v (4 * n) (bytesAt f n) ∧ Below w.heap.size w w' := by
  obtain ⟨i0, hi, hz0, hz1, hz2⟩ := info_parts infoU8
  go_enter Try.func36, Try.ntmps36
  go_wp2
  go_loopw [3, 4] (fun v i wr => ∃ k : Nat, k ≤ n ∧ i = .int .i64 k ∧ wr.ownsRow w.heap.size 5 1 v (4 * k) (bytesAt f k) ∧ Below w.heap.size w wr) (fun _ i _ => n - (intOf i).toNat)
  case atStart => exact ⟨0, by omega, rfl, World.ownsRow_nil w w.heap.size 5 1, Below.refl _ _⟩
  case round =>
    obtain ⟨k, hk, rfl, hown, hbr⟩ := hrel
    by_cases hlt : k < n
    · obtain ⟨b, o, rfl, hc⟩ := hr.below hbr k hlt
      have hbl := hr.lt hlt rfl
      obtain ⟨Ws, hWs⟩ : ∃ Ws, Ws = two wr (Obj.cells #[Value.int .u8 (B8 ((f k >>> 24).setWidth 8)), Value.int .u8 (B8 ((f k >>> 16).setWidth 8)), Value.int .u8 (B8 ((f k >>> 8).setWidth 8)), Value.int .u8 (B8 ((f k).setWidth 8))] 5) := ⟨_, rfl⟩
      have c0 : ∀ s, (Ws s).cell? ⟨b, o + k, none⟩ = some (.int .u32 (B (f k))) := fun s => by rw [hWs]; exact cell_two hc _ _
      have HW := hid hWs
      have HC := hid hc
      clear hWs hc
      go_wp2
      refine wp_region_stage 28 (Drawn Ws) (by kernel_rfl) (by kernel_rfl) (Drawn.start _ _ (by rw [HW.out]; rfl)) ?_
      simp only [List.take_succ_cons, List.take_zero, List.drop_succ_cons, List.drop_zero]
      repeat (refine wpStg_quiet (by rfl) (by rfl) (fun K hK => ?_); go_simp; (refine hK _ ?_; clear hK K))
      simp only [byte24, byte16, byte8, byte0]
      refine wpStg_eff (by rfl) (by rfl) (fun K hK => ?_)
      go_simp
      refine ⟨_, fun n => ⟨rfl, n, by rw [HW.out]; rfl⟩, hK _ ?_⟩
      clear hK K
      refine wpStg_nil ?_
      rintro _ ⟨nq, rfl⟩
      rw [show Ws 1 = wr.alloc _ by rw [HW.out]; rfl, show Ws 0 = wr by rw [HW.out]; rfl]
      obtain ⟨W, hW⟩ : ∃ W, W = (wr.alloc (Obj.cells #[Value.int .u8 (B8 ((f k >>> 24).setWidth 8)), Value.int .u8 (B8 ((f k >>> 16).setWidth 8)), Value.int .u8 (B8 ((f k >>> 8).setWidth 8)), Value.int .u8 (B8 ((f k).setWidth 8))] 5)).drewN nq := ⟨_, rfl⟩
      have hownW : W.ownsRow w.heap.size 5 1 u3 (4 * k) (bytesAt f k) := by rw [hW]; exact hown.alloc _
      have hbW : Below w.heap.size w W := by rw [hW]; exact (hbr.alloc hbr.size _).trans ⟨rfl, rfl, rfl, Nat.le_refl _, fun _ _ => rfl⟩
      have hnews : ∀ (j : Nat) (u : Value), [Value.int .u8 (B8 ((f k >>> 24).setWidth 8)), Value.int .u8 (B8 ((f k >>> 16).setWidth 8)), Value.int .u8 (B8 ((f k >>> 8).setWidth 8)), Value.int .u8 (B8 ((f k).setWidth 8))][j]? = some u → W.cell? ((⟨wr.heap.size, 0, none⟩ : Addr).add j) = some u := fun j u hj => by
        rw [add_off, hW, Nat.zero_add]
        show (wr.alloc _).cell? _ = _
        rw [World.cell?_alloc_at _ _ _ _ rfl]; simpa using hj
      rw [← hW]
      have hsz := hid hbW.size
      clear hW HW c0 HC Ws
      go_wp2_with (at_builtin; refine wpList_append_own _ rfl _ _ 47 rfl w.heap.size 5 i0 (.int .u8 0) 1 1 Try.underlying47 hi hz0 hz1 hz2 rfl (by decide) _ _ _ rfl hownW ⟨wr.heap.size, 0, none⟩ 4 4 _ rfl (by simp) hnews (by simp [Value.oneCell']) (by unfold maxLen; omega) (by omega) hsz.out ?_; intro v' w1 hown1 hgrow _; rw [← bytesAt_succ] at hown1)
      go_roundw
      case rel => exact ⟨k + 1, by omega, by go_num, by rw [show 4 * (k + 1) = 4 * k + 4 by omega]; exact hown1, hbW.grown hgrow hsz.out fun j hj => (hownW.lt j hj).1⟩
      case measure => simp [intOf]; omega
    · obtain rfl : k = n := by omega
      go_wp2
      go_ret
      exact ⟨_, rfl, hown, hbr⟩
end
/-! the walk -/
def bytesF (f : Nat → BitVec 32) (i : Nat) : BitVec 8 := ((wordB (f (i / 4)))[i % 4]?).getD 0
theorem bytesAt_F (f : Nat → BitVec 32) (n : Nat) : bytesAt f n = (List.range (4 * n)).map fun i => .int .u8 (B8 (bytesF f i)) := by
  induction n with
  | zero => rfl
  | succ n ih =>
    rw [bytesAt_succ, ih, show 4 * (n + 1) = 4 * n + 1 + 1 + 1 + 1 by omega]
    simp only [List.range_succ, List.map_append, List.map_cons, List.map_nil, List.append_assoc, List.cons_append, List.nil_append]
    have e0 : bytesF f (4 * n) = (f n >>> 24).setWidth 8 := by unfold bytesF; rw [show 4 * n / 4 = n by omega, show 4 * n % 4 = 0 by omega]; rfl
    have e1 : bytesF f (4 * n + 1) = (f n >>> 16).setWidth 8 := by unfold bytesF; rw [show (4 * n + 1) / 4 = n by omega, show (4 * n + 1) % 4 = 1 by omega]; rfl
    have e2 : bytesF f (4 * n + 1 + 1) = (f n >>> 8).setWidth 8 := by unfold bytesF; rw [show (4 * n + 1 + 1) / 4 = n by omega, show (4 * n + 1 + 1) % 4 = 2 by omega]; rfl
    have e3 : bytesF f (4 * n + 1 + 1 + 1) = (f n).setWidth 8 := by unfold bytesF; rw [show (4 * n + 1 + 1 + 1) / 4 = n by omega, show (4 * n + 1 + 1 + 1) % 4 = 3 by omega]; rfl
    rw [e0, e1, e2, e3]
theorem bytesF_words (f : Nat → BitVec 32) (n : Nat) : bytesC 0#32 ((List.range (4 * n)).map (bytesF f)) = wordsC 0#32 ((List.range n).map f) := by
  induction n with
  | zero => rfl
  | succ n ih =>
    rw [wordsC_succ, ← ih, show 4 * (n + 1) = 4 * n + 1 + 1 + 1 + 1 by omega, bytesC_succ, bytesC_succ, bytesC_succ, bytesC_succ]
    have e0 : bytesF f (4 * n) = (f n >>> 24).setWidth 8 := by unfold bytesF; rw [show 4 * n / 4 = n by omega, show 4 * n % 4 = 0 by omega]; rfl
    have e1 : bytesF f (4 * n + 1) = (f n >>> 16).setWidth 8 := by unfold bytesF; rw [show (4 * n + 1) / 4 = n by omega, show (4 * n + 1) % 4 = 1 by omega]; rfl
    have e2 : bytesF f (4 * n + 1 + 1) = (f n >>> 8).setWidth 8 := by unfold bytesF; rw [show (4 * n + 1 + 1) / 4 = n by omega, show (4 * n + 1 + 1) % 4 = 2 by omega]; rfl
    have e3 : bytesF f (4 * n + 1 + 1 + 1) = (f n).setWidth 8 := by unfold bytesF; rw [show (4 * n + 1 + 1 + 1) / 4 = n by omega, show (4 * n + 1 + 1 + 1) % 4 = 3 by omega]; rfl
    rw [e0, e1, e2, e3]
    rfl
/-- The document's sum of words. -/
theorem rwords_any (w : World) (v : Value) (base n : Nat) (f : Nat → BitVec 32) (ho : w.ownsRow base 5 1 v (4 * n) (bytesAt f n)) (hn : n ≤ 500) :
    Calls Try.prog 35 #[v] w fun e w' => e = .returned (.int .u32 (B (wordsC 0#32 ((List.range n).map f)))) ∧ w = w' := by
  have hv : ∃ ao cap, v = .slice ao (4 * n) cap := by
    rcases ho.2 with ⟨rfl, h⟩ | ⟨g, cap, cur, rfl, _⟩
    · exact ⟨none, 0, by rw [h]⟩
    · exact ⟨_, cap, rfl⟩
  obtain ⟨ao, cap, rfl⟩ := hv
  have hr := row_of_own ho
  rw [bytesAt_F] at hr
  have hr' : Row w ao (4 * n) (fun i => .int .u8 (B8 (bytesF f i))) := hr.congr fun i hi => by simp [List.getD, hi]
  have := rsum_any ao (4 * n) cap (bytesF f) w hr' (by omega)
  rwa [bytesF_words] at this
set_option maxRecDepth 100000 in
theorem sums_walk (ao bo : Option Addr) (n m ca cb : Nat) (f : Nat → BitVec 8) (g : Nat → BitVec 32) (w : World) (hn : n ≤ maxLen) (hm : m ≤ maxLen) (ha : Row w ao n (fun i => .int .u8 (B8 (f i)))) (hb : Row w bo m (fun i => .int .u32 (B (g i)))) :
    Calls Try.prog 8 #[.slice ao n ca, .slice bo m cb] w fun e w' => e = .returned (.bool true) ∧ Below w.heap.size w w' := by
  unfold maxLen at hn hm
  by_cases h : 2000 < n ∨ n ≤ 2000 ∧ 500 < m
  · rcases h with h | ⟨h, h2⟩
    all_goals
      go_enter Try.func8, Try.ntmps8
      go_wp2
      go_ret
      exact ⟨rfl, Below.refl _ _⟩
  · have h1 : decide (2000 < (n : Int)) = false := by simp; omega
    have h2 : decide (500 < (m : Int)) = false := by simp; omega
    have h3 : m ≤ 500 := by omega
    have h4 : n ≤ 2000 := by omega
    clear hn hm h
    go_enter Try.func8, Try.ntmps8
    go_wp2_with (go_at_call 33; refine (sum_any _ _ _ _ _ ha (by omega)).mono ?_; rintro e w1 ⟨rfl, hs, hb1, hlt⟩)
    have hnew := SumAt.new w1 51
    go_loopw [7, 30] (fun i _ wr => ∃ k : Nat, k ≤ m ∧ i = .int .i64 k ∧ SumAt wr w1.heap.size (wordsC 0#32 ((List.range k).map g)) (4 * k) ∧ Below w1.heap.size w1 wr ∧ w1.heap.size < wr.heap.size) (fun i _ _ => m - (intOf i).toNat)
    case atStart => exact ⟨0, by omega, rfl, by simpa [wordsC] using hnew, (Below.refl _ _).alloc (Nat.le_refl _) _, by simp [go_sem]⟩
    case round =>
      obtain ⟨k, hk, rfl, hx, hbr, hsz⟩ := hrel
      have hbw : Below w.heap.size w wr := hb1.trans (hbr.mono hb1.size)
      clear hnew
      by_cases hlt2 : k < m
      · obtain ⟨b, o, rfl, hc⟩ := hb.below hbw k hlt2
        have hbl := hb.lt hlt2 rfl
        go_wp2_with (go_at_call 34; refine (word_any w1.heap.size _ _ _ _ hx (by omega) (by omega)).mono ?_; rintro e w2 ⟨⟨v, rfl⟩, hx2, hg2⟩)
        go_roundw
        case rel => exact ⟨k + 1, by omega, by go_num, by rw [wordsC_succ, show 4 * ((k + 1 : Nat) : Int) = 4 * (k : Int) + 4 by omega]; exact hx2, hbr.trans (grown_below hg2 (Nat.le_refl _) hbr.size), Nat.lt_of_lt_of_le hsz hg2.size⟩
        case measure => simp [intOf]; omega
      · obtain rfl : k = m := by omega
        have hs' := hs.below hbr
        have hA := ha.below hbw
        have hB := hb.below hbw
        clear hs ha hb
        go_wp2_with fail
        refine (rbytes_any _ k _ g wr hB (by omega)).mono ?_
        rintro e w2 ⟨v, rfl, hown, h2⟩
        have hs2 := hs'.below (h2.mono (by have := cell_lt hs'.1; omega))
        have hx2 := hx.below (h2.mono (by omega))
        have hA2 := hA.below h2
        have hB2 := hB.below h2
        have hb2 := hbw.trans (h2.mono hbw.size)
        clear hs' hx hA hB h2
        go_wp2_with fail
        refine (rwords_any _ v _ k g hown (by omega)).mono ?_
        rintro e w3 ⟨rfl, rfl⟩
        generalize hq : B (wordsC 0#32 ((List.range k).map g)) = q
        go_wp2_with fail
        refine (value_any _ _ _ _ hs2).mono ?_
        rintro e w3 ⟨rfl, rfl⟩
        go_wp2_with fail
        refine (rsum_any _ n _ f _ hA2 (by omega)).mono ?_
        rintro e w3 ⟨rfl, rfl⟩
        go_wp2_with fail
        refine (many_any _ _ _ _ hs2).mono ?_
        rintro e w3 ⟨rfl, rfl⟩
        go_wp2_with fail
        refine (words_any _ k _ g _ hB2 (by omega)).mono ?_
        rintro e w3 ⟨rfl, h3⟩
        rw [hq]
        have hx3 := hx2.below h3
        have hb3 := hb2.trans (h3.mono hb2.size)
        clear hx2 h3 hb2
        go_wp2_with fail
        refine (value_any _ _ _ _ hx3).mono ?_
        rintro e w4 ⟨rfl, rfl⟩
        rw [hq]
        go_wp2_with fail
        refine (many_any _ _ _ _ hx3).mono ?_
        rintro e w4 ⟨rfl, rfl⟩
        go_wp2_with (go_at_call 32; refine (crcAlive_any _).mono ?_; rintro e w4 ⟨rfl, h4⟩)
        go_ret
        exact ⟨rfl, hb3.trans (h4.mono hb3.size)⟩
end Go.Proofs.Ytgcpfmdldgmbnaa
