/-
  Plain facts on the sum CRC-32: bit by bit; it is linear; a step can be taken back.
-/
import Derived.Test.YtgcpfmdldgmbnaaBits
namespace Go.Proofs.Ytgcpfmdldgmbnaa
open Go.RowKit
def poly : BitVec 32 := 3988292384#32
/-- One bit. -/
def stp (x : BitVec 32) : BitVec 32 := if bt x 0 then (x >>> 1) ^^^ poly else x >>> 1
def stpn : Nat → BitVec 32 → BitVec 32
  | 0, x => x
  | n + 1, x => stp (stpn n x)
def byteC (t : BitVec 32) (b : BitVec 8) : BitVec 32 := ~~~(stpn 8 (~~~t ^^^ b.setWidth 32))
def bytesC (t : BitVec 32) (l : List (BitVec 8)) : BitVec 32 := l.foldl byteC t
def wordB (w : BitVec 32) : List (BitVec 8) := [(w >>> 24).setWidth 8, (w >>> 16).setWidth 8, (w >>> 8).setWidth 8, w.setWidth 8]
def wordC (t w : BitVec 32) : BitVec 32 := bytesC t (wordB w)
def wordsC (t : BitVec 32) (l : List (BitVec 32)) : BitVec 32 := l.foldl wordC t
theorem wordsC_bytes (t : BitVec 32) (l : List (BitVec 32)) : wordsC t l = bytesC t (l.flatMap wordB) := by
  induction l generalizing t with
  | nil => rfl
  | cons w l ih =>
    show wordsC (wordC t w) l = _
    rw [ih, List.flatMap_cons]
    unfold bytesC wordC bytesC
    rw [List.foldl_append]
/-! linear -/
theorem shr_xor (x y : BitVec 32) (n : Nat) : (x ^^^ y) >>> n = (x >>> n) ^^^ (y >>> n) := by
  refine BitVec.eq_of_getLsbD_eq fun i hi => ?_
  simp only [BitVec.getLsbD_ushiftRight, BitVec.getLsbD_xor]
theorem stp_xor (x y : BitVec 32) : stp (x ^^^ y) = stp x ^^^ stp y := by
  unfold stp
  have e : bt (x ^^^ y) 0 = (bt x 0 ^^ bt y 0) := by simp only [bt, BitVec.getLsbD_xor]
  rw [e, shr_xor]
  generalize x >>> 1 = u
  generalize y >>> 1 = v
  generalize poly = p
  cases bt x 0 <;> cases bt y 0 <;> simp only [Bool.xor_true, Bool.xor_false, Bool.not_true, Bool.not_false, if_true, Bool.false_eq_true, if_false]
  · rw [BitVec.xor_assoc]
  · rw [BitVec.xor_assoc, BitVec.xor_comm v p, ← BitVec.xor_assoc]
  · rw [BitVec.xor_assoc, BitVec.xor_comm p (v ^^^ p), BitVec.xor_assoc, BitVec.xor_self, BitVec.xor_zero]
theorem stpn_xor (n : Nat) (x y : BitVec 32) : stpn n (x ^^^ y) = stpn n x ^^^ stpn n y := by
  induction n with
  | zero => rfl
  | succ n ih => simp only [stpn]; rw [ih, stp_xor]
theorem stp_zero : stp 0#32 = 0#32 := by decide
/-! it can be taken back -/
theorem stp_inj0 {x : BitVec 32} (h : stp x = 0#32) : x = 0#32 := by
  have hm : bt x 0 = false := by
    cases hb : bt x 0 with
    | false => rfl
    | true =>
      exfalso
      unfold stp at h
      rw [hb, if_pos rfl] at h
      have := congrArg (fun z => z.getLsbD 31) h
      simp only [BitVec.getLsbD_xor, BitVec.getLsbD_ushiftRight, BitVec.getLsbD_zero] at this
      have h1 : x.getLsbD (1 + 31) = false := BitVec.getLsbD_of_ge _ _ (by omega)
      rw [h1] at this
      revert this
      decide
  unfold stp at h
  rw [hm] at h
  simp only [Bool.false_eq_true, if_false] at h
  refine BitVec.eq_of_getLsbD_eq fun i hi => ?_
  simp only [BitVec.getLsbD_zero]
  cases i with
  | zero => exact hm
  | succ i =>
    have := congrArg (fun z => z.getLsbD i) h
    simp only [BitVec.getLsbD_ushiftRight, BitVec.getLsbD_zero] at this
    rwa [Nat.add_comm] at this
theorem stpn_inj0 {n : Nat} {x : BitVec 32} (h : stpn n x = 0#32) : x = 0#32 := by
  induction n with
  | zero => exact h
  | succ n ih => exact ih (stp_inj0 h)
theorem xor0 {x y : BitVec 32} (h : x ^^^ y = 0#32) : x = y := by
  refine BitVec.eq_of_getLsbD_eq fun i hi => ?_
  have := congrArg (fun z => z.getLsbD i) h
  simp only [BitVec.getLsbD_xor, BitVec.getLsbD_zero] at this
  revert this
  cases x.getLsbD i <;> cases y.getLsbD i <;> simp
theorem stpn_inj {n : Nat} {x y : BitVec 32} (h : stpn n x = stpn n y) : x = y := by
  have : stpn n (x ^^^ y) = 0#32 := by rw [stpn_xor, h, BitVec.xor_self]
  exact xor0 (stpn_inj0 this)
theorem byteC_eq {t t' : BitVec 32} {b b' : BitVec 8} : byteC t b = byteC t' b' ↔ ~~~t ^^^ b.setWidth 32 = ~~~t' ^^^ b'.setWidth 32 := by
  unfold byteC
  constructor
  · intro h
    exact stpn_inj (BitVec.not_inj.1 h)
  · intro h; rw [h]
theorem xor_left {a b c : BitVec 32} (h : a ^^^ b = a ^^^ c) : b = c := by
  have := congrArg (fun z => a ^^^ z) h
  simp only [← BitVec.xor_assoc, BitVec.xor_self, BitVec.zero_xor] at this
  exact this
theorem xor_right {a b c : BitVec 32} (h : b ^^^ a = c ^^^ a) : b = c := xor_left (a := a) (by rw [BitVec.xor_comm a b, BitVec.xor_comm a c]; exact h)
theorem byteC_state {t t' : BitVec 32} {b : BitVec 8} (h : byteC t b = byteC t' b) : t = t' := BitVec.not_inj.1 (xor_right (byteC_eq.1 h))
theorem byteC_byte {t : BitVec 32} {b b' : BitVec 8} (h : byteC t b = byteC t b') : b = b' := by
  have h1 := xor_left (byteC_eq.1 h)
  refine BitVec.eq_of_getLsbD_eq fun i hi => ?_
  have := congrArg (fun z => z.getLsbD i) h1
  simpa [show i < 32 by omega] using this
theorem bytesC_state {l : List (BitVec 8)} {t t' : BitVec 32} (h : bytesC t l = bytesC t' l) : t = t' := by
  induction l generalizing t t' with
  | nil => exact h
  | cons b l ih => exact byteC_state (ih h)
theorem wordsC_state {l : List (BitVec 32)} {t t' : BitVec 32} (h : wordsC t l = wordsC t' l) : t = t' := by
  rw [wordsC_bytes, wordsC_bytes] at h; exact bytesC_state h
theorem not_xor3 (a b c : BitVec 32) : ~~~(a ^^^ b ^^^ c) = ~~~a ^^^ ~~~b ^^^ ~~~c := by
  refine BitVec.eq_of_getLsbD_eq fun i hi => ?_
  simp only [BitVec.getLsbD_xor, BitVec.getLsbD_not, hi, decide_true, Bool.true_and]
  cases a.getLsbD i <;> cases b.getLsbD i <;> cases c.getLsbD i <;> rfl
theorem mix6 (a b c d e f : BitVec 32) : a ^^^ b ^^^ c ^^^ (d ^^^ e ^^^ f) = (a ^^^ d) ^^^ (b ^^^ e) ^^^ (c ^^^ f) := by
  refine BitVec.eq_of_getLsbD_eq fun i hi => ?_
  simp only [BitVec.getLsbD_xor]
  cases a.getLsbD i <;> cases b.getLsbD i <;> cases c.getLsbD i <;> cases d.getLsbD i <;> cases e.getLsbD i <;> cases f.getLsbD i <;> rfl
theorem setWidth_xor3 (a b c : BitVec 8) : (a ^^^ b ^^^ c).setWidth 32 = a.setWidth 32 ^^^ b.setWidth 32 ^^^ c.setWidth 32 := by
  refine BitVec.eq_of_getLsbD_eq fun i hi => ?_
  simp only [BitVec.getLsbD_xor, BitVec.getLsbD_setWidth, hi, decide_true, Bool.true_and]
theorem byteC_xor3 (t u v : BitVec 32) (a b c : BitVec 8) : byteC (t ^^^ u ^^^ v) (a ^^^ b ^^^ c) = byteC t a ^^^ byteC u b ^^^ byteC v c := by
  unfold byteC
  rw [← not_xor3, ← stpn_xor, ← stpn_xor, setWidth_xor3, not_xor3, mix6]
theorem wordB_xor3 (x y z : BitVec 32) (n : Nat) : ((x ^^^ y ^^^ z) >>> n).setWidth 8 = (x >>> n).setWidth 8 ^^^ (y >>> n).setWidth 8 ^^^ (z >>> n).setWidth 8 := by
  refine BitVec.eq_of_getLsbD_eq fun i hi => ?_
  simp only [BitVec.getLsbD_xor, BitVec.getLsbD_setWidth, BitVec.getLsbD_ushiftRight, hi, decide_true, Bool.true_and]
theorem wordC_xor3 (t u v x y z : BitVec 32) : wordC (t ^^^ u ^^^ v) (x ^^^ y ^^^ z) = wordC t x ^^^ wordC u y ^^^ wordC v z := by
  unfold wordC wordB bytesC
  simp only [List.foldl_cons, List.foldl_nil]
  rw [wordB_xor3, wordB_xor3, wordB_xor3, show (x ^^^ y ^^^ z).setWidth 8 = x.setWidth 8 ^^^ y.setWidth 8 ^^^ z.setWidth 8 from wordB_xor3 x y z 0, byteC_xor3, byteC_xor3, byteC_xor3, byteC_xor3]
/-- The sums of three texts of one length. -/
theorem wordsC_xor3 (n : Nat) (f g h : Nat → BitVec 32) (t u v : BitVec 32) :
    wordsC (t ^^^ u ^^^ v) ((List.range n).map fun i => f i ^^^ g i ^^^ h i) = wordsC t ((List.range n).map f) ^^^ wordsC u ((List.range n).map g) ^^^ wordsC v ((List.range n).map h) := by
  induction n with
  | zero => rfl
  | succ n ih =>
    unfold wordsC at ih ⊢
    simp only [List.range_succ, List.map_append, List.map_cons, List.map_nil, List.foldl_append, List.foldl_cons, List.foldl_nil]
    rw [ih, wordC_xor3]
/-! a turned bit -/
theorem byte_turned {w : BitVec 32} {k s : Nat} (hk : k < 32) : (s ≤ k ∧ k < s + 8 → ((w ^^^ (1#32 <<< k)) >>> s).setWidth 8 ≠ (w >>> s).setWidth 8) ∧ (k < s ∨ s + 8 ≤ k → ((w ^^^ (1#32 <<< k)) >>> s).setWidth 8 = (w >>> s).setWidth 8) := by
  have hb : ∀ i, i < 32 → (1#32 <<< k).getLsbD i = decide (i = k) := fun i hi => by
    rw [BitVec.getLsbD_shiftLeft]
    by_cases h : i < k
    · simp [h]; omega
    · by_cases h2 : i = k
      · subst h2; simp [hi]
      · have : (1#32).getLsbD (i - k) = false := by
          rw [BitVec.getLsbD_one]; simp; omega
        rw [this]; simp [h2]
  constructor
  · intro h e
    have := congrArg (fun z => z.getLsbD (k - s)) e
    simp only [BitVec.getLsbD_setWidth, BitVec.getLsbD_ushiftRight, BitVec.getLsbD_xor, show s + (k - s) = k by omega, hb k hk, decide_true, show k - s < 8 by omega, Bool.true_and] at this
    revert this
    cases w.getLsbD k <;> simp
  · intro h
    refine BitVec.eq_of_getLsbD_eq fun i hi => ?_
    simp only [BitVec.getLsbD_setWidth, BitVec.getLsbD_ushiftRight, BitVec.getLsbD_xor, hi, decide_true, Bool.true_and]
    by_cases h32 : s + i < 32
    · rw [hb _ h32, decide_eq_false (by omega)]; simp
    · rw [BitVec.getLsbD_of_ge (1#32 <<< k) _ (by omega)]; simp
theorem wordC_turned (t w : BitVec 32) {k : Nat} (hk : k < 32) : wordC t (w ^^^ (1#32 <<< k)) ≠ wordC t w := by
  intro h
  unfold wordC wordB bytesC at h
  simp only [List.foldl_cons, List.foldl_nil] at h
  have e24 := byte_turned (w := w) (s := 24) hk
  have e16 := byte_turned (w := w) (s := 16) hk
  have e8 := byte_turned (w := w) (s := 8) hk
  have e0 : (0 ≤ k ∧ k < 0 + 8 → (w ^^^ (1#32 <<< k)).setWidth 8 ≠ w.setWidth 8) ∧ (k < 0 ∨ 0 + 8 ≤ k → (w ^^^ (1#32 <<< k)).setWidth 8 = w.setWidth 8) := byte_turned (w := w) (s := 0) hk
  by_cases h1 : k < 8
  · rw [e24.2 (by omega), e16.2 (by omega), e8.2 (by omega)] at h
    exact e0.1 (by omega) (byteC_byte h)
  · rw [e0.2 (by omega)] at h
    have h := byteC_state h
    by_cases h2 : k < 16
    · rw [e24.2 (by omega), e16.2 (by omega)] at h
      exact e8.1 (by omega) (byteC_byte h)
    · rw [e8.2 (by omega)] at h
      have h := byteC_state h
      by_cases h3 : k < 24
      · rw [e24.2 (by omega)] at h
        exact e16.1 (by omega) (byteC_byte h)
      · rw [e16.2 (by omega)] at h
        exact e24.1 (by omega) (byteC_byte (byteC_state h))
theorem wordsC_turned {l : List (BitVec 32)} {i k : Nat} {w : BitVec 32} (hi : l[i]? = some w) (hk : k < 32) (t : BitVec 32) : wordsC t (l.set i (w ^^^ (1#32 <<< k))) ≠ wordsC t l := by
  induction l generalizing i t with
  | nil => simp at hi
  | cons x l ih =>
    cases i with
    | zero =>
      simp at hi; subst hi
      intro h
      exact wordC_turned t x hk (wordsC_state (l := l) h)
    | succ i => exact ih (by simpa using hi) (wordC t x)
/-! the document's sum -/
def rstp (s : BitVec 32) (b : Bool) : BitVec 32 := if bt s 0 != b then (s >>> 1) ^^^ poly else s >>> 1
theorem rstp_stp (x b : BitVec 32) (k : Nat) : rstp (x ^^^ (b >>> k)) (bt b k) = stp x ^^^ (b >>> (k + 1)) := by
  unfold rstp stp
  have e : (bt (x ^^^ (b >>> k)) 0 != bt b k) = bt x 0 := by
    simp only [bt, BitVec.getLsbD_xor, BitVec.getLsbD_ushiftRight, Nat.add_zero]
    cases x.getLsbD 0 <;> cases b.getLsbD k <;> rfl
  rw [e, shr_xor]
  have e2 : b >>> k >>> 1 = b >>> (k + 1) := by rw [← BitVec.shiftRight_add]
  rw [e2]
  cases bt x 0
  · rfl
  · simp only [if_true]
    rw [BitVec.xor_assoc, BitVec.xor_comm (b >>> (k + 1)) poly, BitVec.xor_assoc]
def rbits (s b : BitVec 32) : Nat → BitVec 32
  | 0 => s
  | k + 1 => rstp (rbits s b k) (bt b k)
theorem rbits_stpn (s b : BitVec 32) (k : Nat) : rbits s b k = stpn k (s ^^^ b) ^^^ (b >>> k) := by
  induction k with
  | zero =>
    show s = (s ^^^ b) ^^^ (b >>> 0)
    rw [BitVec.ushiftRight_zero, BitVec.xor_assoc, BitVec.xor_self, BitVec.xor_zero]
  | succ k ih => simp only [rbits, stpn]; rw [ih, rstp_stp]
theorem rbits_byte (t : BitVec 32) (b : BitVec 8) : rbits (~~~t) (b.setWidth 32) 8 = ~~~(byteC t b) := by
  rw [rbits_stpn]
  unfold byteC
  rw [BitVec.not_not]
  have : (b.setWidth 32) >>> 8 = 0#32 := by
    refine BitVec.eq_of_getLsbD_eq fun i hi => ?_
    simp only [BitVec.getLsbD_ushiftRight, BitVec.getLsbD_setWidth, BitVec.getLsbD_zero]
    rw [BitVec.getLsbD_of_ge b _ (by omega)]; simp
  rw [this, BitVec.xor_zero]
end Go.Proofs.Ytgcpfmdldgmbnaa
