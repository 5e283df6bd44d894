/- Floats and complex numbers: the rules, and what they hold of whole numbers. No program in it. -/
import Derived.Test.YtdhekpodgemneaaCore11
import Derived.Laws.ComplexArith
set_option linter.unusedVariables false
set_option linter.unusedSimpArgs false
set_option linter.unusedSectionVars false
set_option maxRecDepth 100000
namespace Go.Proofs.Ytdhekpodgemneaa
open Go Go.RowKit

structure Cpx where
  re : Nat
  im : Nat
  deriving Inhabited, DecidableEq
def cadd (x y : Cpx) : Option Cpx := (cSumBits .add .f64 x.re x.im y.re y.im).map fun p => ⟨p.1, p.2⟩
section
variable {P : Program} {n : Nat} {k : Kt} {ρ : Nat → Value} {w w0 : World} {Γ : List (World → Prop)} {ops : Array Oper} {l : List Oper} {dst : Option Tmp} {ty : TypeId} {pos : String} {after : Array Edge} {g : Option (Nat × Bool)} {t : TypeId} {x y : Operand}
theorem r_convf {s d : TypeId} {kk : IntKind} {sk : TypeDesc} {a : Int} (hs : P.underlying s = some sk) (hd : P.underlying d = some (.float .f64)) (hx : ev n ρ x = .int kk a) (hk : R P n ops l k (updo ρ dst (.float .f64 (floatOfInt .f64 a))) w) (hw : wn n ops ρ ⟨dst, .convert s d x, ty, pos, after, g⟩ = true := by rfl) : R P n ops (⟨dst, .convert s d x, ty, pos, after, g⟩ :: l) k ρ w :=
  r_val (by simp [execOp, hx, run_convert_int_float w s d kk .f64 a (by rw [hs]; rfl) hd]) hw hk
theorem r_complex {ts : Array TypeId} {a b : Nat} (hx : ev n ρ x = .float .f64 a) (hy : ev n ρ y = .float .f64 b) (hk : R P n ops l k (updo ρ dst (.complex .f64 a b)) w) (hw : wn n ops ρ ⟨dst, .call ⟨.builtin .complex, #[x, y], ts⟩, ty, pos, after, g⟩ = true := by rfl) : R P n ops (⟨dst, .call ⟨.builtin .complex, #[x, y], ts⟩, ty, pos, after, g⟩ :: l) k ρ w :=
  r_val (by have h : (Builtin.complex_ ts ty #[.float .f64 a, .float .f64 b]).run P w = .ok (.complex .f64 a b) w := rfl
            simp [execOp, resolve, invoke, builtin, hx, hy, h]) hw hk
theorem r_real {ts : Array TypeId} {a b : Nat} (hx : ev n ρ x = .complex .f64 a b) (hk : R P n ops l k (updo ρ dst (.float .f64 a)) w) (hw : wn n ops ρ ⟨dst, .call ⟨.builtin .real, #[x], ts⟩, ty, pos, after, g⟩ = true := by rfl) : R P n ops (⟨dst, .call ⟨.builtin .real, #[x], ts⟩, ty, pos, after, g⟩ :: l) k ρ w :=
  r_val (by have h : (Builtin.real_ ts ty #[.complex .f64 a b]).run P w = .ok (.float .f64 a) w := rfl
            simp [execOp, resolve, invoke, builtin, hx, h]) hw hk
theorem r_imag {ts : Array TypeId} {a b : Nat} (hx : ev n ρ x = .complex .f64 a b) (hk : R P n ops l k (updo ρ dst (.float .f64 b)) w) (hw : wn n ops ρ ⟨dst, .call ⟨.builtin .imag, #[x], ts⟩, ty, pos, after, g⟩ = true := by rfl) : R P n ops (⟨dst, .call ⟨.builtin .imag, #[x], ts⟩, ty, pos, after, g⟩ :: l) k ρ w :=
  r_val (by have h : (Builtin.imag_ ts ty #[.complex .f64 a b]).run P w = .ok (.float .f64 b) w := rfl
            simp [execOp, resolve, invoke, builtin, hx, h]) hw hk
theorem r_cadd {a b z : Cpx} {yt : TypeId} (h : cadd a b = some z) (hx : ev n ρ x = .complex .f64 a.re a.im) (hy : ev n ρ y = .complex .f64 b.re b.im) (hk : R P n ops l k (updo ρ dst (.complex .f64 z.re z.im)) w) (hw : wn n ops ρ ⟨dst, .binOp .add t x y yt, ty, pos, after, g⟩ = true := by rfl) : R P n ops (⟨dst, .binOp .add t x y yt, ty, pos, after, g⟩ :: l) k ρ w := by
  unfold cadd at h
  cases h2 : cSumBits .add .f64 a.re a.im b.re b.im with
  | none => rw [h2] at h; cases h
  | some p =>
    rw [h2] at h
    cases h
    have := run_complex_sum (P := P) w .add (.inl rfl) t .f64 a.re a.im b.re b.im p.1 p.2 h2
    exact r_val (by simp [execOp, hx, hy, eqGuard, this]) hw hk
theorem r_eqf {a b : Nat} {yt : TypeId} (hx : ev n ρ x = .float .f64 a) (hy : ev n ρ y = .float .f64 b) (hk : R P n ops l k (updo ρ dst (.bool (Op.floatEq .f64 a b))) w) (hw : wn n ops ρ ⟨dst, .binOp .eql t x y yt, ty, pos, after, g⟩ = true := by rfl) : R P n ops (⟨dst, .binOp .eql t x y yt, ty, pos, after, g⟩ :: l) k ρ w :=
  r_val (by
    have h : (Op.floatCmp .eql .f64 a b).run P w = .ok (.bool (Op.floatEq .f64 a b)) w := rfl
    simp [execOp, hx, hy, eqGuard, binOp, h]) hw hk
end

/-! ### whole numbers as doubles -/
/-- the double of a whole number -/
def dbl (a : Nat) : Nat := Ieee.double.nearest false a 0
theorem dbl_int {n : Int} (h : 0 ≤ n) : floatOfInt .f64 n = dbl n.toNat := by
  unfold floatOfInt FloatKind.nearest FloatKind.encode dbl
  have h1 : decide (n < 0) = false := by simpa using h
  have h2 : n.natAbs = n.toNat := by omega
  rw [h1, h2]; rfl
theorem dbl_least : Ieee.double.leastPlace = -1074 := by decide
theorem cut0 (m : Nat) : Ieee.Toward.even.cut false m 0 = m := by
  unfold Ieee.Toward.cut
  have h1 : (1 <<< min 0 (m.log2 + 2) : Nat) = 1 := by rw [Nat.zero_min]; rfl
  simp only [h1, Nat.div_one, Nat.mod_one]
  simp
theorem cutd {a d : Nat} (ha : 0 < a) : Ieee.Toward.even.cut false (a * 2 ^ d) d = a := by
  have hl : (a * 2 ^ d).log2 = a.log2 + d := by
    rw [Nat.log2_eq_iff (by have := Nat.two_pow_pos d; exact Nat.ne_of_gt (Nat.mul_pos ha this))]
    have h1 := (Nat.log2_eq_iff (n := a) (k := a.log2) (by omega)).1 rfl
    constructor
    · rw [Nat.pow_add]; exact Nat.mul_le_mul_right _ h1.1
    · rw [show a.log2 + d + 1 = (a.log2 + 1) + d by omega, Nat.pow_add]; exact Nat.mul_lt_mul_of_pos_right h1.2 (Nat.two_pow_pos d)
  unfold Ieee.Toward.cut
  rw [hl, show min d (a.log2 + d + 2) = d by omega]
  have hg : (1 <<< d : Nat) = 2 ^ d := by rw [Nat.shiftLeft_eq, Nat.one_mul]
  have hp : 0 < 2 ^ d := Nat.two_pow_pos d
  simp only [hg, Nat.mul_div_cancel _ hp, Nat.mul_mod_left]
  have : ¬ (2 ^ d = 0) := by omega
  simp [this]
theorem lg {a : Nat} (ha : 0 < a) (h53 : a < 2 ^ 53) : a.log2 ≤ 52 ∧ 2 ^ 52 ≤ a * 2 ^ (52 - a.log2) ∧ a * 2 ^ (52 - a.log2) < 2 ^ 53 := by
  have h1 := (Nat.log2_eq_iff (n := a) (k := a.log2) (by omega)).1 rfl
  have h2 : a.log2 ≤ 52 := by
    apply Classical.byContradiction
    intro hn
    have : 2 ^ 53 ≤ 2 ^ a.log2 := Nat.pow_le_pow_right (by omega) (by omega)
    omega
  refine ⟨h2, ?_, ?_⟩
  · have := Nat.mul_le_mul_right (2 ^ (52 - a.log2)) h1.1
    rw [← Nat.pow_add, show a.log2 + (52 - a.log2) = 52 by omega] at this; exact this
  · have := Nat.mul_lt_mul_of_pos_right h1.2 (Nat.two_pow_pos (52 - a.log2))
    rw [← Nat.pow_add, show a.log2 + 1 + (52 - a.log2) = 53 by omega] at this; exact this
/-- the word of a whole number, however its digits are placed -/
theorem nearest_up {a k : Nat} (ha : 0 < a) (h53 : a < 2 ^ 53) : Ieee.double.nearest false (a * 2 ^ k) (-(k : Int)) = (a.log2 + 1022) * 2 ^ 52 + a * 2 ^ (52 - a.log2) := by
  obtain ⟨l1, l2, l3⟩ := lg ha h53
  have hl : (a * 2 ^ k).log2 = a.log2 + k := by
    rw [Nat.log2_eq_iff (by have := Nat.two_pow_pos k; exact Nat.ne_of_gt (Nat.mul_pos ha this))]
    have h1 := (Nat.log2_eq_iff (n := a) (k := a.log2) (by omega)).1 rfl
    constructor
    · rw [Nat.pow_add]; exact Nat.mul_le_mul_right _ h1.1
    · rw [show a.log2 + k + 1 = (a.log2 + 1) + k by omega, Nat.pow_add]; exact Nat.mul_lt_mul_of_pos_right h1.2 (Nat.two_pow_pos k)
  unfold Ieee.Format.nearest
  rw [if_neg (Nat.ne_of_gt (Nat.mul_pos ha (Nat.two_pow_pos k))), hl, dbl_least]
  have hlast : max (-(k : Int) + ((a.log2 + k : Nat) : Int) - (Ieee.double.fractionBits : Int)) (-1074) = (a.log2 : Int) - 52 := by
    have : (Ieee.double.fractionBits : Int) = 52 := rfl
    rw [this]; omega
  rw [hlast]
  have hkept : Ieee.Toward.even.cut false ((a * 2 ^ k) <<< (-(k : Int) - ((a.log2 : Int) - 52)).toNat) ((a.log2 : Int) - 52 - -(k : Int)).toNat = a * 2 ^ (52 - a.log2) := by
    by_cases h : k ≤ 52 - a.log2
    · rw [show ((a.log2 : Int) - 52 - -(k : Int)).toNat = 0 by omega, cut0, show (-(k : Int) - ((a.log2 : Int) - 52)).toNat = 52 - a.log2 - k by omega, Nat.shiftLeft_eq, Nat.mul_assoc, ← Nat.pow_add, show k + (52 - a.log2 - k) = 52 - a.log2 by omega]
    · rw [show (-(k : Int) - ((a.log2 : Int) - 52)).toNat = 0 by omega, Nat.shiftLeft_zero, show ((a.log2 : Int) - 52 - -(k : Int)).toNat = k - (52 - a.log2) by omega]
      have e : a * 2 ^ k = a * 2 ^ (52 - a.log2) * 2 ^ (k - (52 - a.log2)) := by rw [Nat.mul_assoc, ← Nat.pow_add, show 52 - a.log2 + (k - (52 - a.log2)) = k by omega]
      rw [e, cutd (Nat.mul_pos ha (Nat.two_pow_pos _))]
  dsimp only
  rw [hkept]
  have hw : ∀ r, Ieee.double.word false r = r := fun r => rfl
  have hb : Ieee.double.binade = 2 ^ 52 := rfl
  have hi : Ieee.double.infRung = 2047 * 2 ^ 52 := by decide
  rw [hw, hb, hi, show ((a.log2 : Int) - 52 - -1074).toNat = a.log2 + 1022 by omega]
  apply Nat.min_eq_left
  have h53' : (2 : Nat) ^ 53 = 2 * 2 ^ 52 := by decide
  rw [h53'] at l3
  clear hkept hlast hl hw hb hi h53 h53' l2
  generalize a * 2 ^ (52 - a.log2) = m at l3 ⊢
  generalize a.log2 = L at l1 ⊢
  generalize (2 : Nat) ^ 52 = B at l3 ⊢
  have : (L + 1022) * B ≤ 1074 * B := Nat.mul_le_mul_right _ (by omega)
  omega
theorem dbl_eq {a : Nat} (ha : 0 < a) (h53 : a < 2 ^ 53) : dbl a = (a.log2 + 1022) * 2 ^ 52 + a * 2 ^ (52 - a.log2) := by
  have := nearest_up (k := 0) ha h53
  rw [Nat.pow_zero, Nat.mul_one] at this
  exact this
theorem read_dbl {a : Nat} (ha : 0 < a) (h53 : a < 2 ^ 53) : Ieee.double.read (dbl a) = .number false (a * 2 ^ (52 - a.log2)) ((a.log2 : Int) - 52) := by
  obtain ⟨l1, l2, l3⟩ := lg ha h53
  rw [dbl_eq ha h53]
  generalize a * 2 ^ (52 - a.log2) = m at l2 l3
  generalize a.log2 = L at l1
  have hs : Ieee.double.signWeight = 2048 * 2 ^ 52 := by decide
  have hb : Ieee.double.binade = 2 ^ 52 := rfl
  have hi : Ieee.double.infRung = 2047 * 2 ^ 52 := by decide
  have h53' : (2 : Nat) ^ 53 = 2 * 2 ^ 52 := by decide
  unfold Ieee.Format.read
  rw [hs, hb, hi, dbl_least]
  rw [h53'] at l3
  have hB : 0 < (2 : Nat) ^ 52 := by decide
  generalize (2 : Nat) ^ 52 = B at *
  have hle : (L + 1022) * B ≤ 1074 * B := Nat.mul_le_mul_right _ (by omega)
  have hge : 1022 * B ≤ (L + 1022) * B := Nat.mul_le_mul_right _ (by omega)
  have h1 : ((L + 1022) * B + m) / (2048 * B) = 0 := Nat.div_eq_of_lt (by omega)
  have h2 : ((L + 1022) * B + m) % (2048 * B) = (L + 1022) * B + m := Nat.mod_eq_of_lt (by omega)
  have h3 : ((L + 1022) * B + m) / B = L + 1023 := by
    rw [Nat.add_comm, Nat.add_mul_div_right _ _ hB]
    have : m / B = 1 := Nat.div_eq_of_lt_le (by omega) (by omega)
    omega
  have h4 : ((L + 1022) * B + m) % B = m - B := by
    rw [Nat.add_comm, Nat.add_mul_mod_self_right, Nat.mod_eq_sub_mod l2]
    exact Nat.mod_eq_of_lt (by omega)
  simp only [h1, h2]
  rw [if_neg (by omega), if_pos (by omega), h3, h4]
  congr 1
  · omega
  · omega
theorem read_dbl0 : Ieee.double.read (dbl 0) = .number false 0 (-1074) := by decide +kernel
theorem read_zero (k : Nat) (hk : k = 1074) : Ieee.double.read (dbl 0) = .number false (0 * 2 ^ k) (-(k : Int)) := by
  rw [Nat.zero_mul, read_dbl0, hk]; rfl
/-- every whole number reads as itself, at a place that is at most 0 -/
theorem read_whole {a : Nat} (h53 : a < 2 ^ 53) : ∃ k : Nat, k ≤ 1074 ∧ Ieee.double.read (dbl a) = .number false (a * 2 ^ k) (-(k : Int)) := by
  rcases Nat.eq_zero_or_pos a with rfl | ha
  · exact ⟨1074, Nat.le_refl _, read_zero 1074 rfl⟩
  · obtain ⟨l1, _, _⟩ := lg ha h53
    exact ⟨52 - a.log2, by omega, by rw [read_dbl ha h53]; congr 1; omega⟩
theorem nearest_whole {a k : Nat} (h53 : a < 2 ^ 53) : Ieee.double.nearest false (a * 2 ^ k) (-(k : Int)) = dbl a := by
  rcases Nat.eq_zero_or_pos a with rfl | ha
  · simp [Ieee.Format.nearest, dbl]
  · rw [nearest_up ha h53, dbl_eq ha h53]
theorem dbl_add {a b : Nat} (h : a + b < 2 ^ 53) : floatBits .add .f64 (dbl a) (dbl b) = some (dbl (a + b)) := by
  obtain ⟨i, hi, ha⟩ := read_whole (a := a) (by omega)
  obtain ⟨j, hj, hb⟩ := read_whole (a := b) (by omega)
  show Ieee.double.add (dbl a) (dbl b) = _
  unfold Ieee.Format.add
  rw [ha, hb]
  simp only [Ieee.Datum.sum, Option.map_some, Ieee.Format.write, Option.some.injEq]
  have hbase : min (-(i : Int)) (-(j : Int)) = -((max i j : Nat) : Int) := by omega
  rw [hbase]
  have e1 : Ieee.signed false (a * 2 ^ i) (-(i : Int) - -((max i j : Nat) : Int)).toNat = ((a * 2 ^ max i j : Nat) : Int) := by
    rw [Ieee.signed, if_neg (by simp), show (-(i : Int) - -((max i j : Nat) : Int)).toNat = max i j - i by omega, Nat.shiftLeft_eq, Nat.mul_assoc, ← Nat.pow_add, show i + (max i j - i) = max i j by omega]
  have e2 : Ieee.signed false (b * 2 ^ j) (-(j : Int) - -((max i j : Nat) : Int)).toNat = ((b * 2 ^ max i j : Nat) : Int) := by
    rw [Ieee.signed, if_neg (by simp), show (-(j : Int) - -((max i j : Nat) : Int)).toNat = max i j - j by omega, Nat.shiftLeft_eq, Nat.mul_assoc, ← Nat.pow_add, show j + (max i j - j) = max i j by omega]
  rw [e1, e2]
  have e3 : ((a * 2 ^ max i j : Nat) : Int) + ((b * 2 ^ max i j : Nat) : Int) = (((a + b) * 2 ^ max i j : Nat) : Int) := by rw [Nat.add_mul]; omega
  rw [e3, Int.natAbs_natCast]
  have e4 : (if (((a + b) * 2 ^ max i j : Nat) : Int) = 0 then (false && false) else decide ((((a + b) * 2 ^ max i j : Nat) : Int) < 0)) = false := by
    split
    · rfl
    · simp only [decide_eq_false_iff_not]; omega
  rw [e4]
  exact nearest_whole h
theorem dbl_cmp {a b : Nat} (ha : a < 2 ^ 53) (hb : b < 2 ^ 53) : Op.floatEq .f64 (dbl a) (dbl b) = decide (a = b) := by
  obtain ⟨i, hi, h1⟩ := read_whole (a := a) ha
  obtain ⟨j, hj, h2⟩ := read_whole (a := b) hb
  show ((Ieee.double.read (dbl a)).order (Ieee.double.read (dbl b)) == some .eq) = _
  rw [h1, h2]
  simp only [Ieee.Datum.order]
  have hbase : min (-(i : Int)) (-(j : Int)) = -((max i j : Nat) : Int) := by omega
  rw [hbase]
  have e1 : Ieee.signed false (a * 2 ^ i) (-(i : Int) - -((max i j : Nat) : Int)).toNat = ((a * 2 ^ max i j : Nat) : Int) := by
    rw [Ieee.signed, if_neg (by simp), show (-(i : Int) - -((max i j : Nat) : Int)).toNat = max i j - i by omega, Nat.shiftLeft_eq, Nat.mul_assoc, ← Nat.pow_add, show i + (max i j - i) = max i j by omega]
  have e2 : Ieee.signed false (b * 2 ^ j) (-(j : Int) - -((max i j : Nat) : Int)).toNat = ((b * 2 ^ max i j : Nat) : Int) := by
    rw [Ieee.signed, if_neg (by simp), show (-(j : Int) - -((max i j : Nat) : Int)).toNat = max i j - j by omega, Nat.shiftLeft_eq, Nat.mul_assoc, ← Nat.pow_add, show j + (max i j - j) = max i j by omega]
  rw [e1, e2, Bool.eq_iff_iff]
  have hp : 0 < 2 ^ max i j := Nat.two_pow_pos _
  simp only [beq_iff_eq, Option.some.injEq, decide_eq_true_eq]
  rw [Int.compare_eq_eq]
  constructor
  · intro h
    have : a * 2 ^ max i j = b * 2 ^ max i j := by omega
    exact Nat.eq_of_mul_eq_mul_right hp this
  · intro h; rw [h]
end Go.Proofs.Ytdhekpodgemneaa
