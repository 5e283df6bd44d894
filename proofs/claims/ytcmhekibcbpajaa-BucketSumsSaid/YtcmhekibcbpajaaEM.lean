/- What the functions come to: printed out of the translation by gen.py. -/
import Derived.Test.YtcmhekibcbpajaaCore11
set_option linter.unusedVariables false
set_option linter.unusedSimpArgs false
set_option maxRecDepth 100000
namespace Go.Proofs.Ytcmhekibcbpajaa
open Go Go.RowKit

structure api_Bucket where
  Class : Int
  Year : Int
  Amount : Int
  deriving Inhabited, DecidableEq
structure scutageref09_Register where
  B : List api_Bucket
  deriving Inhabited, DecidableEq
structure bucket_Register where
  f_l : List api_Bucket
  deriving Inhabited, DecidableEq

def scutagekeep_Within.j1 (v3 : Int) : Option Int := some v3
def scutagekeep_Within (v_ : Int) (n_ : Int) : Option Int := (if (decide (n_ < 1)) = true then some 0 else (gd (n_ ≠ (0 : Int)) (if (decide (Int.tmod v_ n_ < 0)) = true then scutagekeep_Within.j1 (w64 (Int.tmod v_ n_ + n_)) else scutagekeep_Within.j1 (Int.tmod v_ n_))))

def scutageplay_Amount (n_ : Int) : Option Int := (if (Int.tmod n_ 23 == 20) = true then ((scutagekeep_Within (w64 (Int.tdiv n_ 23)) 5).bind fun y2 => some (w64 (w64 (100000000000 - y2) + 2))) else (if (Int.tmod n_ 23 == 21) = true then ((scutagekeep_Within (w64 (Int.tdiv n_ 23)) 5).bind fun y9 => some (w64 (w64 ((-100000000000) + y9) - 2))) else (if (Int.tmod n_ 23 == 22) = true then some n_ else (if (Int.tmod n_ 23 == 19) = true then ((scutagekeep_Within (w64 (Int.tdiv n_ 23)) 200000000001).bind fun y17 => some (w64 (y17 - 100000000000))) else ((scutagekeep_Within n_ 4001).bind fun y23 => some (w64 (y23 - 2000)))))))

def scutageref09_Year.j1 (q1 : Bool) : Option Bool := some q1
def scutageref09_Year (y_ : Int) : Option Bool := (if (decide (y_ ≥ 0)) = true then scutageref09_Year.j1 (decide (y_ ≤ 99)) else scutageref09_Year.j1 false)

def scutageref09_Bucket.j1 (q1 : Bool) : Option Bool := some q1
def scutageref09_Bucket (class_ : Int) (year : Int) : Option Bool := (if (decide (class_ ≥ 1)) = true then (if (decide (class_ ≤ 9)) = true then ((scutageref09_Year year).bind fun y5 => scutageref09_Bucket.j1 y5) else scutageref09_Bucket.j1 false) else scutageref09_Bucket.j1 false)

def scutageref01_Money.j1 (q1 : Bool) : Option Bool := some q1
def scutageref01_Money (n_ : Int) : Option Bool := (if (decide (n_ ≥ (-100000000000))) = true then scutageref01_Money.j1 (decide (n_ ≤ 100000000000)) else scutageref01_Money.j1 false)

def scutageref09_Register_Get.j1 (y18 : api_Bucket) (rec20 : Int → Option (Int ⊕ Unit)) (i13 : Int) (q35 : Bool) : Option (Int ⊕ Unit) := (if q35 = true then some (.inl y18.Amount) else rec20 (i13 + 1))
def scutageref09_Register_Get.l1 (class_ : Int) (year : Int) : List api_Bucket → Int → Option (Int ⊕ Unit)
  | [], i13 => some (.inr ())
  | y18 :: ys17, i13 => (if (y18.Class == class_) = true then scutageref09_Register_Get.j1 y18 (scutageref09_Register_Get.l1 class_ year ys17) i13 (y18.Year == year) else scutageref09_Register_Get.j1 y18 (scutageref09_Register_Get.l1 class_ year ys17) i13 false)
def scutageref09_Register_Get (r_ : scutageref09_Register) (class_ : Int) (year : Int) : Option Int := ((scutageref09_Register_Get.l1 class_ year r_.B 0).bind fun tt => match tt with | .inl rr => some rr | .inr _ => some 0)

def scutageref09_Register_Total.l1  : List api_Bucket → (Int × Int) → Option Int
  | [], (i15, v10) => some v10
  | y20 :: ys19, (i15, v10) => (scutageref09_Register_Total.l1 ys19) (i15 + 1, w64 (v10 + y20.Amount))
def scutageref09_Register_Total (r_ : scutageref09_Register) : Option Int := ((scutageref09_Register_Total.l1  r_.B (0, 0)).bind fun v10 => some v10)

def scutageref09_Register_Copy (r_ : scutageref09_Register) : Option scutageref09_Register := (gd (fit (([] : List api_Bucket).length) r_.B.length) (some (⟨([] : List api_Bucket) ++ r_.B⟩ : scutageref09_Register)))

def scutageref09_Register_set.j1 (xs39 : List api_Bucket) : Option scutageref09_Register := some (⟨xs39⟩ : scutageref09_Register)
def scutageref09_Register_set.j2 (rec27 : (Int × List api_Bucket × Bool) → Option (Bool × List api_Bucket)) (i20 : Int) (xs55 : List api_Bucket) (q56 : Bool) : Option (Bool × List api_Bucket) := rec27 (i20 + 1, xs55, q56)
def scutageref09_Register_set.j4 (y25 : api_Bucket) (rec27 : (Int × List api_Bucket × Bool) → Option (Bool × List api_Bucket)) (i20 : Int) (xs70 : List api_Bucket) (q71 : Bool) : Option (Bool × List api_Bucket) := (gd (fit xs70.length ([y25].length)) (scutageref09_Register_set.j2 rec27 i20 (xs70 ++ [y25]) q71))
def scutageref09_Register_set.j5 (xs14 : List api_Bucket) (class_ : Int) (year : Int) (n_ : Int) (y25 : api_Bucket) (rec27 : (Int × List api_Bucket × Bool) → Option (Bool × List api_Bucket)) (i20 : Int) (q15 : Bool) (q81 : Bool) : Option (Bool × List api_Bucket) := (if q81 = true then (gd (fit xs14.length ([(⟨class_, year, n_⟩ : api_Bucket)].length)) (scutageref09_Register_set.j4 y25 rec27 i20 (xs14 ++ [(⟨class_, year, n_⟩ : api_Bucket)]) true)) else scutageref09_Register_set.j4 y25 rec27 i20 xs14 q15)
def scutageref09_Register_set.j3 (rec27 : (Int × List api_Bucket × Bool) → Option (Bool × List api_Bucket)) (i20 : Int) (xs14 : List api_Bucket) (q15 : Bool) (y25 : api_Bucket) (class_ : Int) (year : Int) (n_ : Int) (q64 : Bool) : Option (Bool × List api_Bucket) := (if q64 = true then scutageref09_Register_set.j2 rec27 i20 xs14 q15 else (if (!q15) = true then (if (decide (y25.Class > class_)) = true then scutageref09_Register_set.j5 xs14 class_ year n_ y25 rec27 i20 q15 true else (if (y25.Class == class_) = true then scutageref09_Register_set.j5 xs14 class_ year n_ y25 rec27 i20 q15 (decide (y25.Year > year)) else scutageref09_Register_set.j5 xs14 class_ year n_ y25 rec27 i20 q15 false)) else scutageref09_Register_set.j5 xs14 class_ year n_ y25 rec27 i20 q15 false))
def scutageref09_Register_set.l1 (class_ : Int) (year : Int) (n_ : Int) : List api_Bucket → (Int × List api_Bucket × Bool) → Option (Bool × List api_Bucket)
  | [], (i20, xs14, q15) => some (q15, xs14)
  | y25 :: ys24, (i20, xs14, q15) => (if (y25.Class == class_) = true then scutageref09_Register_set.j3 (scutageref09_Register_set.l1 class_ year n_ ys24) i20 xs14 q15 y25 class_ year n_ (y25.Year == year) else scutageref09_Register_set.j3 (scutageref09_Register_set.l1 class_ year n_ ys24) i20 xs14 q15 y25 class_ year n_ false)
def scutageref09_Register_set (r_ : scutageref09_Register) (class_ : Int) (year : Int) (n_ : Int) : Option scutageref09_Register := ((scutageref09_Register_set.l1 class_ year n_ r_.B (0, ([] : List api_Bucket), n_ == 0)).bind fun (q15, xs14) => (if (!q15) = true then (gd (fit xs14.length ([(⟨class_, year, n_⟩ : api_Bucket)].length)) (scutageref09_Register_set.j1 (xs14 ++ [(⟨class_, year, n_⟩ : api_Bucket)]))) else scutageref09_Register_set.j1 xs14))

def scutageref09_Register_Move.j2 (r_ : scutageref09_Register) (class_ : Int) (year : Int) (n_ : Int) (q7 : Bool) : Option (Int × scutageref09_Register) := (if q7 = true then some (6, (⟨r_.B⟩ : scutageref09_Register)) else ((scutageref09_Register_Copy (⟨r_.B⟩ : scutageref09_Register)).bind fun y10 => ((scutageref09_Register_Get (⟨r_.B⟩ : scutageref09_Register) class_ year).bind fun y20 => ((scutageref09_Register_set (⟨y10.B⟩ : scutageref09_Register) class_ year (w64 (y20 + n_))).bind fun y26 => (if (decide ((y26.B.length : Int) > 12)) = true then some (5, (⟨r_.B⟩ : scutageref09_Register)) else some (0, (⟨y26.B⟩ : scutageref09_Register)))))))
def scutageref09_Register_Move.j1 (r_ : scutageref09_Register) (class_ : Int) (year : Int) (n_ : Int) (q4 : Bool) : Option (Int × scutageref09_Register) := (if q4 = true then some (1, (⟨r_.B⟩ : scutageref09_Register)) else ((scutageref09_Register_Get (⟨r_.B⟩ : scutageref09_Register) class_ year).bind fun y38 => ((scutageref01_Money (w64 (y38 + n_))).bind fun y44 => (if (!y44) = true then scutageref09_Register_Move.j2 r_ class_ year n_ true else ((scutageref09_Register_Total (⟨r_.B⟩ : scutageref09_Register)).bind fun y51 => ((scutageref01_Money (w64 (y51 + n_))).bind fun y57 => scutageref09_Register_Move.j2 r_ class_ year n_ (!y57)))))))
def scutageref09_Register_Move (r_ : scutageref09_Register) (class_ : Int) (year : Int) (n_ : Int) : Option (Int × scutageref09_Register) := ((scutageref09_Bucket class_ year).bind fun y63 => (if (!y63) = true then scutageref09_Register_Move.j1 r_ class_ year n_ true else ((scutageref01_Money n_).bind fun y70 => scutageref09_Register_Move.j1 r_ class_ year n_ (!y70))))

def scutageplay_Register.j1 (v21 : Int) (l_ : List Int) (xs20 : List api_Bucket) (rec32 : (List api_Bucket × Int) → Option (List api_Bucket)) (q34 : Bool) : Option (List api_Bucket) := (if q34 = true then (gd ((0 : Int) ≤ v21 ∧ v21 < (l_.length : Int)) ((scutagekeep_Within (rd l_ v21) 3).bind fun y42 => ((scutagekeep_Within (w64 (Int.tdiv (rd l_ v21) 3)) 5).bind fun y48 => ((scutageplay_Amount (w64 (Int.tdiv (rd l_ v21) 15))).bind fun y54 => ((scutageref09_Register_Move (⟨xs20⟩ : scutageref09_Register) (w64 (1 + y42)) y48 y54).bind fun (y60, y61) => rec32 (y61.B, w64 (v21 + 1))))))) else some xs20)
def scutageplay_Register.l1 (l_ : List Int) : Nat → (List api_Bucket × Int) → Option (List api_Bucket)
  | 0, _ => none
  | fuel31 + 1, (xs20, v21) => (if (decide (v21 < (l_.length : Int))) = true then scutageplay_Register.j1 v21 l_ xs20 (scutageplay_Register.l1 l_ fuel31) (decide (v21 < 10)) else scutageplay_Register.j1 v21 l_ xs20 (scutageplay_Register.l1 l_ fuel31) false)
def scutageplay_Register (l_ : List Int) : Option scutageref09_Register := ((scutageplay_Register.l1 l_ FUEL (([] : List api_Bucket), 0)).bind fun xs20 => some (⟨xs20⟩ : scutageref09_Register))

def bucket_New  : Option bucket_Register := some (⟨([] : List api_Bucket)⟩ : bucket_Register)

def bucket_Register_Total.l1  : List api_Bucket → (Int × Int) → Option Int
  | [], (i15, v10) => some v10
  | y20 :: ys19, (i15, v10) => (bucket_Register_Total.l1 ys19) (i15 + 1, w64 (v10 + y20.Amount))
def bucket_Register_Total (r_ : bucket_Register) : Option Int := ((bucket_Register_Total.l1  r_.f_l (0, 0)).bind fun v10 => some v10)

def bucket_right.j1 (q1 : Bool) : Option Bool := some q1
def bucket_right (class_ : Int) (year : Int) : Option Bool := (if (decide (class_ ≥ 1)) = true then (if (decide (class_ ≤ 9)) = true then (if (decide (year ≥ 0)) = true then bucket_right.j1 (decide (year ≤ 99)) else bucket_right.j1 false) else bucket_right.j1 false) else bucket_right.j1 false)

def rate_Money.j1 (q1 : Bool) : Option Bool := some q1
def rate_Money (n_ : Int) : Option Bool := (if (decide (n_ ≥ (-100000000000))) = true then rate_Money.j1 (decide (n_ ≤ 100000000000)) else rate_Money.j1 false)

def slices_IndexFunc_api_Bucket.l1 (f_ : api_Bucket → Option Bool) : List api_Bucket → Int → Option (Int ⊕ Unit)
  | [], i17 => some (.inr ())
  | y22 :: ys21, i17 => ((f_ y22).bind fun y34 => (if y34 = true then some (.inl i17) else (slices_IndexFunc_api_Bucket.l1 f_ ys21) (i17 + 1)))
def slices_IndexFunc_api_Bucket (s_ : List api_Bucket) (f_ : api_Bucket → Option Bool) : Option Int := ((slices_IndexFunc_api_Bucket.l1 f_ s_ 0).bind fun tt => match tt with | .inl rr => some rr | .inr _ => some (-1))

def bucket_Register_at_c1.j1 (q10 : Bool) : Option Bool := some q10
def bucket_Register_at_c1 (b_ : api_Bucket) (cap1 : Int) (cap4 : Int) : Option Bool := (if (b_.Class == cap1) = true then bucket_Register_at_c1.j1 (b_.Year == cap4) else bucket_Register_at_c1.j1 false)

def bucket_Register_at (r_ : bucket_Register) (class_ : Int) (year : Int) : Option Int := ((slices_IndexFunc_api_Bucket r_.f_l (fun x => bucket_Register_at_c1 x class_ year)).bind fun y15 => some y15)

def bucket_Register_Get (r_ : bucket_Register) (class_ : Int) (year : Int) : Option Int := ((bucket_Register_at (⟨r_.f_l⟩ : bucket_Register) class_ year).bind fun y9 => (if (decide (y9 < 0)) = true then some 0 else (gd ((0 : Int) ≤ y9 ∧ y9 < (r_.f_l.length : Int)) (some ((rd r_.f_l y9).Amount)))))

def slices_Clone_api_Bucket (s_ : List api_Bucket) : Option (List api_Bucket) := (gd (fit (([] : List api_Bucket).length) s_.length) (some (([] : List api_Bucket) ++ s_)))

def bucket_Register_Clone (r_ : bucket_Register) : Option bucket_Register := ((slices_Clone_api_Bucket r_.f_l).bind fun y9 => some (⟨y9⟩ : bucket_Register))

def slices_DeleteFunc_api_Bucket.j1 (rec33 : (List api_Bucket × Int × Int) → Option (Int × List api_Bucket)) (v22 : Int) (xs36 : List api_Bucket) (v37 : Int) : Option (Int × List api_Bucket) := rec33 (xs36, v37, w64 (v22 + 1))
def slices_DeleteFunc_api_Bucket.l1 (s_ : List api_Bucket) (del : api_Bucket → Option Bool) : Nat → (List api_Bucket × Int × Int) → Option (Int × List api_Bucket)
  | 0, _ => none
  | fuel32 + 1, (xs20, v21, v22) => (if (decide (v22 < (s_.length : Int))) = true then (gd ((0 : Int) ≤ v22 ∧ v22 < (xs20.length : Int)) ((del (rd xs20 v22)).bind fun y48 => (if (!y48) = true then (gd ((0 : Int) ≤ v21 ∧ v21 < (xs20.length : Int)) (slices_DeleteFunc_api_Bucket.j1 (slices_DeleteFunc_api_Bucket.l1 s_ del fuel32) v22 (xs20.set (Int.toNat v21) (rd xs20 v22)) (w64 (v21 + 1)))) else slices_DeleteFunc_api_Bucket.j1 (slices_DeleteFunc_api_Bucket.l1 s_ del fuel32) v22 xs20 v21))) else some (v21, xs20))
def slices_DeleteFunc_api_Bucket (s_ : List api_Bucket) (del : api_Bucket → Option Bool) : Option (List api_Bucket) := ((slices_IndexFunc_api_Bucket s_ del).bind fun y10 => (if (y10 == (-1)) = true then some s_ else ((slices_DeleteFunc_api_Bucket.l1 s_ del FUEL (s_, y10, w64 (y10 + 1))).bind fun (v21, xs20) => (gd (0 ≤ v21 ∧ v21 ≤ (xs20.length : Int) ∧ (xs20.length : Int) ≤ (xs20.length : Int)) (gd (0 ≤ (0 : Int) ∧ (0 : Int) ≤ v21 ∧ v21 ≤ ((clr xs20 v21 (⟨0, 0, 0⟩ : api_Bucket)).length : Int)) (some (sb (clr xs20 v21 (⟨0, 0, 0⟩ : api_Bucket)) (0 : Int) v21)))))))

def bucket_Register_set_c1 (b_ : api_Bucket) : Option Bool := some (b_.Amount == 0)

def bucket_Register_set.j1 (xs13 : List api_Bucket) : Option bucket_Register := ((slices_DeleteFunc_api_Bucket xs13 (fun x => bucket_Register_set_c1 x)).bind fun y15 => some (⟨y15⟩ : bucket_Register))
def bucket_Register_set (r_ : bucket_Register) (class_ : Int) (year : Int) (n_ : Int) : Option bucket_Register := ((bucket_Register_at (⟨r_.f_l⟩ : bucket_Register) class_ year).bind fun y4 => (if (decide (y4 ≥ 0)) = true then (gd ((0 : Int) ≤ y4 ∧ y4 < (r_.f_l.length : Int)) (bucket_Register_set.j1 (r_.f_l.set (Int.toNat y4) (⟨(rd r_.f_l y4).Class, (rd r_.f_l y4).Year, n_⟩ : api_Bucket)))) else (if (n_ != 0) = true then (gd (fit r_.f_l.length ([(⟨class_, year, n_⟩ : api_Bucket)].length)) (bucket_Register_set.j1 (r_.f_l ++ [(⟨class_, year, n_⟩ : api_Bucket)]))) else bucket_Register_set.j1 r_.f_l)))

def bucket_Register_take (r_ : bucket_Register) (next : bucket_Register) : Option (Int × bucket_Register) := (if (decide ((next.f_l.length : Int) > 12)) = true then some (5, (⟨r_.f_l⟩ : bucket_Register)) else some (0, (⟨next.f_l⟩ : bucket_Register)))

def bucket_Register_Move.j2 (r_ : bucket_Register) (class_ : Int) (year : Int) (y7 : Int) (n_ : Int) (q13 : Bool) : Option (Int × bucket_Register) := (if q13 = true then some (6, (⟨r_.f_l⟩ : bucket_Register)) else ((bucket_Register_Clone (⟨r_.f_l⟩ : bucket_Register)).bind fun y16 => ((bucket_Register_set (⟨y16.f_l⟩ : bucket_Register) class_ year (w64 (y7 + n_))).bind fun y26 => ((bucket_Register_take (⟨r_.f_l⟩ : bucket_Register) (⟨y26.f_l⟩ : bucket_Register)).bind fun (y35, y36) => some (y35, (⟨y36.f_l⟩ : bucket_Register))))))
def bucket_Register_Move.j1 (r_ : bucket_Register) (class_ : Int) (year : Int) (n_ : Int) (q4 : Bool) : Option (Int × bucket_Register) := (if q4 = true then some (1, (⟨r_.f_l⟩ : bucket_Register)) else ((bucket_Register_Get (⟨r_.f_l⟩ : bucket_Register) class_ year).bind fun y7 => ((rate_Money (w64 (y7 + n_))).bind fun y45 => (if (!y45) = true then bucket_Register_Move.j2 r_ class_ year y7 n_ true else ((bucket_Register_Total (⟨r_.f_l⟩ : bucket_Register)).bind fun y52 => ((rate_Money (w64 (y52 + n_))).bind fun y58 => bucket_Register_Move.j2 r_ class_ year y7 n_ (!y58)))))))
def bucket_Register_Move (r_ : bucket_Register) (class_ : Int) (year : Int) (n_ : Int) : Option (Int × bucket_Register) := ((bucket_right class_ year).bind fun y64 => (if (!y64) = true then bucket_Register_Move.j1 r_ class_ year n_ true else ((rate_Money n_).bind fun y71 => bucket_Register_Move.j1 r_ class_ year n_ (!y71))))

def scutagelaw10_Of.j1 (rec67 : (Int × Int) → Option Int) (i60 : Int) (v273 : Int) : Option Int := rec67 (i60 + 1, v273)
def scutagelaw10_Of.l2 (xs36 : List api_Bucket) : List api_Bucket → (Int × Int) → Option Int
  | [], (i60, v55) => some v55
  | y65 :: ys64, (i60, v55) => ((bucket_Register_Total (⟨xs36⟩ : bucket_Register)).bind fun y282 => (if ((decide (y282 > 0)) == (decide (y65.Amount < 0))) = true then scutagelaw10_Of.j1 (scutagelaw10_Of.l2 xs36 ys64) i60 i60 else scutagelaw10_Of.j1 (scutagelaw10_Of.l2 xs36 ys64) i60 v55))
def scutagelaw10_Of.l1  : Nat → (List api_Bucket × List api_Bucket) → Option ((Option bucket_Register) ⊕ (List api_Bucket))
  | 0, _ => none
  | fuel50 + 1, (xs36, xs40) => (if (decide ((xs40.length : Int) > 0)) = true then ((scutagelaw10_Of.l2 xs36 xs40 (0, 0)).bind fun v55 => (gd ((0 : Int) ≤ v55 ∧ v55 < (xs40.length : Int)) ((bucket_Register_Move (⟨xs36⟩ : bucket_Register) ((rd xs40 v55).Class) ((rd xs40 v55).Year) ((rd xs40 v55).Amount)).bind fun (y81, y82) => (if (y81 != 0) = true then some (.inl none) else (gd (0 ≤ (0 : Int) ∧ (0 : Int) ≤ v55 ∧ v55 ≤ (xs40.length : Int)) (gd (0 ≤ w64 (v55 + 1) ∧ w64 (v55 + 1) ≤ (xs40.length : Int) ∧ (xs40.length : Int) ≤ (xs40.length : Int)) (gd (fit ((sb xs40 (0 : Int) v55).length) ((sb xs40 (w64 (v55 + 1)) (xs40.length : Int)).length)) ((scutagelaw10_Of.l1 fuel50) (y82.f_l, (sb xs40 (0 : Int) v55) ++ (sb xs40 (w64 (v55 + 1)) (xs40.length : Int))))))))))) else some (.inr xs36))
def scutagelaw10_Of (x_ : scutageref09_Register) : Option (Option bucket_Register) := ((bucket_New).bind fun y9 => (gd (fit (([] : List api_Bucket).length) x_.B.length) ((scutagelaw10_Of.l1  FUEL (y9.f_l, ([] : List api_Bucket) ++ x_.B)).bind fun tt => match tt with | .inl rr => some rr | .inr xs36 => some (some (⟨xs36⟩ : bucket_Register)))))

def math_bits_Len64 (x_ : Int) : Option Int := (if (decide (x_ ≥ 4294967296)) = true then none else (if (decide (x_ ≥ 65536)) = true then none else (if (decide (x_ ≥ 256)) = true then none else (gd ((0 : Int) ≤ IntKind.u8.wrap x_ ∧ IntKind.u8.wrap x_ < ((⟨#[0, 1, 2, 2, 3, 3, 3, 3, 4, 4, 4, 4, 4, 4, 4, 4, 5, 5, 5, 5, 5, 5, 5, 5, 5, 5, 5, 5, 5, 5, 5, 5, 6, 6, 6, 6, 6, 6, 6, 6, 6, 6, 6, 6, 6, 6, 6, 6, 6, 6, 6, 6, 6, 6, 6, 6, 6, 6, 6, 6, 6, 6, 6, 6, 7, 7, 7, 7, 7, 7, 7, 7, 7, 7, 7, 7, 7, 7, 7, 7, 7, 7, 7, 7, 7, 7, 7, 7, 7, 7, 7, 7, 7, 7, 7, 7, 7, 7, 7, 7, 7, 7, 7, 7, 7, 7, 7, 7, 7, 7, 7, 7, 7, 7, 7, 7, 7, 7, 7, 7, 7, 7, 7, 7, 7, 7, 7, 7, 8, 8, 8, 8, 8, 8, 8, 8, 8, 8, 8, 8, 8, 8, 8, 8, 8, 8, 8, 8, 8, 8, 8, 8, 8, 8, 8, 8, 8, 8, 8, 8, 8, 8, 8, 8, 8, 8, 8, 8, 8, 8, 8, 8, 8, 8, 8, 8, 8, 8, 8, 8, 8, 8, 8, 8, 8, 8, 8, 8, 8, 8, 8, 8, 8, 8, 8, 8, 8, 8, 8, 8, 8, 8, 8, 8, 8, 8, 8, 8, 8, 8, 8, 8, 8, 8, 8, 8, 8, 8, 8, 8, 8, 8, 8, 8, 8, 8, 8, 8, 8, 8, 8, 8, 8, 8, 8, 8, 8, 8, 8, 8, 8, 8, 8, 8, 8, 8, 8, 8, 8, 8, 8, 8, 8, 8, 8, 8]⟩ : ByteArray).size : Int)) (some (w64 (0 + w64 (byteAt (⟨#[0, 1, 2, 2, 3, 3, 3, 3, 4, 4, 4, 4, 4, 4, 4, 4, 5, 5, 5, 5, 5, 5, 5, 5, 5, 5, 5, 5, 5, 5, 5, 5, 6, 6, 6, 6, 6, 6, 6, 6, 6, 6, 6, 6, 6, 6, 6, 6, 6, 6, 6, 6, 6, 6, 6, 6, 6, 6, 6, 6, 6, 6, 6, 6, 7, 7, 7, 7, 7, 7, 7, 7, 7, 7, 7, 7, 7, 7, 7, 7, 7, 7, 7, 7, 7, 7, 7, 7, 7, 7, 7, 7, 7, 7, 7, 7, 7, 7, 7, 7, 7, 7, 7, 7, 7, 7, 7, 7, 7, 7, 7, 7, 7, 7, 7, 7, 7, 7, 7, 7, 7, 7, 7, 7, 7, 7, 7, 7, 8, 8, 8, 8, 8, 8, 8, 8, 8, 8, 8, 8, 8, 8, 8, 8, 8, 8, 8, 8, 8, 8, 8, 8, 8, 8, 8, 8, 8, 8, 8, 8, 8, 8, 8, 8, 8, 8, 8, 8, 8, 8, 8, 8, 8, 8, 8, 8, 8, 8, 8, 8, 8, 8, 8, 8, 8, 8, 8, 8, 8, 8, 8, 8, 8, 8, 8, 8, 8, 8, 8, 8, 8, 8, 8, 8, 8, 8, 8, 8, 8, 8, 8, 8, 8, 8, 8, 8, 8, 8, 8, 8, 8, 8, 8, 8, 8, 8, 8, 8, 8, 8, 8, 8, 8, 8, 8, 8, 8, 8, 8, 8, 8, 8, 8, 8, 8, 8, 8, 8, 8, 8, 8, 8, 8, 8, 8, 8]⟩ : ByteArray) (IntKind.u8.wrap x_)))))))))

def math_bits_Len (x_ : Int) : Option Int := ((math_bits_Len64 x_).bind fun y1 => some y1)

def slices_insertionSortCmpFunc_api_Bucket.j1 (v30 : Int) (xs29 : List api_Bucket) (rec41 : (List api_Bucket × Int) → Option (List api_Bucket)) (q43 : Bool) : Option (List api_Bucket) := (if q43 = true then (gd ((0 : Int) ≤ w64 (v30 - 1) ∧ w64 (v30 - 1) < (xs29.length : Int)) (gd ((0 : Int) ≤ v30 ∧ v30 < (xs29.length : Int)) (gd ((0 : Int) ≤ w64 (v30 - 1) ∧ w64 (v30 - 1) < ((xs29.set (Int.toNat v30) (rd xs29 (w64 (v30 - 1)))).length : Int)) (rec41 ((xs29.set (Int.toNat v30) (rd xs29 (w64 (v30 - 1)))).set (Int.toNat (w64 (v30 - 1))) (rd xs29 v30), w64 (v30 - 1)))))) else some xs29)
def slices_insertionSortCmpFunc_api_Bucket.l2 (a_ : Int) (cmp : (api_Bucket × api_Bucket) → Option Int) : Nat → (List api_Bucket × Int) → Option (List api_Bucket)
  | 0, _ => none
  | fuel40 + 1, (xs29, v30) => (if (decide (v30 > a_)) = true then (gd ((0 : Int) ≤ v30 ∧ v30 < (xs29.length : Int)) (gd ((0 : Int) ≤ w64 (v30 - 1) ∧ w64 (v30 - 1) < (xs29.length : Int)) ((cmp ((rd xs29 v30), (rd xs29 (w64 (v30 - 1))))).bind fun y185 => slices_insertionSortCmpFunc_api_Bucket.j1 v30 xs29 (slices_insertionSortCmpFunc_api_Bucket.l2 a_ cmp fuel40) (decide (y185 < 0))))) else slices_insertionSortCmpFunc_api_Bucket.j1 v30 xs29 (slices_insertionSortCmpFunc_api_Bucket.l2 a_ cmp fuel40) false)
def slices_insertionSortCmpFunc_api_Bucket.l1 (b_ : Int) (a_ : Int) (cmp : (api_Bucket × api_Bucket) → Option Int) : Nat → (List api_Bucket × Int) → Option (List api_Bucket)
  | 0, _ => none
  | fuel23 + 1, (xs12, v13) => (if (decide (v13 < b_)) = true then ((slices_insertionSortCmpFunc_api_Bucket.l2 a_ cmp FUEL (xs12, v13)).bind fun xs29 => (slices_insertionSortCmpFunc_api_Bucket.l1 b_ a_ cmp fuel23) (xs29, w64 (v13 + 1))) else some xs12)
def slices_insertionSortCmpFunc_api_Bucket (data : List api_Bucket) (a_ : Int) (b_ : Int) (cmp : (api_Bucket × api_Bucket) → Option Int) : Option (List api_Bucket) := ((slices_insertionSortCmpFunc_api_Bucket.l1 b_ a_ cmp FUEL (data, w64 (a_ + 1))).bind fun xs12 => some xs12)

def slices_pdqsortCmpFunc_api_Bucket.l1 (b_ : Int) (a_ : Int) (data : List api_Bucket) (cmp : (api_Bucket × api_Bucket) → Option Int) : Nat → Unit → Option ((List api_Bucket) ⊕ Unit)
  | 0, _ => none
  | fuel19 + 1, () => (if (decide (w64 (b_ - a_) ≤ 12)) = true then ((slices_insertionSortCmpFunc_api_Bucket data a_ b_ cmp).bind fun y23 => some (.inl y23)) else none)
def slices_pdqsortCmpFunc_api_Bucket (data : List api_Bucket) (a_ : Int) (b_ : Int) (limit : Int) (cmp : (api_Bucket × api_Bucket) → Option Int) : Option (List api_Bucket) := ((slices_pdqsortCmpFunc_api_Bucket.l1 b_ a_ data cmp FUEL ()).bind fun tt => match tt with | .inl rr => some rr | .inr _ => none)

def slices_SortFunc_api_Bucket (x_ : List api_Bucket) (cmp : (api_Bucket × api_Bucket) → Option Int) : Option (List api_Bucket) := ((math_bits_Len (IntKind.u64.wrap (x_.length : Int))).bind fun y10 => ((slices_pdqsortCmpFunc_api_Bucket x_ 0 (x_.length : Int) y10 cmp).bind fun y16 => some y16))

def cmp_isNaN_int (x_ : Int) : Option Bool := some (x_ != x_)

def cmp_Compare_int (x_ : Int) (y_ : Int) : Option Int := ((cmp_isNaN_int x_).bind fun y1 => ((cmp_isNaN_int y_).bind fun y7 => (if y1 = true then (if y7 = true then some 0 else some (-1)) else (if y7 = true then some 1 else (if (decide (x_ < y_)) = true then some (-1) else (if (decide (x_ > y_)) = true then some 1 else some 0))))))

def cmp_Or_int.l1  : List Int → Int → Option (Int ⊕ Unit)
  | [], i11 => some (.inr ())
  | y16 :: ys15, i11 => (if (y16 != 0) = true then some (.inl y16) else (cmp_Or_int.l1 ys15) (i11 + 1))
def cmp_Or_int (vals : List Int) : Option Int := ((cmp_Or_int.l1  vals 0).bind fun tt => match tt with | .inl rr => some rr | .inr _ => some 0)

def bucket_Register_Rows_c1 (a_ : api_Bucket) (b_ : api_Bucket) : Option Int := ((cmp_Compare_int a_.Class b_.Class).bind fun y8 => ((cmp_Compare_int a_.Year b_.Year).bind fun y14 => ((cmp_Or_int [y8, y14]).bind fun y23 => some y23)))

def bucket_Register_Rows (r_ : bucket_Register) : Option (List api_Bucket) := ((slices_Clone_api_Bucket r_.f_l).bind fun y9 => ((slices_SortFunc_api_Bucket y9 (fun x => bucket_Register_Rows_c1 x.1 x.2)).bind fun y18 => some y18))

def bucket_Register_Reclass.j2 (r_ : bucket_Register) (class_ : Int) (year : Int) (y7 : Int) (n_ : Int) (class2 : Int) (year2 : Int) (y13 : Int) (q19 : Bool) : Option (Int × bucket_Register) := (if q19 = true then some (6, (⟨r_.f_l⟩ : bucket_Register)) else ((bucket_Register_Clone (⟨r_.f_l⟩ : bucket_Register)).bind fun y22 => ((bucket_Register_set (⟨y22.f_l⟩ : bucket_Register) class_ year (w64 (y7 - n_))).bind fun y32 => ((bucket_Register_set (⟨y32.f_l⟩ : bucket_Register) class2 year2 (w64 (y13 + n_))).bind fun y41 => ((bucket_Register_take (⟨r_.f_l⟩ : bucket_Register) (⟨y41.f_l⟩ : bucket_Register)).bind fun (y50, y51) => some (y50, (⟨y51.f_l⟩ : bucket_Register)))))))
def bucket_Register_Reclass.j1 (r_ : bucket_Register) (class_ : Int) (year : Int) (class2 : Int) (year2 : Int) (n_ : Int) (q4 : Bool) : Option (Int × bucket_Register) := (if q4 = true then some (1, (⟨r_.f_l⟩ : bucket_Register)) else ((bucket_Register_Get (⟨r_.f_l⟩ : bucket_Register) class_ year).bind fun y7 => ((bucket_Register_Get (⟨r_.f_l⟩ : bucket_Register) class2 year2).bind fun y13 => ((rate_Money (w64 (y7 - n_))).bind fun y60 => (if (!y60) = true then bucket_Register_Reclass.j2 r_ class_ year y7 n_ class2 year2 y13 true else ((rate_Money (w64 (y13 + n_))).bind fun y67 => bucket_Register_Reclass.j2 r_ class_ year y7 n_ class2 year2 y13 (!y67)))))))
def bucket_Register_Reclass (r_ : bucket_Register) (class_ : Int) (year : Int) (class2 : Int) (year2 : Int) (n_ : Int) : Option (Int × bucket_Register) := ((bucket_right class_ year).bind fun y73 => (if (!y73) = true then bucket_Register_Reclass.j1 r_ class_ year class2 year2 n_ true else ((bucket_right class2 year2).bind fun y80 => (if (!y80) = true then bucket_Register_Reclass.j1 r_ class_ year class2 year2 n_ true else ((rate_Money n_).bind fun y87 => (if (!y87) = true then bucket_Register_Reclass.j1 r_ class_ year class2 year2 n_ true else (if (class_ == class2) = true then bucket_Register_Reclass.j1 r_ class_ year class2 year2 n_ (year == year2) else bucket_Register_Reclass.j1 r_ class_ year class2 year2 n_ false)))))))

def scutagekeep_Same_api_Bucket.l1 (a_ : List api_Bucket) (b_ : List api_Bucket) : Nat → Int → Option (Bool ⊕ Unit)
  | 0, _ => none
  | fuel25 + 1, v15 => (if (decide (v15 < (a_.length : Int))) = true then (gd ((0 : Int) ≤ v15 ∧ v15 < (a_.length : Int)) (gd ((0 : Int) ≤ v15 ∧ v15 < (b_.length : Int)) (if (!(((rd a_ v15).Class) == ((rd b_ v15).Class) && (((rd a_ v15).Year) == ((rd b_ v15).Year) && (((rd a_ v15).Amount) == ((rd b_ v15).Amount))))) = true then some (.inl false) else (scutagekeep_Same_api_Bucket.l1 a_ b_ fuel25) (w64 (v15 + 1))))) else some (.inr ()))
def scutagekeep_Same_api_Bucket (a_ : List api_Bucket) (b_ : List api_Bucket) : Option Bool := (if ((a_.length : Int) != (b_.length : Int)) = true then some false else ((scutagekeep_Same_api_Bucket.l1 a_ b_ FUEL 0).bind fun tt => match tt with | .inl rr => some rr | .inr _ => some true))

def scutagelaw10_wakes.j1 (q11 : Bool) : Option Bool := some q11
def scutagelaw10_wakes  : Option Bool := ((bucket_New).bind fun y1 => ((bucket_Register_Get (⟨y1.f_l⟩ : bucket_Register) 1 5).bind fun y13 => (if (y13 == 0) = true then ((bucket_Register_Move (⟨y1.f_l⟩ : bucket_Register) 1 5 100).bind fun (y20, y21) => (if (y20 == 0) = true then ((bucket_Register_Total (⟨y21.f_l⟩ : bucket_Register)).bind fun y31 => (if (y31 == 100) = true then ((bucket_Register_Rows (⟨y21.f_l⟩ : bucket_Register)).bind fun y38 => scutagelaw10_wakes.j1 ((y38.length : Int) == 1)) else scutagelaw10_wakes.j1 false)) else scutagelaw10_wakes.j1 false)) else scutagelaw10_wakes.j1 false)))

def scutagelaw10_BucketSums.j3 (q107 : Bool) : Option Bool := some q107
def scutagelaw10_BucketSums.j2 (y29 : List api_Bucket) (y38 : Int) (xs105 : List api_Bucket) : Option Bool := ((bucket_Register_Rows (⟨xs105⟩ : bucket_Register)).bind fun y109 => ((scutagekeep_Same_api_Bucket y109 y29).bind fun y118 => (if y118 = true then ((bucket_Register_Total (⟨xs105⟩ : bucket_Register)).bind fun y125 => (if (y125 == y38) = true then ((scutagelaw10_wakes).bind fun y132 => scutagelaw10_BucketSums.j3 y132) else scutagelaw10_BucketSums.j3 false)) else scutagelaw10_BucketSums.j3 false)))
def scutagelaw10_BucketSums.j4 (y29 : List api_Bucket) (y38 : Int) (xs152 : List api_Bucket) (q153 : Bool) : Option Bool := (if q153 = true then some false else scutagelaw10_BucketSums.j2 y29 y38 xs152)
def scutagelaw10_BucketSums.j1 (y66 : Int) (y72 : Int) (y90 : Int) (y38 : Int) (y29 : List api_Bucket) (xs100 : List api_Bucket) : Option Bool := ((bucket_Register_Move (⟨xs100⟩ : bucket_Register) (w64 (1 + y66)) y72 (w64 (y90 - 1000))).bind fun (y138, y139) => (if (y138 == 0) = true then ((bucket_Register_Total (⟨y139.f_l⟩ : bucket_Register)).bind fun y156 => (if (y156 != w64 (y38 + w64 (y90 - 1000))) = true then scutagelaw10_BucketSums.j4 y29 y38 y139.f_l true else ((bucket_Register_Move (⟨y139.f_l⟩ : bucket_Register) (w64 (1 + y66)) y72 (w64 (0 - w64 (y90 - 1000)))).bind fun (y163, y164) => scutagelaw10_BucketSums.j4 y29 y38 y164.f_l (y163 != 0)))) else scutagelaw10_BucketSums.j2 y29 y38 y139.f_l))
def scutagelaw10_BucketSums.j5 (y66 : Int) (y72 : Int) (y90 : Int) (y38 : Int) (y29 : List api_Bucket) (xs187 : List api_Bucket) (q188 : Bool) : Option Bool := (if q188 = true then some false else scutagelaw10_BucketSums.j1 y66 y72 y90 y38 y29 xs187)
def scutagelaw10_BucketSums.j6 (rec57 : (Int × Int) → Option (Bool ⊕ Int)) (i50 : Int) (v45 : Int) (y55 : api_Bucket) (q230 : Bool) : Option (Bool ⊕ Int) := (if q230 = true then some (.inl false) else rec57 (i50 + 1, w64 (v45 + y55.Amount)))
def scutagelaw10_BucketSums.l1 (o21 : bucket_Register) (y29 : List api_Bucket) : List api_Bucket → (Int × Int) → Option (Bool ⊕ Int)
  | [], (i50, v45) => some (.inr v45)
  | y55 :: ys54, (i50, v45) => (if (y55.Amount == 0) = true then scutagelaw10_BucketSums.j6 (scutagelaw10_BucketSums.l1 o21 y29 ys54) i50 v45 y55 true else ((bucket_Register_Get (⟨o21.f_l⟩ : bucket_Register) y55.Class y55.Year).bind fun y494 => (if (y494 != y55.Amount) = true then scutagelaw10_BucketSums.j6 (scutagelaw10_BucketSums.l1 o21 y29 ys54) i50 v45 y55 true else (if (decide (i50 > 0)) = true then (gd ((0 : Int) ≤ w64 (i50 - 1) ∧ w64 (i50 - 1) < (y29.length : Int)) (if (decide (y55.Class < (rd y29 (w64 (i50 - 1))).Class)) = true then scutagelaw10_BucketSums.j6 (scutagelaw10_BucketSums.l1 o21 y29 ys54) i50 v45 y55 true else (if (y55.Class == (rd y29 (w64 (i50 - 1))).Class) = true then scutagelaw10_BucketSums.j6 (scutagelaw10_BucketSums.l1 o21 y29 ys54) i50 v45 y55 (decide (y55.Year ≤ (rd y29 (w64 (i50 - 1))).Year)) else scutagelaw10_BucketSums.j6 (scutagelaw10_BucketSums.l1 o21 y29 ys54) i50 v45 y55 false))) else scutagelaw10_BucketSums.j6 (scutagelaw10_BucketSums.l1 o21 y29 ys54) i50 v45 y55 false))))
def scutagelaw10_BucketSums (l_ : List Int) (class_ : Int) (year : Int) (class2 : Int) (year2 : Int) (n_ : Int) : Option Bool := ((scutageplay_Register l_).bind fun y7 => ((scutagelaw10_Of (⟨y7.B⟩ : scutageref09_Register)).bind fun y17 => match y17 with | none => some false | some o21 => ((bucket_Register_Rows (⟨o21.f_l⟩ : bucket_Register)).bind fun y29 => ((bucket_Register_Total (⟨o21.f_l⟩ : bucket_Register)).bind fun y38 => ((scutagelaw10_BucketSums.l1 o21 y29 y29 (0, 0)).bind fun tt => match tt with | .inl rr => some rr | .inr v45 => ((scutagekeep_Within class_ 9).bind fun y66 => ((scutagekeep_Within year 100).bind fun y72 => ((scutagekeep_Within class2 9).bind fun y78 => ((scutagekeep_Within year2 100).bind fun y84 => ((scutagekeep_Within n_ 2001).bind fun y90 => (if (v45 != y38) = true then some false else ((bucket_Register_Reclass (⟨o21.f_l⟩ : bucket_Register) (w64 (1 + y66)) y72 (w64 (1 + y78)) y84 (w64 (y90 - 1000))).bind fun (y173, y174) => (if (y173 == 0) = true then ((bucket_Register_Total (⟨y174.f_l⟩ : bucket_Register)).bind fun y191 => (if (y191 != y38) = true then scutagelaw10_BucketSums.j5 y66 y72 y90 y38 y29 y174.f_l true else ((bucket_Register_Reclass (⟨y174.f_l⟩ : bucket_Register) (w64 (1 + y78)) y84 (w64 (1 + y66)) y72 (w64 (y90 - 1000))).bind fun (y198, y199) => (if (y198 != 0) = true then scutagelaw10_BucketSums.j5 y66 y72 y90 y38 y29 y199.f_l true else ((bucket_Register_Rows (⟨y199.f_l⟩ : bucket_Register)).bind fun y209 => ((scutagekeep_Same_api_Bucket y209 y29).bind fun y218 => scutagelaw10_BucketSums.j5 y66 y72 y90 y38 y29 y199.f_l (!y218))))))) else scutagelaw10_BucketSums.j1 y66 y72 y90 y38 y29 y174.f_l)))))))))))))

end Go.Proofs.Ytcmhekibcbpajaa
