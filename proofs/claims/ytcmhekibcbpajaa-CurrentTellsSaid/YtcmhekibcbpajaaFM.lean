/- What the functions come to: printed out of the translation by gen.py. -/
import Derived.Test.YtcmhekibcbpajaaCore11
set_option linter.unusedVariables false
set_option linter.unusedSimpArgs false
set_option maxRecDepth 100000
namespace Go.Proofs.Ytcmhekibcbpajaa
open Go Go.RowKit

structure api_Vintage where
  Origin : Int
  Expiry : Int
  Left : Int
  deriving Inhabited, DecidableEq
structure scutageref09_Losses where
  V : List api_Vintage
  deriving Inhabited, DecidableEq
structure vintage_Losses where
  f_l : List api_Vintage
  deriving Inhabited, DecidableEq
structure current_Result where
  Income : Int
  Expired : Int
  Used : Int
  New : Int
  Taxable : Int
  Tax : Int
  Vector : List Int
  deriving Inhabited, DecidableEq
structure scutageref09_Result where
  Income : Int
  Expired : Int
  Used : Int
  New : Int
  Taxable : Int
  Tax : Int
  Vector : List Int
  deriving Inhabited, DecidableEq

def scutagekeep_Within.j1 (v3 : Int) : Option Int := some v3
def scutagekeep_Within (v_ : Int) (n_ : Int) : Option Int := (if (decide (n_ < 1)) = true then some 0 else (gd (n_ ≠ (0 : Int)) (if (decide (Int.tmod v_ n_ < 0)) = true then scutagekeep_Within.j1 (w64 (Int.tmod v_ n_ + n_)) else scutagekeep_Within.j1 (Int.tmod v_ n_))))

def scutageplay_Amount (n_ : Int) : Option Int := (if (Int.tmod n_ 23 == 20) = true then ((scutagekeep_Within (w64 (Int.tdiv n_ 23)) 5).bind fun y2 => some (w64 (w64 (100000000000 - y2) + 2))) else (if (Int.tmod n_ 23 == 21) = true then ((scutagekeep_Within (w64 (Int.tdiv n_ 23)) 5).bind fun y9 => some (w64 (w64 ((-100000000000) + y9) - 2))) else (if (Int.tmod n_ 23 == 22) = true then some n_ else (if (Int.tmod n_ 23 == 19) = true then ((scutagekeep_Within (w64 (Int.tdiv n_ 23)) 200000000001).bind fun y17 => some (w64 (y17 - 100000000000))) else ((scutagekeep_Within n_ 4001).bind fun y23 => some (w64 (y23 - 2000)))))))

def scutageref09_Year.j1 (q1 : Bool) : Option Bool := some q1
def scutageref09_Year (y_ : Int) : Option Bool := (if (decide (y_ ≥ 0)) = true then scutageref09_Year.j1 (decide (y_ ≤ 99)) else scutageref09_Year.j1 false)

def scutageref09_Losses_Left.l1  : List api_Vintage → (Int × Int) → Option Int
  | [], (i15, v10) => some v10
  | y20 :: ys19, (i15, v10) => (scutageref09_Losses_Left.l1 ys19) (i15 + 1, w64 (v10 + y20.Left))
def scutageref09_Losses_Left (l_ : scutageref09_Losses) : Option Int := ((scutageref09_Losses_Left.l1  l_.V (0, 0)).bind fun v10 => some v10)

def scutageref09_Losses_Add.j2 (l_ : scutageref09_Losses) (xs49 : List api_Vintage) : Option (Int × scutageref09_Losses) := (if (decide ((xs49.length : Int) > 12)) = true then some (5, (⟨l_.V⟩ : scutageref09_Losses)) else some (0, (⟨xs49⟩ : scutageref09_Losses)))
def scutageref09_Losses_Add.j3 (y35 : api_Vintage) (rec37 : (Int × List api_Vintage × Bool) → Option (Bool × List api_Vintage)) (i30 : Int) (xs72 : List api_Vintage) (q73 : Bool) (v74 : Int) : Option (Bool × List api_Vintage) := (gd (fit xs72.length ([(⟨y35.Origin, y35.Expiry, v74⟩ : api_Vintage)].length)) (rec37 (i30 + 1, xs72 ++ [(⟨y35.Origin, y35.Expiry, v74⟩ : api_Vintage)], q73)))
def scutageref09_Losses_Add.j5 (xs24 : List api_Vintage) (origin : Int) (expiry : Int) (n_ : Int) (y35 : api_Vintage) (rec37 : (Int × List api_Vintage × Bool) → Option (Bool × List api_Vintage)) (i30 : Int) (q25 : Bool) (q89 : Bool) : Option (Bool × List api_Vintage) := (if q89 = true then (gd (fit xs24.length ([(⟨origin, expiry, n_⟩ : api_Vintage)].length)) (scutageref09_Losses_Add.j3 y35 rec37 i30 (xs24 ++ [(⟨origin, expiry, n_⟩ : api_Vintage)]) true y35.Left)) else scutageref09_Losses_Add.j3 y35 rec37 i30 xs24 q25 y35.Left)
def scutageref09_Losses_Add.j4 (y35 : api_Vintage) (rec37 : (Int × List api_Vintage × Bool) → Option (Bool × List api_Vintage)) (i30 : Int) (xs24 : List api_Vintage) (n_ : Int) (q25 : Bool) (expiry : Int) (origin : Int) (q84 : Bool) : Option (Bool × List api_Vintage) := (if q84 = true then scutageref09_Losses_Add.j3 y35 rec37 i30 xs24 true (w64 (y35.Left + n_)) else (if (!q25) = true then (if (decide (y35.Expiry > expiry)) = true then scutageref09_Losses_Add.j5 xs24 origin expiry n_ y35 rec37 i30 q25 true else (if (y35.Expiry == expiry) = true then scutageref09_Losses_Add.j5 xs24 origin expiry n_ y35 rec37 i30 q25 (decide (y35.Origin > origin)) else scutageref09_Losses_Add.j5 xs24 origin expiry n_ y35 rec37 i30 q25 false)) else scutageref09_Losses_Add.j5 xs24 origin expiry n_ y35 rec37 i30 q25 false))
def scutageref09_Losses_Add.l1 (origin : Int) (n_ : Int) (expiry : Int) : List api_Vintage → (Int × List api_Vintage × Bool) → Option (Bool × List api_Vintage)
  | [], (i30, xs24, q25) => some (q25, xs24)
  | y35 :: ys34, (i30, xs24, q25) => (if (y35.Origin == origin) = true then scutageref09_Losses_Add.j4 y35 (scutageref09_Losses_Add.l1 origin n_ expiry ys34) i30 xs24 n_ q25 expiry origin (y35.Expiry == expiry) else scutageref09_Losses_Add.j4 y35 (scutageref09_Losses_Add.l1 origin n_ expiry ys34) i30 xs24 n_ q25 expiry origin false)
def scutageref09_Losses_Add.j1 (l_ : scutageref09_Losses) (n_ : Int) (origin : Int) (expiry : Int) (q4 : Bool) : Option (Int × scutageref09_Losses) := (if q4 = true then some (1, (⟨l_.V⟩ : scutageref09_Losses)) else ((scutageref09_Losses_Left (⟨l_.V⟩ : scutageref09_Losses)).bind fun y7 => (if (decide (w64 (y7 + n_) > 100000000000)) = true then some (6, (⟨l_.V⟩ : scutageref09_Losses)) else ((scutageref09_Losses_Add.l1 origin n_ expiry l_.V (0, ([] : List api_Vintage), false)).bind fun (q25, xs24) => (if (!q25) = true then (gd (fit xs24.length ([(⟨origin, expiry, n_⟩ : api_Vintage)].length)) (scutageref09_Losses_Add.j2 l_ (xs24 ++ [(⟨origin, expiry, n_⟩ : api_Vintage)]))) else scutageref09_Losses_Add.j2 l_ xs24)))))
def scutageref09_Losses_Add (l_ : scutageref09_Losses) (origin : Int) (expiry : Int) (n_ : Int) : Option (Int × scutageref09_Losses) := ((scutageref09_Year origin).bind fun y104 => (if (!y104) = true then scutageref09_Losses_Add.j1 l_ n_ origin expiry true else (if (decide (expiry < origin)) = true then scutageref09_Losses_Add.j1 l_ n_ origin expiry true else (if (decide (expiry > 198)) = true then scutageref09_Losses_Add.j1 l_ n_ origin expiry true else (if (decide (n_ < 1)) = true then scutageref09_Losses_Add.j1 l_ n_ origin expiry true else scutageref09_Losses_Add.j1 l_ n_ origin expiry (decide (n_ > 100000000000)))))))

def scutageplay_Losses.j1 (v21 : Int) (l_ : List Int) (xs20 : List api_Vintage) (rec32 : (List api_Vintage × Int) → Option (List api_Vintage)) (q34 : Bool) : Option (List api_Vintage) := (if q34 = true then (gd ((0 : Int) ≤ v21 ∧ v21 < (l_.length : Int)) ((scutagekeep_Within (rd l_ v21) 5).bind fun y41 => ((scutagekeep_Within (w64 (Int.tdiv (rd l_ v21) 5)) 5).bind fun y48 => ((scutageplay_Amount (w64 (Int.tdiv (rd l_ v21) 25))).bind fun y54 => ((scutageref09_Losses_Add (⟨xs20⟩ : scutageref09_Losses) y41 (w64 (y41 + y48)) (mx y54 1)).bind fun (y60, y61) => rec32 (y61.V, w64 (v21 + 1))))))) else some xs20)
def scutageplay_Losses.l1 (l_ : List Int) : Nat → (List api_Vintage × Int) → Option (List api_Vintage)
  | 0, _ => none
  | fuel31 + 1, (xs20, v21) => (if (decide (v21 < (l_.length : Int))) = true then scutageplay_Losses.j1 v21 l_ xs20 (scutageplay_Losses.l1 l_ fuel31) (decide (v21 < 8)) else scutageplay_Losses.j1 v21 l_ xs20 (scutageplay_Losses.l1 l_ fuel31) false)
def scutageplay_Losses (l_ : List Int) : Option scutageref09_Losses := ((scutageplay_Losses.l1 l_ FUEL (([] : List api_Vintage), 0)).bind fun xs20 => some (⟨xs20⟩ : scutageref09_Losses))

def vintage_New  : Option vintage_Losses := some (⟨([] : List api_Vintage)⟩ : vintage_Losses)

def slices_IndexFunc_api_Vintage.l1 (f_ : api_Vintage → Option Bool) : List api_Vintage → Int → Option (Int ⊕ Unit)
  | [], i17 => some (.inr ())
  | y22 :: ys21, i17 => ((f_ y22).bind fun y34 => (if y34 = true then some (.inl i17) else (slices_IndexFunc_api_Vintage.l1 f_ ys21) (i17 + 1)))
def slices_IndexFunc_api_Vintage (s_ : List api_Vintage) (f_ : api_Vintage → Option Bool) : Option Int := ((slices_IndexFunc_api_Vintage.l1 f_ s_ 0).bind fun tt => match tt with | .inl rr => some rr | .inr _ => some (-1))

def vintage_Losses_Add_c1.j1 (q10 : Bool) : Option Bool := some q10
def vintage_Losses_Add_c1 (v_ : api_Vintage) (cap1 : Int) (cap4 : Int) : Option Bool := (if (v_.Origin == cap1) = true then vintage_Losses_Add_c1.j1 (v_.Expiry == cap4) else vintage_Losses_Add_c1.j1 false)

def vintage_right.j1 (q1 : Bool) : Option Bool := some q1
def vintage_right (origin : Int) (expiry : Int) : Option Bool := (if (decide (origin ≥ 0)) = true then (if (decide (origin ≤ 99)) = true then (if (decide (expiry ≥ origin)) = true then vintage_right.j1 (decide (expiry ≤ 198)) else vintage_right.j1 false) else vintage_right.j1 false) else vintage_right.j1 false)

def rate_Money.j1 (q1 : Bool) : Option Bool := some q1
def rate_Money (n_ : Int) : Option Bool := (if (decide (n_ ≥ (-100000000000))) = true then rate_Money.j1 (decide (n_ ≤ 100000000000)) else rate_Money.j1 false)

def vintage_Losses_Left.l1  : List api_Vintage → (Int × Int) → Option Int
  | [], (i15, v10) => some v10
  | y20 :: ys19, (i15, v10) => (vintage_Losses_Left.l1 ys19) (i15 + 1, w64 (v10 + y20.Left))
def vintage_Losses_Left (l_ : vintage_Losses) : Option Int := ((vintage_Losses_Left.l1  l_.f_l (0, 0)).bind fun v10 => some v10)

def math_bits_Len64 (x_ : Int) : Option Int := (if (decide (x_ ≥ 4294967296)) = true then none else (if (decide (x_ ≥ 65536)) = true then none else (if (decide (x_ ≥ 256)) = true then none else (gd ((0 : Int) ≤ IntKind.u8.wrap x_ ∧ IntKind.u8.wrap x_ < ((⟨#[0, 1, 2, 2, 3, 3, 3, 3, 4, 4, 4, 4, 4, 4, 4, 4, 5, 5, 5, 5, 5, 5, 5, 5, 5, 5, 5, 5, 5, 5, 5, 5, 6, 6, 6, 6, 6, 6, 6, 6, 6, 6, 6, 6, 6, 6, 6, 6, 6, 6, 6, 6, 6, 6, 6, 6, 6, 6, 6, 6, 6, 6, 6, 6, 7, 7, 7, 7, 7, 7, 7, 7, 7, 7, 7, 7, 7, 7, 7, 7, 7, 7, 7, 7, 7, 7, 7, 7, 7, 7, 7, 7, 7, 7, 7, 7, 7, 7, 7, 7, 7, 7, 7, 7, 7, 7, 7, 7, 7, 7, 7, 7, 7, 7, 7, 7, 7, 7, 7, 7, 7, 7, 7, 7, 7, 7, 7, 7, 8, 8, 8, 8, 8, 8, 8, 8, 8, 8, 8, 8, 8, 8, 8, 8, 8, 8, 8, 8, 8, 8, 8, 8, 8, 8, 8, 8, 8, 8, 8, 8, 8, 8, 8, 8, 8, 8, 8, 8, 8, 8, 8, 8, 8, 8, 8, 8, 8, 8, 8, 8, 8, 8, 8, 8, 8, 8, 8, 8, 8, 8, 8, 8, 8, 8, 8, 8, 8, 8, 8, 8, 8, 8, 8, 8, 8, 8, 8, 8, 8, 8, 8, 8, 8, 8, 8, 8, 8, 8, 8, 8, 8, 8, 8, 8, 8, 8, 8, 8, 8, 8, 8, 8, 8, 8, 8, 8, 8, 8, 8, 8, 8, 8, 8, 8, 8, 8, 8, 8, 8, 8, 8, 8, 8, 8, 8, 8]⟩ : ByteArray).size : Int)) (some (w64 (0 + w64 (byteAt (⟨#[0, 1, 2, 2, 3, 3, 3, 3, 4, 4, 4, 4, 4, 4, 4, 4, 5, 5, 5, 5, 5, 5, 5, 5, 5, 5, 5, 5, 5, 5, 5, 5, 6, 6, 6, 6, 6, 6, 6, 6, 6, 6, 6, 6, 6, 6, 6, 6, 6, 6, 6, 6, 6, 6, 6, 6, 6, 6, 6, 6, 6, 6, 6, 6, 7, 7, 7, 7, 7, 7, 7, 7, 7, 7, 7, 7, 7, 7, 7, 7, 7, 7, 7, 7, 7, 7, 7, 7, 7, 7, 7, 7, 7, 7, 7, 7, 7, 7, 7, 7, 7, 7, 7, 7, 7, 7, 7, 7, 7, 7, 7, 7, 7, 7, 7, 7, 7, 7, 7, 7, 7, 7, 7, 7, 7, 7, 7, 7, 8, 8, 8, 8, 8, 8, 8, 8, 8, 8, 8, 8, 8, 8, 8, 8, 8, 8, 8, 8, 8, 8, 8, 8, 8, 8, 8, 8, 8, 8, 8, 8, 8, 8, 8, 8, 8, 8, 8, 8, 8, 8, 8, 8, 8, 8, 8, 8, 8, 8, 8, 8, 8, 8, 8, 8, 8, 8, 8, 8, 8, 8, 8, 8, 8, 8, 8, 8, 8, 8, 8, 8, 8, 8, 8, 8, 8, 8, 8, 8, 8, 8, 8, 8, 8, 8, 8, 8, 8, 8, 8, 8, 8, 8, 8, 8, 8, 8, 8, 8, 8, 8, 8, 8, 8, 8, 8, 8, 8, 8, 8, 8, 8, 8, 8, 8, 8, 8, 8, 8, 8, 8, 8, 8, 8, 8, 8, 8]⟩ : ByteArray) (IntKind.u8.wrap x_)))))))))

def math_bits_Len (x_ : Int) : Option Int := ((math_bits_Len64 x_).bind fun y1 => some y1)

def slices_insertionSortCmpFunc_api_Vintage.j1 (v30 : Int) (xs29 : List api_Vintage) (rec41 : (List api_Vintage × Int) → Option (List api_Vintage)) (q43 : Bool) : Option (List api_Vintage) := (if q43 = true then (gd ((0 : Int) ≤ w64 (v30 - 1) ∧ w64 (v30 - 1) < (xs29.length : Int)) (gd ((0 : Int) ≤ v30 ∧ v30 < (xs29.length : Int)) (gd ((0 : Int) ≤ w64 (v30 - 1) ∧ w64 (v30 - 1) < ((xs29.set (Int.toNat v30) (rd xs29 (w64 (v30 - 1)))).length : Int)) (rec41 ((xs29.set (Int.toNat v30) (rd xs29 (w64 (v30 - 1)))).set (Int.toNat (w64 (v30 - 1))) (rd xs29 v30), w64 (v30 - 1)))))) else some xs29)
def slices_insertionSortCmpFunc_api_Vintage.l2 (a_ : Int) (cmp : (api_Vintage × api_Vintage) → Option Int) : Nat → (List api_Vintage × Int) → Option (List api_Vintage)
  | 0, _ => none
  | fuel40 + 1, (xs29, v30) => (if (decide (v30 > a_)) = true then (gd ((0 : Int) ≤ v30 ∧ v30 < (xs29.length : Int)) (gd ((0 : Int) ≤ w64 (v30 - 1) ∧ w64 (v30 - 1) < (xs29.length : Int)) ((cmp ((rd xs29 v30), (rd xs29 (w64 (v30 - 1))))).bind fun y185 => slices_insertionSortCmpFunc_api_Vintage.j1 v30 xs29 (slices_insertionSortCmpFunc_api_Vintage.l2 a_ cmp fuel40) (decide (y185 < 0))))) else slices_insertionSortCmpFunc_api_Vintage.j1 v30 xs29 (slices_insertionSortCmpFunc_api_Vintage.l2 a_ cmp fuel40) false)
def slices_insertionSortCmpFunc_api_Vintage.l1 (b_ : Int) (a_ : Int) (cmp : (api_Vintage × api_Vintage) → Option Int) : Nat → (List api_Vintage × Int) → Option (List api_Vintage)
  | 0, _ => none
  | fuel23 + 1, (xs12, v13) => (if (decide (v13 < b_)) = true then ((slices_insertionSortCmpFunc_api_Vintage.l2 a_ cmp FUEL (xs12, v13)).bind fun xs29 => (slices_insertionSortCmpFunc_api_Vintage.l1 b_ a_ cmp fuel23) (xs29, w64 (v13 + 1))) else some xs12)
def slices_insertionSortCmpFunc_api_Vintage (data : List api_Vintage) (a_ : Int) (b_ : Int) (cmp : (api_Vintage × api_Vintage) → Option Int) : Option (List api_Vintage) := ((slices_insertionSortCmpFunc_api_Vintage.l1 b_ a_ cmp FUEL (data, w64 (a_ + 1))).bind fun xs12 => some xs12)

def slices_pdqsortCmpFunc_api_Vintage.l1 (b_ : Int) (a_ : Int) (data : List api_Vintage) (cmp : (api_Vintage × api_Vintage) → Option Int) : Nat → Unit → Option ((List api_Vintage) ⊕ Unit)
  | 0, _ => none
  | fuel19 + 1, () => (if (decide (w64 (b_ - a_) ≤ 12)) = true then ((slices_insertionSortCmpFunc_api_Vintage data a_ b_ cmp).bind fun y23 => some (.inl y23)) else none)
def slices_pdqsortCmpFunc_api_Vintage (data : List api_Vintage) (a_ : Int) (b_ : Int) (limit : Int) (cmp : (api_Vintage × api_Vintage) → Option Int) : Option (List api_Vintage) := ((slices_pdqsortCmpFunc_api_Vintage.l1 b_ a_ data cmp FUEL ()).bind fun tt => match tt with | .inl rr => some rr | .inr _ => none)

def slices_SortFunc_api_Vintage (x_ : List api_Vintage) (cmp : (api_Vintage × api_Vintage) → Option Int) : Option (List api_Vintage) := ((math_bits_Len (IntKind.u64.wrap (x_.length : Int))).bind fun y10 => ((slices_pdqsortCmpFunc_api_Vintage x_ 0 (x_.length : Int) y10 cmp).bind fun y16 => some y16))

def cmp_isNaN_int (x_ : Int) : Option Bool := some (x_ != x_)

def cmp_Compare_int (x_ : Int) (y_ : Int) : Option Int := ((cmp_isNaN_int x_).bind fun y1 => ((cmp_isNaN_int y_).bind fun y7 => (if y1 = true then (if y7 = true then some 0 else some (-1)) else (if y7 = true then some 1 else (if (decide (x_ < y_)) = true then some (-1) else (if (decide (x_ > y_)) = true then some 1 else some 0))))))

def cmp_Or_int.l1  : List Int → Int → Option (Int ⊕ Unit)
  | [], i11 => some (.inr ())
  | y16 :: ys15, i11 => (if (y16 != 0) = true then some (.inl y16) else (cmp_Or_int.l1 ys15) (i11 + 1))
def cmp_Or_int (vals : List Int) : Option Int := ((cmp_Or_int.l1  vals 0).bind fun tt => match tt with | .inl rr => some rr | .inr _ => some 0)

def vintage_Losses_Add_c2 (a_ : api_Vintage) (b_ : api_Vintage) : Option Int := ((cmp_Compare_int a_.Expiry b_.Expiry).bind fun y8 => ((cmp_Compare_int a_.Origin b_.Origin).bind fun y14 => ((cmp_Or_int [y8, y14]).bind fun y23 => some y23)))

def vintage_Losses_Add.j1 (l_ : vintage_Losses) (n_ : Int) (y10 : Int) (origin : Int) (expiry : Int) (q16 : Bool) : Option (Int × vintage_Losses) := (if q16 = true then some (1, (⟨l_.f_l⟩ : vintage_Losses)) else ((vintage_Losses_Left (⟨l_.f_l⟩ : vintage_Losses)).bind fun y19 => ((rate_Money (w64 (y19 + n_))).bind fun y25 => (if (!y25) = true then some (6, (⟨l_.f_l⟩ : vintage_Losses)) else (if (decide (y10 ≥ 0)) = true then (gd ((0 : Int) ≤ y10 ∧ y10 < (l_.f_l.length : Int)) (some (0, (⟨l_.f_l.set (Int.toNat y10) (⟨(rd l_.f_l y10).Origin, (rd l_.f_l y10).Expiry, w64 ((rd l_.f_l y10).Left + n_)⟩ : api_Vintage)⟩ : vintage_Losses)))) else (if (decide ((l_.f_l.length : Int) ≥ 12)) = true then some (5, (⟨l_.f_l⟩ : vintage_Losses)) else (gd (fit l_.f_l.length ([(⟨origin, expiry, n_⟩ : api_Vintage)].length)) ((slices_SortFunc_api_Vintage (l_.f_l ++ [(⟨origin, expiry, n_⟩ : api_Vintage)]) (fun x => vintage_Losses_Add_c2 x.1 x.2)).bind fun y239 => some (0, (⟨y239⟩ : vintage_Losses))))))))))
def vintage_Losses_Add (l_ : vintage_Losses) (origin : Int) (expiry : Int) (n_ : Int) : Option (Int × vintage_Losses) := ((slices_IndexFunc_api_Vintage l_.f_l (fun x => vintage_Losses_Add_c1 x origin expiry)).bind fun y10 => ((vintage_right origin expiry).bind fun y245 => (if (!y245) = true then vintage_Losses_Add.j1 l_ n_ y10 origin expiry true else (if (decide (n_ < 1)) = true then vintage_Losses_Add.j1 l_ n_ y10 origin expiry true else ((rate_Money n_).bind fun y253 => vintage_Losses_Add.j1 l_ n_ y10 origin expiry (!y253))))))

def scutagelaw13_Of.l1  : List api_Vintage → (Int × List api_Vintage) → Option ((Option vintage_Losses) ⊕ (List api_Vintage))
  | [], (i31, xs26) => some (.inr xs26)
  | y36 :: ys35, (i31, xs26) => ((vintage_Losses_Add (⟨xs26⟩ : vintage_Losses) y36.Origin y36.Expiry y36.Left).bind fun (y53, y54) => (if (y53 != 0) = true then some (.inl none) else (scutagelaw13_Of.l1 ys35) (i31 + 1, y54.f_l)))
def scutagelaw13_Of (x_ : scutageref09_Losses) : Option (Option vintage_Losses) := ((vintage_New).bind fun y9 => ((scutagelaw13_Of.l1  x_.V (0, y9.f_l)).bind fun tt => match tt with | .inl rr => some rr | .inr xs26 => some (some (⟨xs26⟩ : vintage_Losses))))

def scutageplay_Rate (n_ : Int) : Option Int := (if (Int.tmod n_ 29 == 28) = true then some n_ else ((scutagekeep_Within n_ 10).bind fun y5 => (gd ((0 : Int) ≤ y5 ∧ y5 < (([250000, 300000, 190000, 0, 1000000, 333333, 500000, 1, 125000, 999999] : List Int).length : Int)) (some (rd ([250000, 300000, 190000, 0, 1000000, 333333, 500000, 1, 125000, 999999] : List Int) y5)))))

def rate_Right.j1 (q1 : Bool) : Option Bool := some q1
def rate_Right (rate_ : Int) : Option Bool := (if (decide (rate_ ≥ 0)) = true then rate_Right.j1 (decide (rate_ ≤ 1000000)) else rate_Right.j1 false)

def current_right.j1 (q1 : Bool) : Option Bool := some q1
def current_right (year : Int) : Option Bool := (if (decide (year ≥ 0)) = true then current_right.j1 (decide (year ≤ 99)) else current_right.j1 false)

def rate_Sum.l1  : List Int → (Int × Int) → Option ((Int × Bool) ⊕ Int)
  | [], (i13, v8) => some (.inr v8)
  | y18 :: ys17, (i13, v8) => ((rate_Money y18).bind fun y37 => (if (!y37) = true then some (.inl (0, false)) else (rate_Sum.l1 ys17) (i13 + 1, w64 (v8 + y18))))
def rate_Sum (l_ : List Int) : Option (Int × Bool) := ((rate_Sum.l1  l_ (0, 0)).bind fun tt => match tt with | .inl rr => some rr | .inr v8 => ((rate_Money v8).bind fun y29 => (if (!y29) = true then some (0, false) else some (v8, true))))

def bridge_Income (book : Int) (perm : Int) (moved : Int) : Option (Int × Bool) := ((rate_Money moved).bind fun y1 => (if (!y1) = true then some (0, false) else ((rate_Sum [book, perm, w64 (0 - moved)]).bind fun (y11, y12) => some (y11, y12))))

def slices_Clone_api_Vintage (s_ : List api_Vintage) : Option (List api_Vintage) := (gd (fit (([] : List api_Vintage).length) s_.length) (some (([] : List api_Vintage) ++ s_)))

def vintage_Losses_Rows (l_ : vintage_Losses) : Option (List api_Vintage) := ((slices_Clone_api_Vintage l_.f_l).bind fun y9 => some y9)

def vintage_Losses_Clone (l_ : vintage_Losses) : Option vintage_Losses := ((vintage_Losses_Rows (⟨l_.f_l⟩ : vintage_Losses)).bind fun y9 => some (⟨y9⟩ : vintage_Losses))

def vintage_Losses_Expire.j1 (xs12 : List api_Vintage) (rec24 : (List api_Vintage × Int) → Option ((Int × vintage_Losses) ⊕ Unit)) (v13 : Int) (q26 : Bool) : Option ((Int × vintage_Losses) ⊕ Unit) := (if q26 = true then (gd ((0 : Int) ≤ 0 ∧ 0 < (xs12.length : Int)) (gd (0 ≤ (1 : Int) ∧ (1 : Int) ≤ (xs12.length : Int) ∧ (xs12.length : Int) ≤ (xs12.length : Int)) (rec24 (sb xs12 (1 : Int) (xs12.length : Int), w64 (v13 + (rd xs12 0).Left))))) else some (.inl (v13, (⟨xs12⟩ : vintage_Losses))))
def vintage_Losses_Expire.l1 (year : Int) : Nat → (List api_Vintage × Int) → Option ((Int × vintage_Losses) ⊕ Unit)
  | 0, _ => none
  | fuel23 + 1, (xs12, v13) => (if (decide ((xs12.length : Int) > 0)) = true then (gd ((0 : Int) ≤ 0 ∧ 0 < (xs12.length : Int)) (vintage_Losses_Expire.j1 xs12 (vintage_Losses_Expire.l1 year fuel23) v13 (decide ((rd xs12 0).Expiry < year)))) else vintage_Losses_Expire.j1 xs12 (vintage_Losses_Expire.l1 year fuel23) v13 false)
def vintage_Losses_Expire (l_ : vintage_Losses) (year : Int) : Option (Int × vintage_Losses) := ((vintage_Losses_Expire.l1 year FUEL (l_.f_l, 0)).bind fun tt => match tt with | .inl rr => some rr | .inr _ => none)

def rate_Floor.j1 (n_ : Int) (rate_ : Int) (q1 : Bool) : Option (Int × Bool) := (if q1 = true then some (0, false) else some (w64 (Int.tdiv (w64 (n_ * rate_)) 1000000), true))
def rate_Floor (n_ : Int) (rate_ : Int) : Option (Int × Bool) := ((rate_Money n_).bind fun y4 => (if (!y4) = true then rate_Floor.j1 n_ rate_ true else (if (decide (n_ < 0)) = true then rate_Floor.j1 n_ rate_ true else ((rate_Right rate_).bind fun y12 => rate_Floor.j1 n_ rate_ (!y12)))))

def use_Room (income : Int) (most : Int) : Option Int := (if (decide (income < 1)) = true then some 0 else ((rate_Floor income most).bind fun (y2, y3) => some y2))

def use_Vector.j1 (xs18 : List Int) (rec30 : (Int × Int × List Int) → Option (List Int)) (i23 : Int) (v13 : Int) (v45 : Int) : Option (List Int) := (gd (fit xs18.length ([v45].length)) (rec30 (i23 + 1, w64 (v13 - v45), xs18 ++ [v45])))
def use_Vector.l1 (year : Int) : List api_Vintage → (Int × Int × List Int) → Option (List Int)
  | [], (i23, v13, xs18) => some xs18
  | y28 :: ys27, (i23, v13, xs18) => (if (decide (y28.Expiry ≥ year)) = true then use_Vector.j1 xs18 (use_Vector.l1 year ys27) i23 v13 (mn y28.Left v13) else use_Vector.j1 xs18 (use_Vector.l1 year ys27) i23 v13 0)
def use_Vector (rows : List api_Vintage) (year : Int) (room : Int) : Option (List Int) := ((use_Vector.l1 year rows (0, mx 0 room, ([] : List Int))).bind fun xs18 => some xs18)

def use_Used.l1  : List Int → (Int × Int) → Option Int
  | [], (i13, v8) => some v8
  | y18 :: ys17, (i13, v8) => (use_Used.l1 ys17) (i13 + 1, w64 (v8 + y18))
def use_Used (vector : List Int) : Option Int := ((use_Used.l1  vector (0, 0)).bind fun v8 => some v8)

def slices_DeleteFunc_api_Vintage.j1 (rec33 : (List api_Vintage × Int × Int) → Option (Int × List api_Vintage)) (v22 : Int) (xs36 : List api_Vintage) (v37 : Int) : Option (Int × List api_Vintage) := rec33 (xs36, v37, w64 (v22 + 1))
def slices_DeleteFunc_api_Vintage.l1 (s_ : List api_Vintage) (del : api_Vintage → Option Bool) : Nat → (List api_Vintage × Int × Int) → Option (Int × List api_Vintage)
  | 0, _ => none
  | fuel32 + 1, (xs20, v21, v22) => (if (decide (v22 < (s_.length : Int))) = true then (gd ((0 : Int) ≤ v22 ∧ v22 < (xs20.length : Int)) ((del (rd xs20 v22)).bind fun y48 => (if (!y48) = true then (gd ((0 : Int) ≤ v21 ∧ v21 < (xs20.length : Int)) (slices_DeleteFunc_api_Vintage.j1 (slices_DeleteFunc_api_Vintage.l1 s_ del fuel32) v22 (xs20.set (Int.toNat v21) (rd xs20 v22)) (w64 (v21 + 1)))) else slices_DeleteFunc_api_Vintage.j1 (slices_DeleteFunc_api_Vintage.l1 s_ del fuel32) v22 xs20 v21))) else some (v21, xs20))
def slices_DeleteFunc_api_Vintage (s_ : List api_Vintage) (del : api_Vintage → Option Bool) : Option (List api_Vintage) := ((slices_IndexFunc_api_Vintage s_ del).bind fun y10 => (if (y10 == (-1)) = true then some s_ else ((slices_DeleteFunc_api_Vintage.l1 s_ del FUEL (s_, y10, w64 (y10 + 1))).bind fun (v21, xs20) => (gd (0 ≤ v21 ∧ v21 ≤ (xs20.length : Int) ∧ (xs20.length : Int) ≤ (xs20.length : Int)) (gd (0 ≤ (0 : Int) ∧ (0 : Int) ≤ v21 ∧ v21 ≤ ((clr xs20 v21 (⟨0, 0, 0⟩ : api_Vintage)).length : Int)) (some (sb (clr xs20 v21 (⟨0, 0, 0⟩ : api_Vintage)) (0 : Int) v21)))))))

def vintage_Losses_Take_c1 (v_ : api_Vintage) : Option Bool := some (v_.Left == 0)

def vintage_Losses_Take.l2  : List Int → (Int × List api_Vintage) → Option (List api_Vintage)
  | [], (i46, xs41) => some xs41
  | y51 :: ys50, (i46, xs41) => (gd ((0 : Int) ≤ i46 ∧ i46 < (xs41.length : Int)) ((vintage_Losses_Take.l2 ys50) (i46 + 1, xs41.set (Int.toNat i46) (⟨(rd xs41 i46).Origin, (rd xs41 i46).Expiry, w64 ((rd xs41 i46).Left - y51)⟩ : api_Vintage))))
def vintage_Losses_Take.j1 (l_ : vintage_Losses) (rec22 : Int → Option ((Int × vintage_Losses) ⊕ Unit)) (i15 : Int) (q81 : Bool) : Option ((Int × vintage_Losses) ⊕ Unit) := (if q81 = true then some (.inl (1, (⟨l_.f_l⟩ : vintage_Losses))) else rec22 (i15 + 1))
def vintage_Losses_Take.l1 (l_ : vintage_Losses) : List Int → Int → Option ((Int × vintage_Losses) ⊕ Unit)
  | [], i15 => some (.inr ())
  | y20 :: ys19, i15 => (if (decide (y20 < 0)) = true then vintage_Losses_Take.j1 l_ (vintage_Losses_Take.l1 l_ ys19) i15 true else (gd ((0 : Int) ≤ i15 ∧ i15 < (l_.f_l.length : Int)) (vintage_Losses_Take.j1 l_ (vintage_Losses_Take.l1 l_ ys19) i15 (decide (y20 > (rd l_.f_l i15).Left)))))
def vintage_Losses_Take (l_ : vintage_Losses) (used : List Int) : Option (Int × vintage_Losses) := (if ((used.length : Int) != (l_.f_l.length : Int)) = true then some (1, (⟨l_.f_l⟩ : vintage_Losses)) else ((vintage_Losses_Take.l1 l_ used 0).bind fun tt => match tt with | .inl rr => some rr | .inr _ => ((vintage_Losses_Rows (⟨l_.f_l⟩ : vintage_Losses)).bind fun y31 => ((vintage_Losses_Take.l2  used (0, y31)).bind fun xs41 => ((slices_DeleteFunc_api_Vintage xs41 (fun x => vintage_Losses_Take_c1 x)).bind fun y62 => some (0, (⟨y62⟩ : vintage_Losses)))))))

def rate_Of.j1 (n_ : Int) (rate_ : Int) (q1 : Bool) : Option (Int × Bool) := (if q1 = true then some (0, false) else (if (decide (n_ < 0)) = true then some (w64 (Int.tdiv (w64 (w64 (w64 (2 * n_) * rate_) - 1000000)) 2000000), true) else some (w64 (Int.tdiv (w64 (w64 (w64 (2 * n_) * rate_) + 1000000)) 2000000), true)))
def rate_Of (n_ : Int) (rate_ : Int) : Option (Int × Bool) := (if (decide (n_ < (-400000000000))) = true then rate_Of.j1 n_ rate_ true else (if (decide (n_ > 400000000000)) = true then rate_Of.j1 n_ rate_ true else (if (decide (rate_ < 0)) = true then rate_Of.j1 n_ rate_ true else rate_Of.j1 n_ rate_ (decide (rate_ > 10000000)))))

def current_Tax.j2 (y18 : Int) (r_ : Int) (y39 : Int) (xs57 : List api_Vintage) (v60 : Int) (v61 : Int) (xs65 : List Int) : Option (current_Result × Option vintage_Losses × Int) := ((rate_Of (w64 (w64 (y18 - v60) + v61)) r_).bind fun (y69, y70) => some ((⟨y18, y39, v60, v61, w64 (w64 (y18 - v60) + v61), y69, xs65⟩ : current_Result), (some (⟨xs57⟩ : vintage_Losses)), 0))
def current_Tax.j1 (book : Int) (perm : Int) (moved : Int) (l_ : vintage_Losses) (year : Int) (most : Int) (r_ : Int) (life : Int) (q12 : Bool) : Option (current_Result × Option vintage_Losses × Int) := (if q12 = true then some ((⟨0, 0, 0, 0, 0, 0, ([] : List Int)⟩ : current_Result), none, 1) else ((bridge_Income book perm moved).bind fun (y18, y19) => (if (!y19) = true then some ((⟨0, 0, 0, 0, 0, 0, ([] : List Int)⟩ : current_Result), none, 6) else ((vintage_Losses_Clone (⟨l_.f_l⟩ : vintage_Losses)).bind fun y29 => ((vintage_Losses_Expire (⟨y29.f_l⟩ : vintage_Losses) year).bind fun (y39, y40) => (if (decide (y18 > 0)) = true then ((vintage_Losses_Rows (⟨y40.f_l⟩ : vintage_Losses)).bind fun y81 => ((use_Room y18 most).bind fun y90 => ((use_Vector y81 year y90).bind fun y96 => ((use_Used y96).bind fun y107 => ((vintage_Losses_Take (⟨y40.f_l⟩ : vintage_Losses) y96).bind fun (y115, y116) => current_Tax.j2 y18 r_ y39 y116.f_l y107 0 y96))))) else (if (decide (y18 < 0)) = true then ((vintage_Losses_Add (⟨y40.f_l⟩ : vintage_Losses) year (w64 (year + life)) (w64 (0 - y18))).bind fun (y128, y129) => (if (y128 != 0) = true then some ((⟨0, 0, 0, 0, 0, 0, ([] : List Int)⟩ : current_Result), none, y128) else current_Tax.j2 y18 r_ y39 y129.f_l 0 (w64 (0 - y18)) ([] : List Int))) else current_Tax.j2 y18 r_ y39 y40.f_l 0 0 ([] : List Int))))))))
def current_Tax (l_ : vintage_Losses) (book : Int) (perm : Int) (moved : Int) (most : Int) (life : Int) (year : Int) (r_ : Int) : Option (current_Result × Option vintage_Losses × Int) := ((rate_Right most).bind fun y142 => (if (!y142) = true then current_Tax.j1 book perm moved l_ year most r_ life true else ((rate_Right r_).bind fun y149 => (if (!y149) = true then current_Tax.j1 book perm moved l_ year most r_ life true else ((current_right life).bind fun y156 => (if (!y156) = true then current_Tax.j1 book perm moved l_ year most r_ life true else ((current_right year).bind fun y163 => current_Tax.j1 book perm moved l_ year most r_ life (!y163))))))))

def scutageref01_Right.j1 (q1 : Bool) : Option Bool := some q1
def scutageref01_Right (r_ : Int) : Option Bool := (if (decide (r_ ≥ 0)) = true then scutageref01_Right.j1 (decide (r_ ≤ 1000000)) else scutageref01_Right.j1 false)

def scutageref01_Money.j1 (q1 : Bool) : Option Bool := some q1
def scutageref01_Money (n_ : Int) : Option Bool := (if (decide (n_ ≥ (-100000000000))) = true then scutageref01_Money.j1 (decide (n_ ≤ 100000000000)) else scutageref01_Money.j1 false)

def scutageref09_Income.j1 (book : Int) (perm : Int) (moved : Int) (q1 : Bool) : Option (Int × Bool) := (if q1 = true then some (0, false) else some (w64 (w64 (book + perm) - moved), true))
def scutageref09_Income (book : Int) (perm : Int) (moved : Int) : Option (Int × Bool) := ((scutageref01_Money book).bind fun y4 => (if (!y4) = true then scutageref09_Income.j1 book perm moved true else ((scutageref01_Money perm).bind fun y11 => (if (!y11) = true then scutageref09_Income.j1 book perm moved true else ((scutageref01_Money moved).bind fun y18 => (if (!y18) = true then scutageref09_Income.j1 book perm moved true else ((scutageref01_Money (w64 (w64 (book + perm) - moved))).bind fun y25 => scutageref09_Income.j1 book perm moved (!y25))))))))

def scutageref09_Losses_Copy (l_ : scutageref09_Losses) : Option scutageref09_Losses := (gd (fit (([] : List api_Vintage).length) l_.V.length) (some (⟨([] : List api_Vintage) ++ l_.V⟩ : scutageref09_Losses)))

def scutageref09_Losses_Expire.j1 (rec27 : (Int × Int × List api_Vintage) → Option (Int × List api_Vintage)) (i20 : Int) (v38 : Int) (xs42 : List api_Vintage) : Option (Int × List api_Vintage) := rec27 (i20 + 1, v38, xs42)
def scutageref09_Losses_Expire.l1 (year : Int) : List api_Vintage → (Int × Int × List api_Vintage) → Option (Int × List api_Vintage)
  | [], (i20, v10, xs15) => some (v10, xs15)
  | y25 :: ys24, (i20, v10, xs15) => (if (decide (y25.Expiry < year)) = true then scutageref09_Losses_Expire.j1 (scutageref09_Losses_Expire.l1 year ys24) i20 (w64 (v10 + y25.Left)) xs15 else (gd (fit xs15.length ([y25].length)) (scutageref09_Losses_Expire.j1 (scutageref09_Losses_Expire.l1 year ys24) i20 v10 (xs15 ++ [y25]))))
def scutageref09_Losses_Expire (l_ : scutageref09_Losses) (year : Int) : Option (Int × scutageref09_Losses) := ((scutageref09_Losses_Expire.l1 year l_.V (0, 0, ([] : List api_Vintage))).bind fun (v10, xs15) => some (v10, (⟨xs15⟩ : scutageref09_Losses)))

def scutageref01_Floor.j1 (n_ : Int) (r_ : Int) (q1 : Bool) : Option (Int × Bool) := (if q1 = true then some (0, false) else some (w64 (Int.tdiv (w64 (n_ * r_)) 1000000), true))
def scutageref01_Floor (n_ : Int) (r_ : Int) : Option (Int × Bool) := (if (decide (n_ < 0)) = true then scutageref01_Floor.j1 n_ r_ true else ((scutageref01_Money n_).bind fun y5 => (if (!y5) = true then scutageref01_Floor.j1 n_ r_ true else ((scutageref01_Right r_).bind fun y12 => scutageref01_Floor.j1 n_ r_ (!y12)))))

def scutageref09_Room (income : Int) (cap : Int) : Option Int := ((scutageref01_Floor income cap).bind fun (y1, y2) => some y1)

def scutageref09_Vector.j1 (xs18 : List Int) (rec30 : (Int × Int × List Int) → Option (List Int)) (i23 : Int) (v13 : Int) (v45 : Int) : Option (List Int) := (gd (fit xs18.length ([v45].length)) (rec30 (i23 + 1, w64 (v13 - v45), xs18 ++ [v45])))
def scutageref09_Vector.l1 (year : Int) : List api_Vintage → (Int × Int × List Int) → Option (List Int)
  | [], (i23, v13, xs18) => some xs18
  | y28 :: ys27, (i23, v13, xs18) => (if (decide (y28.Expiry ≥ year)) = true then scutageref09_Vector.j1 xs18 (scutageref09_Vector.l1 year ys27) i23 v13 (mn y28.Left (mx v13 0)) else scutageref09_Vector.j1 xs18 (scutageref09_Vector.l1 year ys27) i23 v13 0)
def scutageref09_Vector (rows : List api_Vintage) (year : Int) (room : Int) : Option (List Int) := ((scutageref09_Vector.l1 year rows (0, room, ([] : List Int))).bind fun xs18 => some xs18)

def scutageref09_total.l1  : List Int → (Int × Int) → Option Int
  | [], (i13, v8) => some v8
  | y18 :: ys17, (i13, v8) => (scutageref09_total.l1 ys17) (i13 + 1, w64 (v8 + y18))
def scutageref09_total (l_ : List Int) : Option Int := ((scutageref09_total.l1  l_ (0, 0)).bind fun v8 => some v8)

def scutageref09_Losses_Take.j1 (rec32 : (Int × List api_Vintage) → Option ((Int × scutageref09_Losses) ⊕ (List api_Vintage))) (i25 : Int) (xs46 : List api_Vintage) : Option ((Int × scutageref09_Losses) ⊕ (List api_Vintage)) := rec32 (i25 + 1, xs46)
def scutageref09_Losses_Take.j2 (l_ : scutageref09_Losses) (i25 : Int) (used : List Int) (y30 : api_Vintage) (xs20 : List api_Vintage) (rec32 : (Int × List api_Vintage) → Option ((Int × scutageref09_Losses) ⊕ (List api_Vintage))) (q54 : Bool) : Option ((Int × scutageref09_Losses) ⊕ (List api_Vintage)) := (if q54 = true then some (.inl (1, (⟨l_.V⟩ : scutageref09_Losses))) else (gd ((0 : Int) ≤ i25 ∧ i25 < (used.length : Int)) (if (decide (w64 (y30.Left - (rd used i25)) > 0)) = true then (gd (fit xs20.length ([(⟨y30.Origin, y30.Expiry, w64 (y30.Left - (rd used i25))⟩ : api_Vintage)].length)) (scutageref09_Losses_Take.j1 rec32 i25 (xs20 ++ [(⟨y30.Origin, y30.Expiry, w64 (y30.Left - (rd used i25))⟩ : api_Vintage)]))) else scutageref09_Losses_Take.j1 rec32 i25 xs20)))
def scutageref09_Losses_Take.l1 (used : List Int) (l_ : scutageref09_Losses) : List api_Vintage → (Int × List api_Vintage) → Option ((Int × scutageref09_Losses) ⊕ (List api_Vintage))
  | [], (i25, xs20) => some (.inr xs20)
  | y30 :: ys29, (i25, xs20) => (gd ((0 : Int) ≤ i25 ∧ i25 < (used.length : Int)) (if (decide ((rd used i25) < 0)) = true then scutageref09_Losses_Take.j2 l_ i25 used y30 xs20 (scutageref09_Losses_Take.l1 used l_ ys29) true else scutageref09_Losses_Take.j2 l_ i25 used y30 xs20 (scutageref09_Losses_Take.l1 used l_ ys29) (decide ((rd used i25) > y30.Left))))
def scutageref09_Losses_Take (l_ : scutageref09_Losses) (used : List Int) : Option (Int × scutageref09_Losses) := (if ((used.length : Int) != (l_.V.length : Int)) = true then some (1, (⟨l_.V⟩ : scutageref09_Losses)) else ((scutageref09_Losses_Take.l1 used l_ l_.V (0, ([] : List api_Vintage))).bind fun tt => match tt with | .inl rr => some rr | .inr xs20 => some (0, (⟨xs20⟩ : scutageref09_Losses))))

def scutageref01_Of_r1.j2 (v5 : Int) : Option (Int × Bool) := some (v5, true)
def scutageref01_Of_r1.j1 (n_ : Int) (r_ : Int) (q1 : Bool) : Option (Int × Bool) := (if q1 = true then some (0, false) else (if (decide (n_ < 0)) = true then none else (if (decide (w64 (2 * Int.tmod (w64 (n_ * r_)) 1000000) ≥ 1000000)) = true then scutageref01_Of_r1.j2 (w64 (w64 (Int.tdiv (w64 (n_ * r_)) 1000000) + 1)) else scutageref01_Of_r1.j2 (w64 (Int.tdiv (w64 (n_ * r_)) 1000000)))))
def scutageref01_Of_r1 (n_ : Int) (r_ : Int) : Option (Int × Bool) := (if (decide (n_ < (-400000000000))) = true then scutageref01_Of_r1.j1 n_ r_ true else (if (decide (n_ > 400000000000)) = true then scutageref01_Of_r1.j1 n_ r_ true else (if (decide (r_ < 0)) = true then scutageref01_Of_r1.j1 n_ r_ true else scutageref01_Of_r1.j1 n_ r_ (decide (r_ > 10000000)))))

def scutageref01_Of.j2 (v12 : Int) : Option (Int × Bool) := some (v12, true)
def scutageref01_Of.j1 (n_ : Int) (r_ : Int) (q1 : Bool) : Option (Int × Bool) := (if q1 = true then some (0, false) else (if (decide (n_ < 0)) = true then ((scutageref01_Of_r1 (w64 (0 - n_)) r_).bind fun (y5, y6) => some (w64 (0 - y5), true)) else (if (decide (w64 (2 * Int.tmod (w64 (n_ * r_)) 1000000) ≥ 1000000)) = true then scutageref01_Of.j2 (w64 (w64 (Int.tdiv (w64 (n_ * r_)) 1000000) + 1)) else scutageref01_Of.j2 (w64 (Int.tdiv (w64 (n_ * r_)) 1000000)))))
def scutageref01_Of (n_ : Int) (r_ : Int) : Option (Int × Bool) := (if (decide (n_ < (-400000000000))) = true then scutageref01_Of.j1 n_ r_ true else (if (decide (n_ > 400000000000)) = true then scutageref01_Of.j1 n_ r_ true else (if (decide (r_ < 0)) = true then scutageref01_Of.j1 n_ r_ true else scutageref01_Of.j1 n_ r_ (decide (r_ > 10000000)))))

def scutageref01_Part (n_ : Int) (r_ : Int) : Option Int := ((scutageref01_Of n_ r_).bind fun (y1, y2) => some y1)

def scutageref09_Tax.j2 (y18 : Int) (r_ : Int) (y44 : Int) (v58 : Int) (v59 : Int) (xs63 : List Int) (xs67 : List api_Vintage) : Option (scutageref09_Result × Option scutageref09_Losses × Int) := ((scutageref01_Part (w64 (w64 (y18 - v58) + v59)) r_).bind fun y71 => some ((⟨y18, y44, v58, v59, w64 (w64 (y18 - v58) + v59), y71, xs63⟩ : scutageref09_Result), (some (⟨xs67⟩ : scutageref09_Losses)), 0))
def scutageref09_Tax.j1 (book : Int) (perm : Int) (moved : Int) (l_ : scutageref09_Losses) (year : Int) (cap : Int) (r_ : Int) (life : Int) (q12 : Bool) : Option (scutageref09_Result × Option scutageref09_Losses × Int) := (if q12 = true then some ((⟨0, 0, 0, 0, 0, 0, ([] : List Int)⟩ : scutageref09_Result), none, 1) else ((scutageref09_Income book perm moved).bind fun (y18, y19) => (if (!y19) = true then some ((⟨0, 0, 0, 0, 0, 0, ([] : List Int)⟩ : scutageref09_Result), none, 6) else ((scutageref09_Losses_Copy (⟨l_.V⟩ : scutageref09_Losses)).bind fun y34 => ((scutageref09_Losses_Expire (⟨y34.V⟩ : scutageref09_Losses) year).bind fun (y44, y45) => (if (decide (y18 > 0)) = true then ((scutageref09_Room y18 cap).bind fun y83 => ((scutageref09_Vector y45.V year y83).bind fun y89 => ((scutageref09_total y89).bind fun y176 => ((scutageref09_Losses_Take (⟨y45.V⟩ : scutageref09_Losses) y89).bind fun (y184, y185) => scutageref09_Tax.j2 y18 r_ y44 y176 0 y89 y185.V)))) else (if (decide (y18 < 0)) = true then ((scutageref09_Losses_Add (⟨y45.V⟩ : scutageref09_Losses) year (w64 (year + life)) (w64 (0 - y18))).bind fun (y197, y198) => (if (y197 != 0) = true then some ((⟨0, 0, 0, 0, 0, 0, ([] : List Int)⟩ : scutageref09_Result), none, y197) else scutageref09_Tax.j2 y18 r_ y44 0 (w64 (0 - y18)) ([] : List Int) y198.V)) else scutageref09_Tax.j2 y18 r_ y44 0 0 ([] : List Int) y45.V)))))))
def scutageref09_Tax (l_ : scutageref09_Losses) (book : Int) (perm : Int) (moved : Int) (cap : Int) (life : Int) (year : Int) (r_ : Int) : Option (scutageref09_Result × Option scutageref09_Losses × Int) := ((scutageref01_Right cap).bind fun y211 => (if (!y211) = true then scutageref09_Tax.j1 book perm moved l_ year cap r_ life true else ((scutageref01_Right r_).bind fun y218 => (if (!y218) = true then scutageref09_Tax.j1 book perm moved l_ year cap r_ life true else ((scutageref09_Year life).bind fun y225 => (if (!y225) = true then scutageref09_Tax.j1 book perm moved l_ year cap r_ life true else ((scutageref09_Year year).bind fun y232 => scutageref09_Tax.j1 book perm moved l_ year cap r_ life (!y232))))))))

def scutagekeep_Same_int.l1 (a_ : List Int) (b_ : List Int) : Nat → Int → Option (Bool ⊕ Unit)
  | 0, _ => none
  | fuel25 + 1, v15 => (if (decide (v15 < (a_.length : Int))) = true then (gd ((0 : Int) ≤ v15 ∧ v15 < (a_.length : Int)) (gd ((0 : Int) ≤ v15 ∧ v15 < (b_.length : Int)) (if ((rd a_ v15) != (rd b_ v15)) = true then some (.inl false) else (scutagekeep_Same_int.l1 a_ b_ fuel25) (w64 (v15 + 1))))) else some (.inr ()))
def scutagekeep_Same_int (a_ : List Int) (b_ : List Int) : Option Bool := (if ((a_.length : Int) != (b_.length : Int)) = true then some false else ((scutagekeep_Same_int.l1 a_ b_ FUEL 0).bind fun tt => match tt with | .inl rr => some rr | .inr _ => some true))

def scutagelaw15_Same.j1 (q19 : Bool) : Option Bool := some q19
def scutagelaw15_Same (a_ : current_Result) (b_ : scutageref09_Result) : Option Bool := (if (a_.Income == b_.Income) = true then (if (a_.Expired == b_.Expired) = true then (if (a_.Used == b_.Used) = true then (if (a_.New == b_.New) = true then (if (a_.Taxable == b_.Taxable) = true then (if (a_.Tax == b_.Tax) = true then ((scutagekeep_Same_int a_.Vector b_.Vector).bind fun y27 => scutagelaw15_Same.j1 y27) else scutagelaw15_Same.j1 false) else scutagelaw15_Same.j1 false) else scutagelaw15_Same.j1 false) else scutagelaw15_Same.j1 false) else scutagelaw15_Same.j1 false) else scutagelaw15_Same.j1 false)

def scutagekeep_Same_api_Vintage.l1 (a_ : List api_Vintage) (b_ : List api_Vintage) : Nat → Int → Option (Bool ⊕ Unit)
  | 0, _ => none
  | fuel25 + 1, v15 => (if (decide (v15 < (a_.length : Int))) = true then (gd ((0 : Int) ≤ v15 ∧ v15 < (a_.length : Int)) (gd ((0 : Int) ≤ v15 ∧ v15 < (b_.length : Int)) (if (!(((rd a_ v15).Origin) == ((rd b_ v15).Origin) && (((rd a_ v15).Expiry) == ((rd b_ v15).Expiry) && (((rd a_ v15).Left) == ((rd b_ v15).Left))))) = true then some (.inl false) else (scutagekeep_Same_api_Vintage.l1 a_ b_ fuel25) (w64 (v15 + 1))))) else some (.inr ()))
def scutagekeep_Same_api_Vintage (a_ : List api_Vintage) (b_ : List api_Vintage) : Option Bool := (if ((a_.length : Int) != (b_.length : Int)) = true then some false else ((scutagekeep_Same_api_Vintage.l1 a_ b_ FUEL 0).bind fun tt => match tt with | .inl rr => some rr | .inr _ => some true))

def scutagelaw15_wakes.j1  : Option Bool := some false
def scutagelaw15_wakes.j2 (q43 : Bool) : Option Bool := some q43
def scutagelaw15_wakes  : Option Bool := ((vintage_New).bind fun y1 => ((current_Tax (⟨y1.f_l⟩ : vintage_Losses) 100 0 0 0 3 5 250000).bind fun (y11, y12, y13) => match y12 with | none => (if (y13 == 0) = true then scutagelaw15_wakes.j1 else scutagelaw15_wakes.j1) | some o17 => (if (y13 == 0) = true then (if (y11.Tax == 25) = true then scutagelaw15_wakes.j2 (y11.Taxable == 100) else scutagelaw15_wakes.j2 false) else scutagelaw15_wakes.j2 false)))

def scutagelaw15_CurrentTells.j3 (q105 : Bool) : Option Bool := some q105
def scutagelaw15_CurrentTells.j2 (o21 : vintage_Losses) (y7 : scutageref09_Losses) (q102 : Bool) : Option Bool := (if q102 = true then some false else ((vintage_Losses_Rows (⟨o21.f_l⟩ : vintage_Losses)).bind fun y108 => ((scutagekeep_Same_api_Vintage y108 y7.V).bind fun y117 => (if y117 = true then ((scutagelaw15_wakes).bind fun y124 => scutagelaw15_CurrentTells.j3 y124) else scutagelaw15_CurrentTells.j3 false))))
def scutagelaw15_CurrentTells.j5 (q430 : Bool) : Option Bool := some q430
def scutagelaw15_CurrentTells.j4 (o21 : vintage_Losses) (y7 : scutageref09_Losses) (q427 : Bool) : Option Bool := (if q427 = true then some false else ((vintage_Losses_Rows (⟨o21.f_l⟩ : vintage_Losses)).bind fun y433 => ((scutagekeep_Same_api_Vintage y433 y7.V).bind fun y442 => (if y442 = true then ((scutagelaw15_wakes).bind fun y449 => scutagelaw15_CurrentTells.j5 y449) else scutagelaw15_CurrentTells.j5 false))))
def scutagelaw15_CurrentTells.j6 (o58 : vintage_Losses) (q777 : Bool) : Option Bool := (if q777 = true then some false else ((vintage_Losses_Rows (⟨o58.f_l⟩ : vintage_Losses)).bind fun y781 => none))
def scutagelaw15_CurrentTells.j8 (q806 : Bool) : Option Bool := some q806
def scutagelaw15_CurrentTells.j7 (o58 : vintage_Losses) (o758 : scutageref09_Losses) (o21 : vintage_Losses) (y7 : scutageref09_Losses) (q803 : Bool) : Option Bool := (if q803 = true then some false else ((vintage_Losses_Rows (⟨o58.f_l⟩ : vintage_Losses)).bind fun y809 => ((scutagekeep_Same_api_Vintage y809 o758.V).bind fun y818 => (if y818 = true then ((vintage_Losses_Rows (⟨o21.f_l⟩ : vintage_Losses)).bind fun y825 => ((scutagekeep_Same_api_Vintage y825 y7.V).bind fun y834 => (if y834 = true then ((scutagelaw15_wakes).bind fun y841 => scutagelaw15_CurrentTells.j8 y841) else scutagelaw15_CurrentTells.j8 false))) else scutagelaw15_CurrentTells.j8 false))))
def scutagelaw15_CurrentTells.j1 (o21 : vintage_Losses) (y29 : Int) (y35 : Int) (y41 : Int) (y7 : scutageref09_Losses) (v47 : Int) (v48 : Int) (v49 : Int) (v50 : Int) : Option Bool := ((current_Tax (⟨o21.f_l⟩ : vintage_Losses) y29 y35 y41 v47 v48 v49 v50).bind fun (y52, y53, y54) => match y53 with | none => ((scutageref09_Tax (⟨y7.V⟩ : scutageref09_Losses) y29 y35 y41 v47 v48 v49 v50).bind fun (y77, y78, y79) => match y78 with | none => (if (y54 != y79) = true then scutagelaw15_CurrentTells.j2 o21 y7 true else ((scutagelaw15_Same y52 y77).bind fun y415 => (if (!y415) = true then scutagelaw15_CurrentTells.j2 o21 y7 true else scutagelaw15_CurrentTells.j2 o21 y7 (!(false == (y54 == 0)))))) | some o83 => (if (y54 != y79) = true then scutagelaw15_CurrentTells.j4 o21 y7 true else ((scutagelaw15_Same y52 y77).bind fun y740 => (if (!y740) = true then scutagelaw15_CurrentTells.j4 o21 y7 true else scutagelaw15_CurrentTells.j4 o21 y7 (!(false == (y54 == 0))))))) | some o58 => ((scutageref09_Tax (⟨y7.V⟩ : scutageref09_Losses) y29 y35 y41 v47 v48 v49 v50).bind fun (y752, y753, y754) => match y753 with | none => (if (y54 != y754) = true then scutagelaw15_CurrentTells.j6 o58 true else ((scutagelaw15_Same y52 y752).bind fun y791 => (if (!y791) = true then scutagelaw15_CurrentTells.j6 o58 true else scutagelaw15_CurrentTells.j6 o58 (!(true == (y54 == 0)))))) | some o758 => (if (y54 != y754) = true then scutagelaw15_CurrentTells.j7 o58 o758 o21 y7 true else ((scutagelaw15_Same y52 y752).bind fun y1301 => (if (!y1301) = true then scutagelaw15_CurrentTells.j7 o58 o758 o21 y7 true else scutagelaw15_CurrentTells.j7 o58 o758 o21 y7 (!(true == (y54 == 0))))))))
def scutagelaw15_CurrentTells (l_ : List Int) (book : Int) (perm : Int) (moved : Int) (cap : Int) (life : Int) (year : Int) (r_ : Int) (how : Int) : Option Bool := ((scutageplay_Losses l_).bind fun y7 => ((scutagelaw13_Of (⟨y7.V⟩ : scutageref09_Losses)).bind fun y17 => match y17 with | none => some false | some o21 => ((scutageplay_Amount book).bind fun y29 => ((scutageplay_Amount perm).bind fun y35 => ((scutageplay_Amount moved).bind fun y41 => (if (Int.tmod how 7 != 6) = true then ((scutageplay_Rate cap).bind fun y1309 => ((scutagekeep_Within life 6).bind fun y1315 => ((scutagekeep_Within year 10).bind fun y1321 => ((scutageplay_Rate r_).bind fun y1327 => scutagelaw15_CurrentTells.j1 o21 y29 y35 y41 y7 y1309 y1315 y1321 y1327)))) else scutagelaw15_CurrentTells.j1 o21 y29 y35 y41 y7 cap life year r_))))))

end Go.Proofs.Ytcmhekibcbpajaa
