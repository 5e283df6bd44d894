/- What the functions come to: printed out of the translation by gen.py. -/
import Derived.Test.YtcmhekibcbpajaaCore11
set_option linter.unusedVariables false
set_option linter.unusedSimpArgs false
set_option maxRecDepth 100000
namespace Go.Proofs.Ytcmhekibcbpajaa
open Go Go.RowKit

structure scutagelaw13_Act where
  Do : Int
  Origin : Int
  Life : Int
  f_N : Int
  Used : List Int
  deriving Inhabited, DecidableEq
structure api_Vintage where
  Origin : Int
  Expiry : Int
  Left : Int
  deriving Inhabited, DecidableEq
structure vintage_Losses where
  f_l : List api_Vintage
  deriving Inhabited, DecidableEq
structure scutageref09_Losses where
  V : List api_Vintage
  deriving Inhabited, DecidableEq

def vintage_New  : Option vintage_Losses := some (⟨([] : List api_Vintage)⟩ : vintage_Losses)

def scutagekeep_Within.j1 (v3 : Int) : Option Int := some v3
def scutagekeep_Within (v_ : Int) (n_ : Int) : Option Int := (if (decide (n_ < 1)) = true then some 0 else (gd (n_ ≠ (0 : Int)) (if (decide (Int.tmod v_ n_ < 0)) = true then scutagekeep_Within.j1 (w64 (Int.tmod v_ n_ + n_)) else scutagekeep_Within.j1 (Int.tmod v_ n_))))

def scutageplay_Amount (n_ : Int) : Option Int := (if (Int.tmod n_ 23 == 20) = true then ((scutagekeep_Within (w64 (Int.tdiv n_ 23)) 5).bind fun y2 => some (w64 (w64 (100000000000 - y2) + 2))) else (if (Int.tmod n_ 23 == 21) = true then ((scutagekeep_Within (w64 (Int.tdiv n_ 23)) 5).bind fun y9 => some (w64 (w64 ((-100000000000) + y9) - 2))) else (if (Int.tmod n_ 23 == 22) = true then some n_ else (if (Int.tmod n_ 23 == 19) = true then ((scutagekeep_Within (w64 (Int.tdiv n_ 23)) 200000000001).bind fun y17 => some (w64 (y17 - 100000000000))) else ((scutagekeep_Within n_ 4001).bind fun y23 => some (w64 (y23 - 2000)))))))

def slices_IndexFunc_api_Vintage.l1 (f_ : api_Vintage → Option Bool) : List api_Vintage → Int → Option (Int ⊕ Unit)
  | [], i17 => some (.inr ())
  | y22 :: ys21, i17 => ((f_ y22).bind fun y34 => (if y34 = true then some (.inl i17) else (slices_IndexFunc_api_Vintage.l1 f_ ys21) (i17 + 1)))
def slices_IndexFunc_api_Vintage (s_ : List api_Vintage) (f_ : api_Vintage → Option Bool) : Option Int := ((slices_IndexFunc_api_Vintage.l1 f_ s_ 0).bind fun tt => match tt with | .inl rr => some rr | .inr _ => some (-1))

def vintage_Losses_Add_c1.j1 (q10 : Bool) : Option Bool := some q10
def vintage_Losses_Add_c1 (v_ : api_Vintage) (cap1 : Int) (cap4 : Int) : Option Bool := (if (v_.Origin == cap1) = true then vintage_Losses_Add_c1.j1 (v_.Expiry == cap4) else vintage_Losses_Add_c1.j1 false)

def vintage_right.j1 (q1 : Bool) : Option Bool := some q1
def vintage_right (origin : Int) (expiry : Int) : Option Bool := (if (decide (origin ≥ 0)) = true then (if (decide (origin ≤ 99)) = true then (if (decide (expiry ≥ origin)) = true then vintage_right.j1 (decide (expiry ≤ 198)) else vintage_right.j1 false) else vintage_right.j1 false) else vintage_right.j1 false)

def rate_Money.j1 (q1 : Bool) : Option Bool := some q1
def rate_Money (n_ : Int) : Option Bool := (if (decide (n_ ≥ (-100000000000))) = true then rate_Money.j1 (decide (n_ ≤ 100000000000)) else rate_Money.j1 false)

def vintage_Losses_Left.l1  : List api_Vintage → (Int × Int) → Option Int
  | [], (i15, v10) => some v10
  | y20 :: ys19, (i15, v10) => (vintage_Losses_Left.l1 ys19) (i15 + 1, w64 (v10 + y20.Left))
def vintage_Losses_Left (l_ : vintage_Losses) : Option Int := ((vintage_Losses_Left.l1  l_.f_l (0, 0)).bind fun v10 => some v10)

def math_bits_Len64 (x_ : Int) : Option Int := (if (decide (x_ ≥ 4294967296)) = true then none else (if (decide (x_ ≥ 65536)) = true then none else (if (decide (x_ ≥ 256)) = true then none else (gd ((0 : Int) ≤ IntKind.u8.wrap x_ ∧ IntKind.u8.wrap x_ < ((⟨#[0, 1, 2, 2, 3, 3, 3, 3, 4, 4, 4, 4, 4, 4, 4, 4, 5, 5, 5, 5, 5, 5, 5, 5, 5, 5, 5, 5, 5, 5, 5, 5, 6, 6, 6, 6, 6, 6, 6, 6, 6, 6, 6, 6, 6, 6, 6, 6, 6, 6, 6, 6, 6, 6, 6, 6, 6, 6, 6, 6, 6, 6, 6, 6, 7, 7, 7, 7, 7, 7, 7, 7, 7, 7, 7, 7, 7, 7, 7, 7, 7, 7, 7, 7, 7, 7, 7, 7, 7, 7, 7, 7, 7, 7, 7, 7, 7, 7, 7, 7, 7, 7, 7, 7, 7, 7, 7, 7, 7, 7, 7, 7, 7, 7, 7, 7, 7, 7, 7, 7, 7, 7, 7, 7, 7, 7, 7, 7, 8, 8, 8, 8, 8, 8, 8, 8, 8, 8, 8, 8, 8, 8, 8, 8, 8, 8, 8, 8, 8, 8, 8, 8, 8, 8, 8, 8, 8, 8, 8, 8, 8, 8, 8, 8, 8, 8, 8, 8, 8, 8, 8, 8, 8, 8, 8, 8, 8, 8, 8, 8, 8, 8, 8, 8, 8, 8, 8, 8, 8, 8, 8, 8, 8, 8, 8, 8, 8, 8, 8, 8, 8, 8, 8, 8, 8, 8, 8, 8, 8, 8, 8, 8, 8, 8, 8, 8, 8, 8, 8, 8, 8, 8, 8, 8, 8, 8, 8, 8, 8, 8, 8, 8, 8, 8, 8, 8, 8, 8, 8, 8, 8, 8, 8, 8, 8, 8, 8, 8, 8, 8, 8, 8, 8, 8, 8, 8]⟩ : ByteArray).size : Int)) (some (w64 (0 + w64 (byteAt (⟨#[0, 1, 2, 2, 3, 3, 3, 3, 4, 4, 4, 4, 4, 4, 4, 4, 5, 5, 5, 5, 5, 5, 5, 5, 5, 5, 5, 5, 5, 5, 5, 5, 6, 6, 6, 6, 6, 6, 6, 6, 6, 6, 6, 6, 6, 6, 6, 6, 6, 6, 6, 6, 6, 6, 6, 6, 6, 6, 6, 6, 6, 6, 6, 6, 7, 7, 7, 7, 7, 7, 7, 7, 7, 7, 7, 7, 7, 7, 7, 7, 7, 7, 7, 7, 7, 7, 7, 7, 7, 7, 7, 7, 7, 7, 7, 7, 7, 7, 7, 7, 7, 7, 7, 7, 7, 7, 7, 7, 7, 7, 7, 7, 7, 7, 7, 7, 7, 7, 7, 7, 7, 7, 7, 7, 7, 7, 7, 7, 8, 8, 8, 8, 8, 8, 8, 8, 8, 8, 8, 8, 8, 8, 8, 8, 8, 8, 8, 8, 8, 8, 8, 8, 8, 8, 8, 8, 8, 8, 8, 8, 8, 8, 8, 8, 8, 8, 8, 8, 8, 8, 8, 8, 8, 8, 8, 8, 8, 8, 8, 8, 8, 8, 8, 8, 8, 8, 8, 8, 8, 8, 8, 8, 8, 8, 8, 8, 8, 8, 8, 8, 8, 8, 8, 8, 8, 8, 8, 8, 8, 8, 8, 8, 8, 8, 8, 8, 8, 8, 8, 8, 8, 8, 8, 8, 8, 8, 8, 8, 8, 8, 8, 8, 8, 8, 8, 8, 8, 8, 8, 8, 8, 8, 8, 8, 8, 8, 8, 8, 8, 8, 8, 8, 8, 8, 8, 8]⟩ : ByteArray) (IntKind.u8.wrap x_)))))))))

def math_bits_Len (x_ : Int) : Option Int := ((math_bits_Len64 x_).bind fun y1 => some y1)

def slices_insertionSortCmpFunc_api_Vintage.j1 (v30 : Int) (xs29 : List api_Vintage) (rec41 : (List api_Vintage × Int) → Option (List api_Vintage)) (q43 : Bool) : Option (List api_Vintage) := (if q43 = true then (gd ((0 : Int) ≤ w64 (v30 - 1) ∧ w64 (v30 - 1) < (xs29.length : Int)) (gd ((0 : Int) ≤ v30 ∧ v30 < (xs29.length : Int)) (gd ((0 : Int) ≤ w64 (v30 - 1) ∧ w64 (v30 - 1) < ((xs29.set (Int.toNat v30) (rd xs29 (w64 (v30 - 1)))).length : Int)) (rec41 ((xs29.set (Int.toNat v30) (rd xs29 (w64 (v30 - 1)))).set (Int.toNat (w64 (v30 - 1))) (rd xs29 v30), w64 (v30 - 1)))))) else some xs29)
def slices_insertionSortCmpFunc_api_Vintage.l2 (a_ : Int) (cmp : (api_Vintage × api_Vintage) → Option Int) : Nat → (List api_Vintage × Int) → Option (List api_Vintage)
  | 0, _ => none
  | fuel40 + 1, (xs29, v30) => (if (decide (v30 > a_)) = true then (gd ((0 : Int) ≤ v30 ∧ v30 < (xs29.length : Int)) (gd ((0 : Int) ≤ w64 (v30 - 1) ∧ w64 (v30 - 1) < (xs29.length : Int)) ((cmp ((rd xs29 v30), (rd xs29 (w64 (v30 - 1))))).bind fun y185 => slices_insertionSortCmpFunc_api_Vintage.j1 v30 xs29 (slices_insertionSortCmpFunc_api_Vintage.l2 a_ cmp fuel40) (decide (y185 < 0))))) else slices_insertionSortCmpFunc_api_Vintage.j1 v30 xs29 (slices_insertionSortCmpFunc_api_Vintage.l2 a_ cmp fuel40) false)
def slices_insertionSortCmpFunc_api_Vintage.l1 (b_ : Int) (a_ : Int) (cmp : (api_Vintage × api_Vintage) → Option Int) : Nat → (List api_Vintage × Int) → Option (List api_Vintage)
  | 0, _ => none
  | fuel23 + 1, (xs12, v13) => (if (decide (v13 < b_)) = true then ((slices_insertionSortCmpFunc_api_Vintage.l2 a_ cmp FUEL (xs12, v13)).bind fun xs29 => (slices_insertionSortCmpFunc_api_Vintage.l1 b_ a_ cmp fuel23) (xs29, w64 (v13 + 1))) else some xs12)
def slices_insertionSortCmpFunc_api_Vintage (data : List api_Vintage) (a_ : Int) (b_ : Int) (cmp : (api_Vintage × api_Vintage) → Option Int) : Option (List api_Vintage) := ((slices_insertionSortCmpFunc_api_Vintage.l1 b_ a_ cmp FUEL (data, w64 (a_ + 1))).bind fun xs12 => some xs12)

def slices_pdqsortCmpFunc_api_Vintage.l1 (b_ : Int) (a_ : Int) (data : List api_Vintage) (cmp : (api_Vintage × api_Vintage) → Option Int) : Nat → Unit → Option ((List api_Vintage) ⊕ Unit)
  | 0, _ => none
  | fuel19 + 1, () => (if (decide (w64 (b_ - a_) ≤ 12)) = true then ((slices_insertionSortCmpFunc_api_Vintage data a_ b_ cmp).bind fun y23 => some (.inl y23)) else none)
def slices_pdqsortCmpFunc_api_Vintage (data : List api_Vintage) (a_ : Int) (b_ : Int) (limit : Int) (cmp : (api_Vintage × api_Vintage) → Option Int) : Option (List api_Vintage) := ((slices_pdqsortCmpFunc_api_Vintage.l1 b_ a_ data cmp FUEL ()).bind fun tt => match tt with | .inl rr => some rr | .inr _ => none)

def slices_SortFunc_api_Vintage (x_ : List api_Vintage) (cmp : (api_Vintage × api_Vintage) → Option Int) : Option (List api_Vintage) := ((math_bits_Len (IntKind.u64.wrap (x_.length : Int))).bind fun y10 => ((slices_pdqsortCmpFunc_api_Vintage x_ 0 (x_.length : Int) y10 cmp).bind fun y16 => some y16))

def cmp_isNaN_int (x_ : Int) : Option Bool := some (x_ != x_)

def cmp_Compare_int (x_ : Int) (y_ : Int) : Option Int := ((cmp_isNaN_int x_).bind fun y1 => ((cmp_isNaN_int y_).bind fun y7 => (if y1 = true then (if y7 = true then some 0 else some (-1)) else (if y7 = true then some 1 else (if (decide (x_ < y_)) = true then some (-1) else (if (decide (x_ > y_)) = true then some 1 else some 0))))))

def cmp_Or_int.l1  : List Int → Int → Option (Int ⊕ Unit)
  | [], i11 => some (.inr ())
  | y16 :: ys15, i11 => (if (y16 != 0) = true then some (.inl y16) else (cmp_Or_int.l1 ys15) (i11 + 1))
def cmp_Or_int (vals : List Int) : Option Int := ((cmp_Or_int.l1  vals 0).bind fun tt => match tt with | .inl rr => some rr | .inr _ => some 0)

def vintage_Losses_Add_c2 (a_ : api_Vintage) (b_ : api_Vintage) : Option Int := ((cmp_Compare_int a_.Expiry b_.Expiry).bind fun y8 => ((cmp_Compare_int a_.Origin b_.Origin).bind fun y14 => ((cmp_Or_int [y8, y14]).bind fun y23 => some y23)))

def vintage_Losses_Add.j1 (l_ : vintage_Losses) (n_ : Int) (y10 : Int) (origin : Int) (expiry : Int) (q16 : Bool) : Option (Int × vintage_Losses) := (if q16 = true then some (1, (⟨l_.f_l⟩ : vintage_Losses)) else ((vintage_Losses_Left (⟨l_.f_l⟩ : vintage_Losses)).bind fun y19 => ((rate_Money (w64 (y19 + n_))).bind fun y25 => (if (!y25) = true then some (6, (⟨l_.f_l⟩ : vintage_Losses)) else (if (decide (y10 ≥ 0)) = true then (gd ((0 : Int) ≤ y10 ∧ y10 < (l_.f_l.length : Int)) (some (0, (⟨l_.f_l.set (Int.toNat y10) (⟨(rd l_.f_l y10).Origin, (rd l_.f_l y10).Expiry, w64 ((rd l_.f_l y10).Left + n_)⟩ : api_Vintage)⟩ : vintage_Losses)))) else (if (decide ((l_.f_l.length : Int) ≥ 12)) = true then some (5, (⟨l_.f_l⟩ : vintage_Losses)) else (gd (fit l_.f_l.length ([(⟨origin, expiry, n_⟩ : api_Vintage)].length)) ((slices_SortFunc_api_Vintage (l_.f_l ++ [(⟨origin, expiry, n_⟩ : api_Vintage)]) (fun x => vintage_Losses_Add_c2 x.1 x.2)).bind fun y239 => some (0, (⟨y239⟩ : vintage_Losses))))))))))
def vintage_Losses_Add (l_ : vintage_Losses) (origin : Int) (expiry : Int) (n_ : Int) : Option (Int × vintage_Losses) := ((slices_IndexFunc_api_Vintage l_.f_l (fun x => vintage_Losses_Add_c1 x origin expiry)).bind fun y10 => ((vintage_right origin expiry).bind fun y245 => (if (!y245) = true then vintage_Losses_Add.j1 l_ n_ y10 origin expiry true else (if (decide (n_ < 1)) = true then vintage_Losses_Add.j1 l_ n_ y10 origin expiry true else ((rate_Money n_).bind fun y253 => vintage_Losses_Add.j1 l_ n_ y10 origin expiry (!y253))))))

def scutageref09_Year.j1 (q1 : Bool) : Option Bool := some q1
def scutageref09_Year (y_ : Int) : Option Bool := (if (decide (y_ ≥ 0)) = true then scutageref09_Year.j1 (decide (y_ ≤ 99)) else scutageref09_Year.j1 false)

def scutageref09_Losses_Left.l1  : List api_Vintage → (Int × Int) → Option Int
  | [], (i15, v10) => some v10
  | y20 :: ys19, (i15, v10) => (scutageref09_Losses_Left.l1 ys19) (i15 + 1, w64 (v10 + y20.Left))
def scutageref09_Losses_Left (l_ : scutageref09_Losses) : Option Int := ((scutageref09_Losses_Left.l1  l_.V (0, 0)).bind fun v10 => some v10)

def scutageref09_Losses_Add.j2 (l_ : scutageref09_Losses) (xs49 : List api_Vintage) : Option (Int × scutageref09_Losses) := (if (decide ((xs49.length : Int) > 12)) = true then some (5, (⟨l_.V⟩ : scutageref09_Losses)) else some (0, (⟨xs49⟩ : scutageref09_Losses)))
def scutageref09_Losses_Add.j3 (y35 : api_Vintage) (rec37 : (Int × List api_Vintage × Bool) → Option (Bool × List api_Vintage)) (i30 : Int) (xs72 : List api_Vintage) (q73 : Bool) (v74 : Int) : Option (Bool × List api_Vintage) := (gd (fit xs72.length ([(⟨y35.Origin, y35.Expiry, v74⟩ : api_Vintage)].length)) (rec37 (i30 + 1, xs72 ++ [(⟨y35.Origin, y35.Expiry, v74⟩ : api_Vintage)], q73)))
def scutageref09_Losses_Add.j5 (xs24 : List api_Vintage) (origin : Int) (expiry : Int) (n_ : Int) (y35 : api_Vintage) (rec37 : (Int × List api_Vintage × Bool) → Option (Bool × List api_Vintage)) (i30 : Int) (q25 : Bool) (q89 : Bool) : Option (Bool × List api_Vintage) := (if q89 = true then (gd (fit xs24.length ([(⟨origin, expiry, n_⟩ : api_Vintage)].length)) (scutageref09_Losses_Add.j3 y35 rec37 i30 (xs24 ++ [(⟨origin, expiry, n_⟩ : api_Vintage)]) true y35.Left)) else scutageref09_Losses_Add.j3 y35 rec37 i30 xs24 q25 y35.Left)
def scutageref09_Losses_Add.j4 (y35 : api_Vintage) (rec37 : (Int × List api_Vintage × Bool) → Option (Bool × List api_Vintage)) (i30 : Int) (xs24 : List api_Vintage) (n_ : Int) (q25 : Bool) (expiry : Int) (origin : Int) (q84 : Bool) : Option (Bool × List api_Vintage) := (if q84 = true then scutageref09_Losses_Add.j3 y35 rec37 i30 xs24 true (w64 (y35.Left + n_)) else (if (!q25) = true then (if (decide (y35.Expiry > expiry)) = true then scutageref09_Losses_Add.j5 xs24 origin expiry n_ y35 rec37 i30 q25 true else (if (y35.Expiry == expiry) = true then scutageref09_Losses_Add.j5 xs24 origin expiry n_ y35 rec37 i30 q25 (decide (y35.Origin > origin)) else scutageref09_Losses_Add.j5 xs24 origin expiry n_ y35 rec37 i30 q25 false)) else scutageref09_Losses_Add.j5 xs24 origin expiry n_ y35 rec37 i30 q25 false))
def scutageref09_Losses_Add.l1 (origin : Int) (n_ : Int) (expiry : Int) : List api_Vintage → (Int × List api_Vintage × Bool) → Option (Bool × List api_Vintage)
  | [], (i30, xs24, q25) => some (q25, xs24)
  | y35 :: ys34, (i30, xs24, q25) => (if (y35.Origin == origin) = true then scutageref09_Losses_Add.j4 y35 (scutageref09_Losses_Add.l1 origin n_ expiry ys34) i30 xs24 n_ q25 expiry origin (y35.Expiry == expiry) else scutageref09_Losses_Add.j4 y35 (scutageref09_Losses_Add.l1 origin n_ expiry ys34) i30 xs24 n_ q25 expiry origin false)
def scutageref09_Losses_Add.j1 (l_ : scutageref09_Losses) (n_ : Int) (origin : Int) (expiry : Int) (q4 : Bool) : Option (Int × scutageref09_Losses) := (if q4 = true then some (1, (⟨l_.V⟩ : scutageref09_Losses)) else ((scutageref09_Losses_Left (⟨l_.V⟩ : scutageref09_Losses)).bind fun y7 => (if (decide (w64 (y7 + n_) > 100000000000)) = true then some (6, (⟨l_.V⟩ : scutageref09_Losses)) else ((scutageref09_Losses_Add.l1 origin n_ expiry l_.V (0, ([] : List api_Vintage), false)).bind fun (q25, xs24) => (if (!q25) = true then (gd (fit xs24.length ([(⟨origin, expiry, n_⟩ : api_Vintage)].length)) (scutageref09_Losses_Add.j2 l_ (xs24 ++ [(⟨origin, expiry, n_⟩ : api_Vintage)]))) else scutageref09_Losses_Add.j2 l_ xs24)))))
def scutageref09_Losses_Add (l_ : scutageref09_Losses) (origin : Int) (expiry : Int) (n_ : Int) : Option (Int × scutageref09_Losses) := ((scutageref09_Year origin).bind fun y104 => (if (!y104) = true then scutageref09_Losses_Add.j1 l_ n_ origin expiry true else (if (decide (expiry < origin)) = true then scutageref09_Losses_Add.j1 l_ n_ origin expiry true else (if (decide (expiry > 198)) = true then scutageref09_Losses_Add.j1 l_ n_ origin expiry true else (if (decide (n_ < 1)) = true then scutageref09_Losses_Add.j1 l_ n_ origin expiry true else scutageref09_Losses_Add.j1 l_ n_ origin expiry (decide (n_ > 100000000000)))))))

def slices_Clone_api_Vintage (s_ : List api_Vintage) : Option (List api_Vintage) := (gd (fit (([] : List api_Vintage).length) s_.length) (some (([] : List api_Vintage) ++ s_)))

def vintage_Losses_Rows (l_ : vintage_Losses) : Option (List api_Vintage) := ((slices_Clone_api_Vintage l_.f_l).bind fun y9 => some y9)

def scutagekeep_Same_api_Vintage.l1 (a_ : List api_Vintage) (b_ : List api_Vintage) : Nat → Int → Option (Bool ⊕ Unit)
  | 0, _ => none
  | fuel25 + 1, v15 => (if (decide (v15 < (a_.length : Int))) = true then (gd ((0 : Int) ≤ v15 ∧ v15 < (a_.length : Int)) (gd ((0 : Int) ≤ v15 ∧ v15 < (b_.length : Int)) (if (!(((rd a_ v15).Origin) == ((rd b_ v15).Origin) && (((rd a_ v15).Expiry) == ((rd b_ v15).Expiry) && (((rd a_ v15).Left) == ((rd b_ v15).Left))))) = true then some (.inl false) else (scutagekeep_Same_api_Vintage.l1 a_ b_ fuel25) (w64 (v15 + 1))))) else some (.inr ()))
def scutagekeep_Same_api_Vintage (a_ : List api_Vintage) (b_ : List api_Vintage) : Option Bool := (if ((a_.length : Int) != (b_.length : Int)) = true then some false else ((scutagekeep_Same_api_Vintage.l1 a_ b_ FUEL 0).bind fun tt => match tt with | .inl rr => some rr | .inr _ => some true))

def vintage_Losses_Expire.j1 (xs12 : List api_Vintage) (rec24 : (List api_Vintage × Int) → Option ((Int × vintage_Losses) ⊕ Unit)) (v13 : Int) (q26 : Bool) : Option ((Int × vintage_Losses) ⊕ Unit) := (if q26 = true then (gd ((0 : Int) ≤ 0 ∧ 0 < (xs12.length : Int)) (gd (0 ≤ (1 : Int) ∧ (1 : Int) ≤ (xs12.length : Int) ∧ (xs12.length : Int) ≤ (xs12.length : Int)) (rec24 (sb xs12 (1 : Int) (xs12.length : Int), w64 (v13 + (rd xs12 0).Left))))) else some (.inl (v13, (⟨xs12⟩ : vintage_Losses))))
def vintage_Losses_Expire.l1 (year : Int) : Nat → (List api_Vintage × Int) → Option ((Int × vintage_Losses) ⊕ Unit)
  | 0, _ => none
  | fuel23 + 1, (xs12, v13) => (if (decide ((xs12.length : Int) > 0)) = true then (gd ((0 : Int) ≤ 0 ∧ 0 < (xs12.length : Int)) (vintage_Losses_Expire.j1 xs12 (vintage_Losses_Expire.l1 year fuel23) v13 (decide ((rd xs12 0).Expiry < year)))) else vintage_Losses_Expire.j1 xs12 (vintage_Losses_Expire.l1 year fuel23) v13 false)
def vintage_Losses_Expire (l_ : vintage_Losses) (year : Int) : Option (Int × vintage_Losses) := ((vintage_Losses_Expire.l1 year FUEL (l_.f_l, 0)).bind fun tt => match tt with | .inl rr => some rr | .inr _ => none)

def scutageref09_Losses_Expire.j1 (rec27 : (Int × Int × List api_Vintage) → Option (Int × List api_Vintage)) (i20 : Int) (v38 : Int) (xs42 : List api_Vintage) : Option (Int × List api_Vintage) := rec27 (i20 + 1, v38, xs42)
def scutageref09_Losses_Expire.l1 (year : Int) : List api_Vintage → (Int × Int × List api_Vintage) → Option (Int × List api_Vintage)
  | [], (i20, v10, xs15) => some (v10, xs15)
  | y25 :: ys24, (i20, v10, xs15) => (if (decide (y25.Expiry < year)) = true then scutageref09_Losses_Expire.j1 (scutageref09_Losses_Expire.l1 year ys24) i20 (w64 (v10 + y25.Left)) xs15 else (gd (fit xs15.length ([y25].length)) (scutageref09_Losses_Expire.j1 (scutageref09_Losses_Expire.l1 year ys24) i20 v10 (xs15 ++ [y25]))))
def scutageref09_Losses_Expire (l_ : scutageref09_Losses) (year : Int) : Option (Int × scutageref09_Losses) := ((scutageref09_Losses_Expire.l1 year l_.V (0, 0, ([] : List api_Vintage))).bind fun (v10, xs15) => some (v10, (⟨xs15⟩ : scutageref09_Losses)))

def scutagekeep_Copy_int (l_ : List Int) : Option (List Int) := (gd (fit (([] : List Int).length) l_.length) (some (([] : List Int) ++ l_)))

def scutagekeep_Cut_int (l_ : List Int) (n_ : Int) : Option (List Int) := (gd (0 ≤ (0 : Int) ∧ (0 : Int) ≤ mn (l_.length : Int) n_ ∧ mn (l_.length : Int) n_ ≤ (l_.length : Int)) ((scutagekeep_Copy_int (sb l_ (0 : Int) (mn (l_.length : Int) n_))).bind fun y8 => some y8))

def slices_DeleteFunc_api_Vintage.j1 (rec33 : (List api_Vintage × Int × Int) → Option (Int × List api_Vintage)) (v22 : Int) (xs36 : List api_Vintage) (v37 : Int) : Option (Int × List api_Vintage) := rec33 (xs36, v37, w64 (v22 + 1))
def slices_DeleteFunc_api_Vintage.l1 (s_ : List api_Vintage) (del : api_Vintage → Option Bool) : Nat → (List api_Vintage × Int × Int) → Option (Int × List api_Vintage)
  | 0, _ => none
  | fuel32 + 1, (xs20, v21, v22) => (if (decide (v22 < (s_.length : Int))) = true then (gd ((0 : Int) ≤ v22 ∧ v22 < (xs20.length : Int)) ((del (rd xs20 v22)).bind fun y48 => (if (!y48) = true then (gd ((0 : Int) ≤ v21 ∧ v21 < (xs20.length : Int)) (slices_DeleteFunc_api_Vintage.j1 (slices_DeleteFunc_api_Vintage.l1 s_ del fuel32) v22 (xs20.set (Int.toNat v21) (rd xs20 v22)) (w64 (v21 + 1)))) else slices_DeleteFunc_api_Vintage.j1 (slices_DeleteFunc_api_Vintage.l1 s_ del fuel32) v22 xs20 v21))) else some (v21, xs20))
def slices_DeleteFunc_api_Vintage (s_ : List api_Vintage) (del : api_Vintage → Option Bool) : Option (List api_Vintage) := ((slices_IndexFunc_api_Vintage s_ del).bind fun y10 => (if (y10 == (-1)) = true then some s_ else ((slices_DeleteFunc_api_Vintage.l1 s_ del FUEL (s_, y10, w64 (y10 + 1))).bind fun (v21, xs20) => (gd (0 ≤ v21 ∧ v21 ≤ (xs20.length : Int) ∧ (xs20.length : Int) ≤ (xs20.length : Int)) (gd (0 ≤ (0 : Int) ∧ (0 : Int) ≤ v21 ∧ v21 ≤ ((clr xs20 v21 (⟨0, 0, 0⟩ : api_Vintage)).length : Int)) (some (sb (clr xs20 v21 (⟨0, 0, 0⟩ : api_Vintage)) (0 : Int) v21)))))))

def vintage_Losses_Take_c1 (v_ : api_Vintage) : Option Bool := some (v_.Left == 0)

def vintage_Losses_Take.l2  : List Int → (Int × List api_Vintage) → Option (List api_Vintage)
  | [], (i46, xs41) => some xs41
  | y51 :: ys50, (i46, xs41) => (gd ((0 : Int) ≤ i46 ∧ i46 < (xs41.length : Int)) ((vintage_Losses_Take.l2 ys50) (i46 + 1, xs41.set (Int.toNat i46) (⟨(rd xs41 i46).Origin, (rd xs41 i46).Expiry, w64 ((rd xs41 i46).Left - y51)⟩ : api_Vintage))))
def vintage_Losses_Take.j1 (l_ : vintage_Losses) (rec22 : Int → Option ((Int × vintage_Losses) ⊕ Unit)) (i15 : Int) (q81 : Bool) : Option ((Int × vintage_Losses) ⊕ Unit) := (if q81 = true then some (.inl (1, (⟨l_.f_l⟩ : vintage_Losses))) else rec22 (i15 + 1))
def vintage_Losses_Take.l1 (l_ : vintage_Losses) : List Int → Int → Option ((Int × vintage_Losses) ⊕ Unit)
  | [], i15 => some (.inr ())
  | y20 :: ys19, i15 => (if (decide (y20 < 0)) = true then vintage_Losses_Take.j1 l_ (vintage_Losses_Take.l1 l_ ys19) i15 true else (gd ((0 : Int) ≤ i15 ∧ i15 < (l_.f_l.length : Int)) (vintage_Losses_Take.j1 l_ (vintage_Losses_Take.l1 l_ ys19) i15 (decide (y20 > (rd l_.f_l i15).Left)))))
def vintage_Losses_Take (l_ : vintage_Losses) (used : List Int) : Option (Int × vintage_Losses) := (if ((used.length : Int) != (l_.f_l.length : Int)) = true then some (1, (⟨l_.f_l⟩ : vintage_Losses)) else ((vintage_Losses_Take.l1 l_ used 0).bind fun tt => match tt with | .inl rr => some rr | .inr _ => ((vintage_Losses_Rows (⟨l_.f_l⟩ : vintage_Losses)).bind fun y31 => ((vintage_Losses_Take.l2  used (0, y31)).bind fun xs41 => ((slices_DeleteFunc_api_Vintage xs41 (fun x => vintage_Losses_Take_c1 x)).bind fun y62 => some (0, (⟨y62⟩ : vintage_Losses)))))))

def scutageref09_Losses_Take.j1 (rec32 : (Int × List api_Vintage) → Option ((Int × scutageref09_Losses) ⊕ (List api_Vintage))) (i25 : Int) (xs46 : List api_Vintage) : Option ((Int × scutageref09_Losses) ⊕ (List api_Vintage)) := rec32 (i25 + 1, xs46)
def scutageref09_Losses_Take.j2 (l_ : scutageref09_Losses) (i25 : Int) (used : List Int) (y30 : api_Vintage) (xs20 : List api_Vintage) (rec32 : (Int × List api_Vintage) → Option ((Int × scutageref09_Losses) ⊕ (List api_Vintage))) (q54 : Bool) : Option ((Int × scutageref09_Losses) ⊕ (List api_Vintage)) := (if q54 = true then some (.inl (1, (⟨l_.V⟩ : scutageref09_Losses))) else (gd ((0 : Int) ≤ i25 ∧ i25 < (used.length : Int)) (if (decide (w64 (y30.Left - (rd used i25)) > 0)) = true then (gd (fit xs20.length ([(⟨y30.Origin, y30.Expiry, w64 (y30.Left - (rd used i25))⟩ : api_Vintage)].length)) (scutageref09_Losses_Take.j1 rec32 i25 (xs20 ++ [(⟨y30.Origin, y30.Expiry, w64 (y30.Left - (rd used i25))⟩ : api_Vintage)]))) else scutageref09_Losses_Take.j1 rec32 i25 xs20)))
def scutageref09_Losses_Take.l1 (used : List Int) (l_ : scutageref09_Losses) : List api_Vintage → (Int × List api_Vintage) → Option ((Int × scutageref09_Losses) ⊕ (List api_Vintage))
  | [], (i25, xs20) => some (.inr xs20)
  | y30 :: ys29, (i25, xs20) => (gd ((0 : Int) ≤ i25 ∧ i25 < (used.length : Int)) (if (decide ((rd used i25) < 0)) = true then scutageref09_Losses_Take.j2 l_ i25 used y30 xs20 (scutageref09_Losses_Take.l1 used l_ ys29) true else scutageref09_Losses_Take.j2 l_ i25 used y30 xs20 (scutageref09_Losses_Take.l1 used l_ ys29) (decide ((rd used i25) > y30.Left))))
def scutageref09_Losses_Take (l_ : scutageref09_Losses) (used : List Int) : Option (Int × scutageref09_Losses) := (if ((used.length : Int) != (l_.V.length : Int)) = true then some (1, (⟨l_.V⟩ : scutageref09_Losses)) else ((scutageref09_Losses_Take.l1 used l_ l_.V (0, ([] : List api_Vintage))).bind fun tt => match tt with | .inl rr => some rr | .inr xs20 => some (0, (⟨xs20⟩ : scutageref09_Losses))))

def scutagekeep_Same_int.l1 (a_ : List Int) (b_ : List Int) : Nat → Int → Option (Bool ⊕ Unit)
  | 0, _ => none
  | fuel25 + 1, v15 => (if (decide (v15 < (a_.length : Int))) = true then (gd ((0 : Int) ≤ v15 ∧ v15 < (a_.length : Int)) (gd ((0 : Int) ≤ v15 ∧ v15 < (b_.length : Int)) (if ((rd a_ v15) != (rd b_ v15)) = true then some (.inl false) else (scutagekeep_Same_int.l1 a_ b_ fuel25) (w64 (v15 + 1))))) else some (.inr ()))
def scutagekeep_Same_int (a_ : List Int) (b_ : List Int) : Option Bool := (if ((a_.length : Int) != (b_.length : Int)) = true then some false else ((scutagekeep_Same_int.l1 a_ b_ FUEL 0).bind fun tt => match tt with | .inl rr => some rr | .inr _ => some true))

def vintage_Losses_Clone (l_ : vintage_Losses) : Option vintage_Losses := ((vintage_Losses_Rows (⟨l_.f_l⟩ : vintage_Losses)).bind fun y9 => some (⟨y9⟩ : vintage_Losses))

def scutagelaw13_wakes.j1 (q11 : Bool) : Option Bool := some q11
def scutagelaw13_wakes  : Option Bool := ((vintage_New).bind fun y1 => ((vintage_Losses_Left (⟨y1.f_l⟩ : vintage_Losses)).bind fun y13 => (if (y13 == 0) = true then ((vintage_Losses_Add (⟨y1.f_l⟩ : vintage_Losses) 3 8 100).bind fun (y20, y21) => (if (y20 == 0) = true then ((vintage_Losses_Left (⟨y21.f_l⟩ : vintage_Losses)).bind fun y31 => (if (y31 == 100) = true then ((vintage_Losses_Expire (⟨y21.f_l⟩ : vintage_Losses) 9).bind fun (y38, y39) => scutagelaw13_wakes.j1 (y38 == 100)) else scutagelaw13_wakes.j1 false)) else scutagelaw13_wakes.j1 false)) else scutagelaw13_wakes.j1 false)))

def scutagelaw13_VintagePlays.j2 (rec52 : (List api_Vintage × List api_Vintage × Int) → Option (Bool ⊕ Unit)) (v41 : Int) (xs60 : List api_Vintage) (xs64 : List api_Vintage) : Option (Bool ⊕ Unit) := rec52 (xs60, xs64, w64 (v41 + 1))
def scutagelaw13_VintagePlays.j6 (rec52 : (List api_Vintage × List api_Vintage × Int) → Option (Bool ⊕ Unit)) (v41 : Int) (y228 : vintage_Losses) (y238 : scutageref09_Losses) (q248 : Bool) : Option (Bool ⊕ Unit) := (if q248 = true then some (.inl false) else scutagelaw13_VintagePlays.j2 rec52 v41 y228.f_l y238.V)
def scutagelaw13_VintagePlays.j7 (rec52 : (List api_Vintage × List api_Vintage × Int) → Option (Bool ⊕ Unit)) (v41 : Int) (y489 : vintage_Losses) (y505 : scutageref09_Losses) (q606 : Bool) : Option (Bool ⊕ Unit) := (if q606 = true then some (.inl false) else scutagelaw13_VintagePlays.j2 rec52 v41 y489.f_l y505.V)
def scutagelaw13_VintagePlays.j9 (rec52 : (List api_Vintage × List api_Vintage × Int) → Option (Bool ⊕ Unit)) (v41 : Int) (xs972 : List api_Vintage) (xs976 : List api_Vintage) (q980 : Bool) : Option (Bool ⊕ Unit) := (if q980 = true then some (.inl false) else scutagelaw13_VintagePlays.j2 rec52 v41 xs972 xs976)
def scutagelaw13_VintagePlays.j8 (rec52 : (List api_Vintage × List api_Vintage × Int) → Option (Bool ⊕ Unit)) (v41 : Int) (xs972 : List api_Vintage) (xs976 : List api_Vintage) (q977 : Bool) : Option (Bool ⊕ Unit) := (if q977 = true then some (.inl false) else ((vintage_Losses_Rows (⟨xs972⟩ : vintage_Losses)).bind fun y984 => ((scutagekeep_Same_api_Vintage y984 xs976).bind fun y993 => (if (!y993) = true then scutagelaw13_VintagePlays.j9 rec52 v41 xs972 xs976 true else ((vintage_Losses_Left (⟨xs972⟩ : vintage_Losses)).bind fun y1094 => ((scutageref09_Losses_Left (⟨xs976⟩ : scutageref09_Losses)).bind fun y1100 => scutagelaw13_VintagePlays.j9 rec52 v41 xs972 xs976 (y1094 != y1100)))))))
def scutagelaw13_VintagePlays.j10 (rec951 : (Int × List Int) → Option (List Int)) (i944 : Int) (xs1239 : List Int) : Option (List Int) := rec951 (i944 + 1, xs1239)
def scutagelaw13_VintagePlays.j11 (i944 : Int) (xs939 : List Int) (xs40 : List api_Vintage) (rec951 : (Int × List Int) → Option (List Int)) (q1241 : Bool) : Option (List Int) := (if q1241 = true then (gd ((0 : Int) ≤ i944 ∧ i944 < (xs939.length : Int)) (gd ((0 : Int) ≤ i944 ∧ i944 < (xs40.length : Int)) ((scutagekeep_Within (rd xs939 i944) (w64 ((rd xs40 i944).Left + 1))).bind fun y1253 => scutagelaw13_VintagePlays.j10 rec951 i944 (xs939.set (Int.toNat i944) y1253)))) else scutagelaw13_VintagePlays.j10 rec951 i944 xs939)
def scutagelaw13_VintagePlays.l2 (xs40 : List api_Vintage) (l_ : List scutagelaw13_Act) (v41 : Int) : List Int → (Int × List Int) → Option (List Int)
  | [], (i944, xs939) => some xs939
  | y949 :: ys948, (i944, xs939) => (if (decide (i944 < (xs40.length : Int))) = true then scutagelaw13_VintagePlays.j11 i944 xs939 xs40 (scutagelaw13_VintagePlays.l2 xs40 l_ v41 ys948) (Int.tmod ((rd l_ v41).f_N) 5 != 0) else scutagelaw13_VintagePlays.j11 i944 xs939 xs40 (scutagelaw13_VintagePlays.l2 xs40 l_ v41 ys948) false)
def scutagelaw13_VintagePlays.j5 (xs35 : List api_Vintage) (v213 : Int) (v214 : Int) (v215 : Int) (xs40 : List api_Vintage) (rec52 : (List api_Vintage × List api_Vintage × Int) → Option (Bool ⊕ Unit)) (v41 : Int) (y218 : Int) (l_ : List scutagelaw13_Act) (q224 : Bool) : Option (Bool ⊕ Unit) := (if q224 = true then ((vintage_Losses_Add (⟨xs35⟩ : vintage_Losses) v213 v214 v215).bind fun (y227, y228) => ((scutageref09_Losses_Add (⟨xs40⟩ : scutageref09_Losses) v213 v214 v215).bind fun (y237, y238) => (if (y227 != y237) = true then some (.inl false) else ((vintage_Losses_Rows (⟨y228.f_l⟩ : vintage_Losses)).bind fun y252 => ((scutagekeep_Same_api_Vintage y252 y238.V).bind fun y261 => (if (!y261) = true then scutagelaw13_VintagePlays.j6 rec52 v41 y228 y238 true else ((vintage_Losses_Left (⟨y228.f_l⟩ : vintage_Losses)).bind fun y362 => ((scutageref09_Losses_Left (⟨y238.V⟩ : scutageref09_Losses)).bind fun y368 => scutagelaw13_VintagePlays.j6 rec52 v41 y228 y238 (y362 != y368))))))))) else (if (y218 == 4) = true then ((scutagekeep_Within ((rd l_ v41).Life) 12).bind fun y482 => ((vintage_Losses_Expire (⟨xs35⟩ : vintage_Losses) y482).bind fun (y488, y489) => ((scutagekeep_Within ((rd l_ v41).Life) 12).bind fun y498 => ((scutageref09_Losses_Expire (⟨xs40⟩ : scutageref09_Losses) y498).bind fun (y504, y505) => (if (y488 != y504) = true then some (.inl false) else ((vintage_Losses_Rows (⟨y489.f_l⟩ : vintage_Losses)).bind fun y610 => ((scutagekeep_Same_api_Vintage y610 y505.V).bind fun y619 => (if (!y619) = true then scutagelaw13_VintagePlays.j7 rec52 v41 y489 y505 true else ((vintage_Losses_Left (⟨y489.f_l⟩ : vintage_Losses)).bind fun y720 => ((scutageref09_Losses_Left (⟨y505.V⟩ : scutageref09_Losses)).bind fun y726 => scutagelaw13_VintagePlays.j7 rec52 v41 y489 y505 (y720 != y726))))))))))) else ((scutagekeep_Within ((rd l_ v41).f_N) 2).bind fun y839 => ((scutagekeep_Cut_int ((rd l_ v41).Used) (w64 ((xs40.length : Int) + y839))).bind fun y845 => ((scutagelaw13_VintagePlays.l2 xs40 l_ v41 y845 (0, y845)).bind fun xs939 => ((scutagekeep_Copy_int xs939).bind fun y960 => ((vintage_Losses_Take (⟨xs35⟩ : vintage_Losses) xs939).bind fun (y1212, y1213) => ((scutageref09_Losses_Take (⟨xs40⟩ : scutageref09_Losses) xs939).bind fun (y1222, y1223) => (if (y1212 != y1222) = true then scutagelaw13_VintagePlays.j8 rec52 v41 y1213.f_l y1223.V true else ((scutagekeep_Same_int xs939 y960).bind fun y1233 => scutagelaw13_VintagePlays.j8 rec52 v41 y1213.f_l y1223.V (!y1233)))))))))))
def scutagelaw13_VintagePlays.j4 (l_ : List scutagelaw13_Act) (v41 : Int) (xs35 : List api_Vintage) (v213 : Int) (v214 : Int) (v215 : Int) (xs40 : List api_Vintage) (rec52 : (List api_Vintage × List api_Vintage × Int) → Option (Bool ⊕ Unit)) : Option (Bool ⊕ Unit) := ((scutagekeep_Within ((rd l_ v41).Do) 7).bind fun y218 => (if (y218 == 0) = true then scutagelaw13_VintagePlays.j5 xs35 v213 v214 v215 xs40 rec52 v41 y218 l_ (y218 == 0) else (if (y218 == 1) = true then scutagelaw13_VintagePlays.j5 xs35 v213 v214 v215 xs40 rec52 v41 y218 l_ (y218 == 1) else (if (y218 == 2) = true then scutagelaw13_VintagePlays.j5 xs35 v213 v214 v215 xs40 rec52 v41 y218 l_ (y218 == 2) else scutagelaw13_VintagePlays.j5 xs35 v213 v214 v215 xs40 rec52 v41 y218 l_ (y218 == 3)))))
def scutagelaw13_VintagePlays.j3 (v41 : Int) (xs35 : List api_Vintage) (l_ : List scutagelaw13_Act) (xs40 : List api_Vintage) (rec52 : (List api_Vintage × List api_Vintage × Int) → Option (Bool ⊕ Unit)) (v213 : Int) (v214 : Int) (v215 : Int) : Option (Bool ⊕ Unit) := (if (v41 == 9) = true then ((vintage_Losses_Clone (⟨xs35⟩ : vintage_Losses)).bind fun y1380 => ((vintage_Losses_Add (⟨y1380.f_l⟩ : vintage_Losses) 1 2 5).bind fun (y1390, y1391) => ((vintage_Losses_Expire (⟨y1391.f_l⟩ : vintage_Losses) 50).bind fun (y1400, y1401) => scutagelaw13_VintagePlays.j4 l_ v41 xs35 v213 v214 v215 xs40 rec52))) else scutagelaw13_VintagePlays.j4 l_ v41 xs35 v213 v214 v215 xs40 rec52)
def scutagelaw13_VintagePlays.j1 (v41 : Int) (l_ : List scutagelaw13_Act) (xs35 : List api_Vintage) (xs40 : List api_Vintage) (rec52 : (List api_Vintage × List api_Vintage × Int) → Option (Bool ⊕ Unit)) (q54 : Bool) : Option (Bool ⊕ Unit) := (if q54 = true then (gd ((0 : Int) ≤ v41 ∧ v41 < (l_.length : Int)) ((scutagekeep_Within ((rd l_ v41).Origin) 8).bind fun y76 => ((scutagekeep_Within ((rd l_ v41).Origin) 8).bind fun y82 => ((scutagekeep_Within ((rd l_ v41).Life) 6).bind fun y88 => ((scutageplay_Amount ((rd l_ v41).f_N)).bind fun y94 => (if (Int.tmod ((rd l_ v41).Do) 11 == 10) = true then scutagelaw13_VintagePlays.j3 v41 xs35 l_ xs40 rec52 ((rd l_ v41).Origin) ((rd l_ v41).Life) ((rd l_ v41).f_N) else scutagelaw13_VintagePlays.j3 v41 xs35 l_ xs40 rec52 y76 (w64 (y82 + y88)) (mx y94 1))))))) else some (.inr ()))
def scutagelaw13_VintagePlays.l1 (l_ : List scutagelaw13_Act) : Nat → (List api_Vintage × List api_Vintage × Int) → Option (Bool ⊕ Unit)
  | 0, _ => none
  | fuel51 + 1, (xs35, xs40, v41) => (if (decide (v41 < (l_.length : Int))) = true then scutagelaw13_VintagePlays.j1 v41 l_ xs35 xs40 (scutagelaw13_VintagePlays.l1 l_ fuel51) (decide (v41 < 24)) else scutagelaw13_VintagePlays.j1 v41 l_ xs35 xs40 (scutagelaw13_VintagePlays.l1 l_ fuel51) false)
def scutagelaw13_VintagePlays (l_ : List scutagelaw13_Act) : Option Bool := ((vintage_New).bind fun y9 => ((scutagelaw13_VintagePlays.l1 l_ FUEL (y9.f_l, ([] : List api_Vintage), 0)).bind fun tt => match tt with | .inl rr => some rr | .inr _ => ((scutagelaw13_wakes).bind fun y1461 => some y1461)))

end Go.Proofs.Ytcmhekibcbpajaa
