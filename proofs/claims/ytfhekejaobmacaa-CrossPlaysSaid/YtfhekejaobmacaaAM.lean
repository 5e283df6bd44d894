/- What the functions come to: printed out of the translation by gen.py. -/
import Derived.Test.YtfhekejaobmacaaCore11
set_option linter.unusedVariables false
set_option linter.unusedSimpArgs false
set_option maxRecDepth 100000
namespace Go.Proofs.Ytfhekejaobmacaa
open Go Go.RowKit

structure scutagelaw24_Act where
  Seller : Int
  Buyer : Int
  f_N : Int
  deriving Inhabited, DecidableEq
structure cross_Row where
  Seller : ByteArray
  Buyer : ByteArray
  Amount : Int
  deriving Inhabited, DecidableEq
structure cross_Cross where
  f_l : List cross_Row
  deriving Inhabited, DecidableEq
structure scutageref19_Pair where
  Seller : ByteArray
  Buyer : ByteArray
  Amount : Int
  deriving Inhabited, DecidableEq
structure scutageref19_Cross where
  f_R : List scutageref19_Pair
  deriving Inhabited, DecidableEq

def cross_New  : Option cross_Cross := some (⟨([] : List cross_Row)⟩ : cross_Cross)

def scutagekeep_Within.j1 (v3 : Int) : Option Int := some v3
def scutagekeep_Within (v_ : Int) (n_ : Int) : Option Int := (if (decide (n_ < 1)) = true then some 0 else (gd (n_ ≠ (0 : Int)) (if (decide (Int.tmod v_ n_ < 0)) = true then scutagekeep_Within.j1 (w64 (Int.tmod v_ n_ + n_)) else scutagekeep_Within.j1 (Int.tmod v_ n_))))

def scutageplay_Amount (n_ : Int) : Option Int := (if (Int.tmod n_ 23 == 20) = true then ((scutagekeep_Within (w64 (Int.tdiv n_ 23)) 5).bind fun y2 => some (w64 (w64 (100000000000 - y2) + 2))) else (if (Int.tmod n_ 23 == 21) = true then ((scutagekeep_Within (w64 (Int.tdiv n_ 23)) 5).bind fun y9 => some (w64 (w64 ((-100000000000) + y9) - 2))) else (if (Int.tmod n_ 23 == 22) = true then some n_ else (if (Int.tmod n_ 23 == 19) = true then ((scutagekeep_Within (w64 (Int.tdiv n_ 23)) 200000000001).bind fun y17 => some (w64 (y17 - 100000000000))) else ((scutagekeep_Within n_ 4001).bind fun y23 => some (w64 (y23 - 2000)))))))

def rate_Money.j1 (q1 : Bool) : Option Bool := some q1
def rate_Money (n_ : Int) : Option Bool := (if (decide (n_ ≥ (-100000000000))) = true then rate_Money.j1 (decide (n_ ≤ 100000000000)) else rate_Money.j1 false)

def slices_IndexFunc_cross_Row.l1 (f_ : cross_Row → Option Bool) : List cross_Row → Int → Option (Int ⊕ Unit)
  | [], i17 => some (.inr ())
  | y22 :: ys21, i17 => ((f_ y22).bind fun y34 => (if y34 = true then some (.inl i17) else (slices_IndexFunc_cross_Row.l1 f_ ys21) (i17 + 1)))
def slices_IndexFunc_cross_Row (s_ : List cross_Row) (f_ : cross_Row → Option Bool) : Option Int := ((slices_IndexFunc_cross_Row.l1 f_ s_ 0).bind fun tt => match tt with | .inl rr => some rr | .inr _ => some (-1))

def cross_Cross_Add_c1.j1 (q10 : Bool) : Option Bool := some q10
def cross_Cross_Add_c1 (r_ : cross_Row) (cap1 : ByteArray) (cap4 : ByteArray) : Option Bool := (if ((r_.Seller).toList == (cap1).toList) = true then cross_Cross_Add_c1.j1 ((r_.Buyer).toList == (cap4).toList) else cross_Cross_Add_c1.j1 false)

def slices_Clone_cross_Row (s_ : List cross_Row) : Option (List cross_Row) := (gd (fit (([] : List cross_Row).length) s_.length) (some (([] : List cross_Row) ++ s_)))

def cross_Cross_Rows (c_ : cross_Cross) : Option (List cross_Row) := ((slices_Clone_cross_Row c_.f_l).bind fun y9 => some y9)

def slices_DeleteFunc_cross_Row.j1 (rec33 : (List cross_Row × Int × Int) → Option (Int × List cross_Row)) (v22 : Int) (xs36 : List cross_Row) (v37 : Int) : Option (Int × List cross_Row) := rec33 (xs36, v37, w64 (v22 + 1))
def slices_DeleteFunc_cross_Row.l1 (s_ : List cross_Row) (del : cross_Row → Option Bool) : Nat → (List cross_Row × Int × Int) → Option (Int × List cross_Row)
  | 0, _ => none
  | fuel32 + 1, (xs20, v21, v22) => (if (decide (v22 < (s_.length : Int))) = true then (gd ((0 : Int) ≤ v22 ∧ v22 < (xs20.length : Int)) ((del (rd xs20 v22)).bind fun y48 => (if (!y48) = true then (gd ((0 : Int) ≤ v21 ∧ v21 < (xs20.length : Int)) (slices_DeleteFunc_cross_Row.j1 (slices_DeleteFunc_cross_Row.l1 s_ del fuel32) v22 (xs20.set (Int.toNat v21) (rd xs20 v22)) (w64 (v21 + 1)))) else slices_DeleteFunc_cross_Row.j1 (slices_DeleteFunc_cross_Row.l1 s_ del fuel32) v22 xs20 v21))) else some (v21, xs20))
def slices_DeleteFunc_cross_Row (s_ : List cross_Row) (del : cross_Row → Option Bool) : Option (List cross_Row) := ((slices_IndexFunc_cross_Row s_ del).bind fun y10 => (if (y10 == (-1)) = true then some s_ else ((slices_DeleteFunc_cross_Row.l1 s_ del FUEL (s_, y10, w64 (y10 + 1))).bind fun (v21, xs20) => (gd (0 ≤ v21 ∧ v21 ≤ (xs20.length : Int) ∧ (xs20.length : Int) ≤ (xs20.length : Int)) (gd (0 ≤ (0 : Int) ∧ (0 : Int) ≤ v21 ∧ v21 ≤ ((clr xs20 v21 (⟨(⟨#[]⟩ : ByteArray), (⟨#[]⟩ : ByteArray), 0⟩ : cross_Row)).length : Int)) (some (sb (clr xs20 v21 (⟨(⟨#[]⟩ : ByteArray), (⟨#[]⟩ : ByteArray), 0⟩ : cross_Row)) (0 : Int) v21)))))))

def math_bits_Len64 (x_ : Int) : Option Int := (if (decide (x_ ≥ 4294967296)) = true then none else (if (decide (x_ ≥ 65536)) = true then none else (if (decide (x_ ≥ 256)) = true then none else (gd ((0 : Int) ≤ IntKind.u8.wrap x_ ∧ IntKind.u8.wrap x_ < ((⟨#[0, 1, 2, 2, 3, 3, 3, 3, 4, 4, 4, 4, 4, 4, 4, 4, 5, 5, 5, 5, 5, 5, 5, 5, 5, 5, 5, 5, 5, 5, 5, 5, 6, 6, 6, 6, 6, 6, 6, 6, 6, 6, 6, 6, 6, 6, 6, 6, 6, 6, 6, 6, 6, 6, 6, 6, 6, 6, 6, 6, 6, 6, 6, 6, 7, 7, 7, 7, 7, 7, 7, 7, 7, 7, 7, 7, 7, 7, 7, 7, 7, 7, 7, 7, 7, 7, 7, 7, 7, 7, 7, 7, 7, 7, 7, 7, 7, 7, 7, 7, 7, 7, 7, 7, 7, 7, 7, 7, 7, 7, 7, 7, 7, 7, 7, 7, 7, 7, 7, 7, 7, 7, 7, 7, 7, 7, 7, 7, 8, 8, 8, 8, 8, 8, 8, 8, 8, 8, 8, 8, 8, 8, 8, 8, 8, 8, 8, 8, 8, 8, 8, 8, 8, 8, 8, 8, 8, 8, 8, 8, 8, 8, 8, 8, 8, 8, 8, 8, 8, 8, 8, 8, 8, 8, 8, 8, 8, 8, 8, 8, 8, 8, 8, 8, 8, 8, 8, 8, 8, 8, 8, 8, 8, 8, 8, 8, 8, 8, 8, 8, 8, 8, 8, 8, 8, 8, 8, 8, 8, 8, 8, 8, 8, 8, 8, 8, 8, 8, 8, 8, 8, 8, 8, 8, 8, 8, 8, 8, 8, 8, 8, 8, 8, 8, 8, 8, 8, 8, 8, 8, 8, 8, 8, 8, 8, 8, 8, 8, 8, 8, 8, 8, 8, 8, 8, 8]⟩ : ByteArray).size : Int)) (some (w64 (0 + w64 (byteAt (⟨#[0, 1, 2, 2, 3, 3, 3, 3, 4, 4, 4, 4, 4, 4, 4, 4, 5, 5, 5, 5, 5, 5, 5, 5, 5, 5, 5, 5, 5, 5, 5, 5, 6, 6, 6, 6, 6, 6, 6, 6, 6, 6, 6, 6, 6, 6, 6, 6, 6, 6, 6, 6, 6, 6, 6, 6, 6, 6, 6, 6, 6, 6, 6, 6, 7, 7, 7, 7, 7, 7, 7, 7, 7, 7, 7, 7, 7, 7, 7, 7, 7, 7, 7, 7, 7, 7, 7, 7, 7, 7, 7, 7, 7, 7, 7, 7, 7, 7, 7, 7, 7, 7, 7, 7, 7, 7, 7, 7, 7, 7, 7, 7, 7, 7, 7, 7, 7, 7, 7, 7, 7, 7, 7, 7, 7, 7, 7, 7, 8, 8, 8, 8, 8, 8, 8, 8, 8, 8, 8, 8, 8, 8, 8, 8, 8, 8, 8, 8, 8, 8, 8, 8, 8, 8, 8, 8, 8, 8, 8, 8, 8, 8, 8, 8, 8, 8, 8, 8, 8, 8, 8, 8, 8, 8, 8, 8, 8, 8, 8, 8, 8, 8, 8, 8, 8, 8, 8, 8, 8, 8, 8, 8, 8, 8, 8, 8, 8, 8, 8, 8, 8, 8, 8, 8, 8, 8, 8, 8, 8, 8, 8, 8, 8, 8, 8, 8, 8, 8, 8, 8, 8, 8, 8, 8, 8, 8, 8, 8, 8, 8, 8, 8, 8, 8, 8, 8, 8, 8, 8, 8, 8, 8, 8, 8, 8, 8, 8, 8, 8, 8, 8, 8, 8, 8, 8, 8]⟩ : ByteArray) (IntKind.u8.wrap x_)))))))))

def math_bits_Len (x_ : Int) : Option Int := ((math_bits_Len64 x_).bind fun y1 => some y1)

def slices_insertionSortCmpFunc_cross_Row.j1 (v30 : Int) (xs29 : List cross_Row) (rec41 : (List cross_Row × Int) → Option (List cross_Row)) (q43 : Bool) : Option (List cross_Row) := (if q43 = true then (gd ((0 : Int) ≤ w64 (v30 - 1) ∧ w64 (v30 - 1) < (xs29.length : Int)) (gd ((0 : Int) ≤ v30 ∧ v30 < (xs29.length : Int)) (gd ((0 : Int) ≤ w64 (v30 - 1) ∧ w64 (v30 - 1) < ((xs29.set (Int.toNat v30) (rd xs29 (w64 (v30 - 1)))).length : Int)) (rec41 ((xs29.set (Int.toNat v30) (rd xs29 (w64 (v30 - 1)))).set (Int.toNat (w64 (v30 - 1))) (rd xs29 v30), w64 (v30 - 1)))))) else some xs29)
def slices_insertionSortCmpFunc_cross_Row.l2 (a_ : Int) (cmp : (cross_Row × cross_Row) → Option Int) : Nat → (List cross_Row × Int) → Option (List cross_Row)
  | 0, _ => none
  | fuel40 + 1, (xs29, v30) => (if (decide (v30 > a_)) = true then (gd ((0 : Int) ≤ v30 ∧ v30 < (xs29.length : Int)) (gd ((0 : Int) ≤ w64 (v30 - 1) ∧ w64 (v30 - 1) < (xs29.length : Int)) ((cmp ((rd xs29 v30), (rd xs29 (w64 (v30 - 1))))).bind fun y185 => slices_insertionSortCmpFunc_cross_Row.j1 v30 xs29 (slices_insertionSortCmpFunc_cross_Row.l2 a_ cmp fuel40) (decide (y185 < 0))))) else slices_insertionSortCmpFunc_cross_Row.j1 v30 xs29 (slices_insertionSortCmpFunc_cross_Row.l2 a_ cmp fuel40) false)
def slices_insertionSortCmpFunc_cross_Row.l1 (b_ : Int) (a_ : Int) (cmp : (cross_Row × cross_Row) → Option Int) : Nat → (List cross_Row × Int) → Option (List cross_Row)
  | 0, _ => none
  | fuel23 + 1, (xs12, v13) => (if (decide (v13 < b_)) = true then ((slices_insertionSortCmpFunc_cross_Row.l2 a_ cmp FUEL (xs12, v13)).bind fun xs29 => (slices_insertionSortCmpFunc_cross_Row.l1 b_ a_ cmp fuel23) (xs29, w64 (v13 + 1))) else some xs12)
def slices_insertionSortCmpFunc_cross_Row (data : List cross_Row) (a_ : Int) (b_ : Int) (cmp : (cross_Row × cross_Row) → Option Int) : Option (List cross_Row) := ((slices_insertionSortCmpFunc_cross_Row.l1 b_ a_ cmp FUEL (data, w64 (a_ + 1))).bind fun xs12 => some xs12)

def slices_pdqsortCmpFunc_cross_Row.l1 (b_ : Int) (a_ : Int) (data : List cross_Row) (cmp : (cross_Row × cross_Row) → Option Int) : Nat → Unit → Option ((List cross_Row) ⊕ Unit)
  | 0, _ => none
  | fuel19 + 1, () => (if (decide (w64 (b_ - a_) ≤ 12)) = true then ((slices_insertionSortCmpFunc_cross_Row data a_ b_ cmp).bind fun y23 => some (.inl y23)) else none)
def slices_pdqsortCmpFunc_cross_Row (data : List cross_Row) (a_ : Int) (b_ : Int) (limit : Int) (cmp : (cross_Row × cross_Row) → Option Int) : Option (List cross_Row) := ((slices_pdqsortCmpFunc_cross_Row.l1 b_ a_ data cmp FUEL ()).bind fun tt => match tt with | .inl rr => some rr | .inr _ => none)

def slices_SortFunc_cross_Row (x_ : List cross_Row) (cmp : (cross_Row × cross_Row) → Option Int) : Option (List cross_Row) := ((math_bits_Len (IntKind.u64.wrap (x_.length : Int))).bind fun y10 => ((slices_pdqsortCmpFunc_cross_Row x_ 0 (x_.length : Int) y10 cmp).bind fun y16 => some y16))

def internal_bytealg_CompareString (a_ : ByteArray) (b_ : ByteArray) : Option Int := some (scmp a_ b_)

def strings_Compare (a_ : ByteArray) (b_ : ByteArray) : Option Int := ((internal_bytealg_CompareString a_ b_).bind fun y1 => some y1)

def cmp_Or_int.l1  : List Int → Int → Option (Int ⊕ Unit)
  | [], i11 => some (.inr ())
  | y16 :: ys15, i11 => (if (y16 != 0) = true then some (.inl y16) else (cmp_Or_int.l1 ys15) (i11 + 1))
def cmp_Or_int (vals : List Int) : Option Int := ((cmp_Or_int.l1  vals 0).bind fun tt => match tt with | .inl rr => some rr | .inr _ => some 0)

def cross_Cross_Add_c2 (a_ : cross_Row) (b_ : cross_Row) : Option Int := ((strings_Compare a_.Seller b_.Seller).bind fun y8 => ((strings_Compare a_.Buyer b_.Buyer).bind fun y14 => ((cmp_Or_int [y8, y14]).bind fun y23 => some y23)))

def cross_Cross_Add.j4 (c_ : cross_Cross) (xs39 : List cross_Row) : Option (Int × cross_Cross) := (if (decide ((xs39.length : Int) > 8)) = true then some (5, (⟨c_.f_l⟩ : cross_Cross)) else ((slices_SortFunc_cross_Row xs39 (fun x => cross_Cross_Add_c2 x.1 x.2)).bind fun y42 => some (0, (⟨y42⟩ : cross_Cross))))
def cross_Cross_Add.j3 (c_ : cross_Cross) (seller : ByteArray) (buyer : ByteArray) (v13 : Int) (n_ : Int) (q15 : Bool) : Option (Int × cross_Cross) := (if q15 = true then some (6, (⟨c_.f_l⟩ : cross_Cross)) else ((cross_Cross_Rows (⟨c_.f_l⟩ : cross_Cross)).bind fun y18 => ((slices_DeleteFunc_cross_Row y18 (fun x => cross_Cross_Add_c1 x seller buyer)).bind fun y27 => (if (w64 (v13 + n_) != 0) = true then (gd (fit y27.length ([(⟨seller, buyer, w64 (v13 + n_)⟩ : cross_Row)].length)) (cross_Cross_Add.j4 c_ (y27 ++ [(⟨seller, buyer, w64 (v13 + n_)⟩ : cross_Row)]))) else cross_Cross_Add.j4 c_ y27))))
def cross_Cross_Add.j2 (n_ : Int) (c_ : cross_Cross) (seller : ByteArray) (buyer : ByteArray) (v13 : Int) : Option (Int × cross_Cross) := (if (decide (w64 (v13 + n_) < 0)) = true then cross_Cross_Add.j3 c_ seller buyer v13 n_ true else ((rate_Money (w64 (v13 + n_))).bind fun y60 => cross_Cross_Add.j3 c_ seller buyer v13 n_ (!y60)))
def cross_Cross_Add.j1 (c_ : cross_Cross) (seller : ByteArray) (buyer : ByteArray) (n_ : Int) (q10 : Bool) : Option (Int × cross_Cross) := (if q10 = true then some (1, (⟨c_.f_l⟩ : cross_Cross)) else ((slices_IndexFunc_cross_Row c_.f_l (fun x => cross_Cross_Add_c1 x seller buyer)).bind fun y66 => (if (decide (y66 ≥ 0)) = true then (gd ((0 : Int) ≤ y66 ∧ y66 < (c_.f_l.length : Int)) (cross_Cross_Add.j2 n_ c_ seller buyer ((rd c_.f_l y66).Amount))) else cross_Cross_Add.j2 n_ c_ seller buyer 0)))
def cross_Cross_Add (c_ : cross_Cross) (seller : ByteArray) (buyer : ByteArray) (n_ : Int) : Option (Int × cross_Cross) := (if ((seller).toList == ((⟨#[]⟩ : ByteArray)).toList) = true then cross_Cross_Add.j1 c_ seller buyer n_ true else (if ((buyer).toList == ((⟨#[]⟩ : ByteArray)).toList) = true then cross_Cross_Add.j1 c_ seller buyer n_ true else (if ((seller).toList == (buyer).toList) = true then cross_Cross_Add.j1 c_ seller buyer n_ true else ((rate_Money n_).bind fun y80 => cross_Cross_Add.j1 c_ seller buyer n_ (!y80)))))

def scutageref01_Money.j1 (q1 : Bool) : Option Bool := some q1
def scutageref01_Money (n_ : Int) : Option Bool := (if (decide (n_ ≥ (-100000000000))) = true then scutageref01_Money.j1 (decide (n_ ≤ 100000000000)) else scutageref01_Money.j1 false)

def scutageref19_Cross_Add.j3 (c_ : scutageref19_Cross) (xs67 : List scutageref19_Pair) : Option (Int × scutageref19_Cross) := (if (decide ((xs67.length : Int) > 8)) = true then some (5, (⟨c_.f_R⟩ : scutageref19_Cross)) else some (0, (⟨xs67⟩ : scutageref19_Cross)))
def scutageref19_Cross_Add.j4 (rec55 : (Int × List scutageref19_Pair × Bool) → Option (Bool × List scutageref19_Pair)) (i48 : Int) (xs84 : List scutageref19_Pair) (q85 : Bool) : Option (Bool × List scutageref19_Pair) := rec55 (i48 + 1, xs84, q85)
def scutageref19_Cross_Add.j6 (y53 : scutageref19_Pair) (rec55 : (Int × List scutageref19_Pair × Bool) → Option (Bool × List scutageref19_Pair)) (i48 : Int) (xs99 : List scutageref19_Pair) (q100 : Bool) : Option (Bool × List scutageref19_Pair) := (gd (fit xs99.length ([y53].length)) (scutageref19_Cross_Add.j4 rec55 i48 (xs99 ++ [y53]) q100))
def scutageref19_Cross_Add.j7 (xs42 : List scutageref19_Pair) (seller : ByteArray) (buyer : ByteArray) (n_ : Int) (v8 : Int) (y53 : scutageref19_Pair) (rec55 : (Int × List scutageref19_Pair × Bool) → Option (Bool × List scutageref19_Pair)) (i48 : Int) (q43 : Bool) (q110 : Bool) : Option (Bool × List scutageref19_Pair) := (if q110 = true then (gd (fit xs42.length ([(⟨seller, buyer, w64 (n_ + v8)⟩ : scutageref19_Pair)].length)) (scutageref19_Cross_Add.j6 y53 rec55 i48 (xs42 ++ [(⟨seller, buyer, w64 (n_ + v8)⟩ : scutageref19_Pair)]) true)) else scutageref19_Cross_Add.j6 y53 rec55 i48 xs42 q43)
def scutageref19_Cross_Add.j5 (rec55 : (Int × List scutageref19_Pair × Bool) → Option (Bool × List scutageref19_Pair)) (i48 : Int) (xs42 : List scutageref19_Pair) (q43 : Bool) (y53 : scutageref19_Pair) (seller : ByteArray) (buyer : ByteArray) (n_ : Int) (v8 : Int) (q93 : Bool) : Option (Bool × List scutageref19_Pair) := (if q93 = true then scutageref19_Cross_Add.j4 rec55 i48 xs42 q43 else (if (!q43) = true then (if (!(Op.bytesLess (y53.Seller).toList (seller).toList || (y53.Seller).toList == (seller).toList)) = true then scutageref19_Cross_Add.j7 xs42 seller buyer n_ v8 y53 rec55 i48 q43 true else (if ((y53.Seller).toList == (seller).toList) = true then scutageref19_Cross_Add.j7 xs42 seller buyer n_ v8 y53 rec55 i48 q43 (!(Op.bytesLess (y53.Buyer).toList (buyer).toList || (y53.Buyer).toList == (buyer).toList)) else scutageref19_Cross_Add.j7 xs42 seller buyer n_ v8 y53 rec55 i48 q43 false)) else scutageref19_Cross_Add.j7 xs42 seller buyer n_ v8 y53 rec55 i48 q43 false))
def scutageref19_Cross_Add.l2 (seller : ByteArray) (buyer : ByteArray) (n_ : Int) (v8 : Int) : List scutageref19_Pair → (Int × List scutageref19_Pair × Bool) → Option (Bool × List scutageref19_Pair)
  | [], (i48, xs42, q43) => some (q43, xs42)
  | y53 :: ys52, (i48, xs42, q43) => (if ((y53.Seller).toList == (seller).toList) = true then scutageref19_Cross_Add.j5 (scutageref19_Cross_Add.l2 seller buyer n_ v8 ys52) i48 xs42 q43 y53 seller buyer n_ v8 ((y53.Buyer).toList == (buyer).toList) else scutageref19_Cross_Add.j5 (scutageref19_Cross_Add.l2 seller buyer n_ v8 ys52) i48 xs42 q43 y53 seller buyer n_ v8 false)
def scutageref19_Cross_Add.j2 (c_ : scutageref19_Cross) (seller : ByteArray) (buyer : ByteArray) (n_ : Int) (v8 : Int) (q29 : Bool) : Option (Int × scutageref19_Cross) := (if q29 = true then some (6, (⟨c_.f_R⟩ : scutageref19_Cross)) else ((scutageref19_Cross_Add.l2 seller buyer n_ v8 c_.f_R (0, ([] : List scutageref19_Pair), w64 (n_ + v8) == 0)).bind fun (q43, xs42) => (if (!q43) = true then (gd (fit xs42.length ([(⟨seller, buyer, w64 (n_ + v8)⟩ : scutageref19_Pair)].length)) (scutageref19_Cross_Add.j3 c_ (xs42 ++ [(⟨seller, buyer, w64 (n_ + v8)⟩ : scutageref19_Pair)]))) else scutageref19_Cross_Add.j3 c_ xs42)))
def scutageref19_Cross_Add.j8 (rec20 : (Int × Int) → Option Int) (i13 : Int) (v132 : Int) : Option Int := rec20 (i13 + 1, v132)
def scutageref19_Cross_Add.j9 (rec20 : (Int × Int) → Option Int) (i13 : Int) (y18 : scutageref19_Pair) (v8 : Int) (q140 : Bool) : Option Int := (if q140 = true then scutageref19_Cross_Add.j8 rec20 i13 y18.Amount else scutageref19_Cross_Add.j8 rec20 i13 v8)
def scutageref19_Cross_Add.l1 (seller : ByteArray) (buyer : ByteArray) : List scutageref19_Pair → (Int × Int) → Option Int
  | [], (i13, v8) => some v8
  | y18 :: ys17, (i13, v8) => (if ((y18.Seller).toList == (seller).toList) = true then scutageref19_Cross_Add.j9 (scutageref19_Cross_Add.l1 seller buyer ys17) i13 y18 v8 ((y18.Buyer).toList == (buyer).toList) else scutageref19_Cross_Add.j9 (scutageref19_Cross_Add.l1 seller buyer ys17) i13 y18 v8 false)
def scutageref19_Cross_Add.j1 (c_ : scutageref19_Cross) (seller : ByteArray) (buyer : ByteArray) (n_ : Int) (q4 : Bool) : Option (Int × scutageref19_Cross) := (if q4 = true then some (1, (⟨c_.f_R⟩ : scutageref19_Cross)) else ((scutageref19_Cross_Add.l1 seller buyer c_.f_R (0, 0)).bind fun v8 => (if (decide (w64 (n_ + v8) < 0)) = true then scutageref19_Cross_Add.j2 c_ seller buyer n_ v8 true else ((scutageref01_Money (w64 (n_ + v8))).bind fun y126 => scutageref19_Cross_Add.j2 c_ seller buyer n_ v8 (!y126)))))
def scutageref19_Cross_Add (c_ : scutageref19_Cross) (seller : ByteArray) (buyer : ByteArray) (n_ : Int) : Option (Int × scutageref19_Cross) := (if ((seller).toList == ((⟨#[]⟩ : ByteArray)).toList) = true then scutageref19_Cross_Add.j1 c_ seller buyer n_ true else (if ((buyer).toList == ((⟨#[]⟩ : ByteArray)).toList) = true then scutageref19_Cross_Add.j1 c_ seller buyer n_ true else (if ((seller).toList == (buyer).toList) = true then scutageref19_Cross_Add.j1 c_ seller buyer n_ true else ((scutageref01_Money n_).bind fun y147 => scutageref19_Cross_Add.j1 c_ seller buyer n_ (!y147)))))

def cross_Cross_Clone (c_ : cross_Cross) : Option cross_Cross := ((cross_Cross_Rows (⟨c_.f_l⟩ : cross_Cross)).bind fun y9 => some (⟨y9⟩ : cross_Cross))

def scutageplay_Rate (n_ : Int) : Option Int := (if (Int.tmod n_ 29 == 28) = true then some n_ else ((scutagekeep_Within n_ 10).bind fun y5 => (gd ((0 : Int) ≤ y5 ∧ y5 < (([250000, 300000, 190000, 0, 1000000, 333333, 500000, 1, 125000, 999999] : List Int).length : Int)) (some (rd ([250000, 300000, 190000, 0, 1000000, 333333, 500000, 1, 125000, 999999] : List Int) y5)))))

def rate_Right.j1 (q1 : Bool) : Option Bool := some q1
def rate_Right (rate_ : Int) : Option Bool := (if (decide (rate_ ≥ 0)) = true then rate_Right.j1 (decide (rate_ ≤ 1000000)) else rate_Right.j1 false)

def rate_Of.j1 (n_ : Int) (rate_ : Int) (q1 : Bool) : Option (Int × Bool) := (if q1 = true then some (0, false) else (if (decide (n_ < 0)) = true then some (w64 (Int.tdiv (w64 (w64 (w64 (2 * n_) * rate_) - 1000000)) 2000000), true) else some (w64 (Int.tdiv (w64 (w64 (w64 (2 * n_) * rate_) + 1000000)) 2000000), true)))
def rate_Of (n_ : Int) (rate_ : Int) : Option (Int × Bool) := (if (decide (n_ < (-400000000000))) = true then rate_Of.j1 n_ rate_ true else (if (decide (n_ > 400000000000)) = true then rate_Of.j1 n_ rate_ true else (if (decide (rate_ < 0)) = true then rate_Of.j1 n_ rate_ true else rate_Of.j1 n_ rate_ (decide (rate_ > 10000000)))))

def cross_Asset.j1 (i20 : Int) (rates : List Int) (y25 : cross_Row) (rec27 : (Int × Int) → Option ((Int × Int) ⊕ Int)) (v15 : Int) (q49 : Bool) : Option ((Int × Int) ⊕ Int) := (if q49 = true then some (.inl (0, 1)) else (gd ((0 : Int) ≤ i20 ∧ i20 < (rates.length : Int)) ((rate_Of y25.Amount (rd rates i20)).bind fun (y57, y58) => rec27 (i20 + 1, w64 (v15 + y57)))))
def cross_Asset.l1 (rates : List Int) : List cross_Row → (Int × Int) → Option ((Int × Int) ⊕ Int)
  | [], (i20, v15) => some (.inr v15)
  | y25 :: ys24, (i20, v15) => (gd ((0 : Int) ≤ i20 ∧ i20 < (rates.length : Int)) ((rate_Right (rd rates i20)).bind fun y144 => (if (!y144) = true then cross_Asset.j1 i20 rates y25 (cross_Asset.l1 rates ys24) v15 true else (if (decide (y25.Amount < 0)) = true then cross_Asset.j1 i20 rates y25 (cross_Asset.l1 rates ys24) v15 true else ((rate_Money y25.Amount).bind fun y152 => cross_Asset.j1 i20 rates y25 (cross_Asset.l1 rates ys24) v15 (!y152))))))
def cross_Asset (rows : List cross_Row) (rates : List Int) : Option (Int × Int) := (if ((rates.length : Int) != (rows.length : Int)) = true then some (0, 1) else ((cross_Asset.l1 rates rows (0, 0)).bind fun tt => match tt with | .inl rr => some rr | .inr v15 => ((rate_Money v15).bind fun y36 => (if (!y36) = true then some (0, 6) else some (v15, 0)))))

def scutageref01_Right.j1 (q1 : Bool) : Option Bool := some q1
def scutageref01_Right (r_ : Int) : Option Bool := (if (decide (r_ ≥ 0)) = true then scutageref01_Right.j1 (decide (r_ ≤ 1000000)) else scutageref01_Right.j1 false)

def scutageref01_Of_r1.j2 (v5 : Int) : Option (Int × Bool) := some (v5, true)
def scutageref01_Of_r1.j1 (n_ : Int) (r_ : Int) (q1 : Bool) : Option (Int × Bool) := (if q1 = true then some (0, false) else (if (decide (n_ < 0)) = true then none else (if (decide (w64 (2 * Int.tmod (w64 (n_ * r_)) 1000000) ≥ 1000000)) = true then scutageref01_Of_r1.j2 (w64 (w64 (Int.tdiv (w64 (n_ * r_)) 1000000) + 1)) else scutageref01_Of_r1.j2 (w64 (Int.tdiv (w64 (n_ * r_)) 1000000)))))
def scutageref01_Of_r1 (n_ : Int) (r_ : Int) : Option (Int × Bool) := (if (decide (n_ < (-400000000000))) = true then scutageref01_Of_r1.j1 n_ r_ true else (if (decide (n_ > 400000000000)) = true then scutageref01_Of_r1.j1 n_ r_ true else (if (decide (r_ < 0)) = true then scutageref01_Of_r1.j1 n_ r_ true else scutageref01_Of_r1.j1 n_ r_ (decide (r_ > 10000000)))))

def scutageref01_Of.j2 (v12 : Int) : Option (Int × Bool) := some (v12, true)
def scutageref01_Of.j1 (n_ : Int) (r_ : Int) (q1 : Bool) : Option (Int × Bool) := (if q1 = true then some (0, false) else (if (decide (n_ < 0)) = true then ((scutageref01_Of_r1 (w64 (0 - n_)) r_).bind fun (y5, y6) => some (w64 (0 - y5), true)) else (if (decide (w64 (2 * Int.tmod (w64 (n_ * r_)) 1000000) ≥ 1000000)) = true then scutageref01_Of.j2 (w64 (w64 (Int.tdiv (w64 (n_ * r_)) 1000000) + 1)) else scutageref01_Of.j2 (w64 (Int.tdiv (w64 (n_ * r_)) 1000000)))))
def scutageref01_Of (n_ : Int) (r_ : Int) : Option (Int × Bool) := (if (decide (n_ < (-400000000000))) = true then scutageref01_Of.j1 n_ r_ true else (if (decide (n_ > 400000000000)) = true then scutageref01_Of.j1 n_ r_ true else (if (decide (r_ < 0)) = true then scutageref01_Of.j1 n_ r_ true else scutageref01_Of.j1 n_ r_ (decide (r_ > 10000000)))))

def scutageref01_Part (n_ : Int) (r_ : Int) : Option Int := ((scutageref01_Of n_ r_).bind fun (y1, y2) => some y1)

def scutageref09_Share.j1 (n_ : Int) (r_ : Int) (q1 : Bool) : Option (Int × Int) := (if q1 = true then some (0, 1) else ((scutageref01_Part n_ r_).bind fun y4 => some (y4, 0)))
def scutageref09_Share (n_ : Int) (r_ : Int) : Option (Int × Int) := (if (decide (n_ < 0)) = true then scutageref09_Share.j1 n_ r_ true else (if (decide (n_ > 100000000000)) = true then scutageref09_Share.j1 n_ r_ true else ((scutageref01_Right r_).bind fun y12 => scutageref09_Share.j1 n_ r_ (!y12))))

def scutageref19_Asset.l1 (rates : List Int) : List scutageref19_Pair → (Int × Int) → Option ((Int × Int) ⊕ Int)
  | [], (i20, v15) => some (.inr v15)
  | y25 :: ys24, (i20, v15) => (gd ((0 : Int) ≤ i20 ∧ i20 < (rates.length : Int)) ((scutageref09_Share y25.Amount (rd rates i20)).bind fun (y54, y55) => (if (y55 != 0) = true then some (.inl (0, y55)) else (scutageref19_Asset.l1 rates ys24) (i20 + 1, w64 (v15 + y54)))))
def scutageref19_Asset (rows : List scutageref19_Pair) (rates : List Int) : Option (Int × Int) := (if ((rows.length : Int) != (rates.length : Int)) = true then some (0, 1) else ((scutageref19_Asset.l1 rates rows (0, 0)).bind fun tt => match tt with | .inl rr => some rr | .inr v15 => ((scutageref01_Money v15).bind fun y36 => (if (!y36) = true then some (0, 6) else some (v15, 0)))))

def scutagelaw24_wakes.j2 (q37 : Bool) : Option Bool := some q37
def scutagelaw24_wakes.j1 (xs14 : List cross_Row) (q15 : Bool) : Option Bool := (if q15 = true then some false else ((cross_Cross_Rows (⟨xs14⟩ : cross_Cross)).bind fun y18 => ((cross_Asset y18 ([250000] : List Int)).bind fun (y30, y31) => (if (y31 == 0) = true then scutagelaw24_wakes.j2 (y30 == 25) else scutagelaw24_wakes.j2 false))))
def scutagelaw24_wakes  : Option Bool := ((cross_New).bind fun y1 => ((cross_Cross_Rows (⟨y1.f_l⟩ : cross_Cross)).bind fun y40 => (if ((y40.length : Int) != 0) = true then scutagelaw24_wakes.j1 y1.f_l true else ((cross_Cross_Add (⟨y1.f_l⟩ : cross_Cross) (⟨#[97]⟩ : ByteArray) (⟨#[98]⟩ : ByteArray) 100).bind fun (y50, y51) => scutagelaw24_wakes.j1 y51.f_l (y50 != 0)))))

def scutagelaw24_CrossPlays.j3 (xs42 : List cross_Row) (y74 : Int) (y83 : Int) (v200 : Int) (xs47 : List scutageref19_Pair) (rec59 : (List cross_Row × List scutageref19_Pair × Int) → Option (Bool ⊕ (List cross_Row × List scutageref19_Pair))) (v48 : Int) : Option (Bool ⊕ (List cross_Row × List scutageref19_Pair)) := ((cross_Cross_Add (⟨xs42⟩ : cross_Cross) (rd [(⟨#[97]⟩ : ByteArray), (⟨#[98]⟩ : ByteArray), (⟨#[99]⟩ : ByteArray), (⟨#[100]⟩ : ByteArray), (⟨#[101]⟩ : ByteArray), (⟨#[]⟩ : ByteArray)] (Int.tmod y74 6)) (rd [(⟨#[97]⟩ : ByteArray), (⟨#[98]⟩ : ByteArray), (⟨#[99]⟩ : ByteArray), (⟨#[100]⟩ : ByteArray), (⟨#[101]⟩ : ByteArray), (⟨#[]⟩ : ByteArray)] (Int.tmod y83 6)) v200).bind fun (y203, y204) => ((scutageref19_Cross_Add (⟨xs47⟩ : scutageref19_Cross) (rd [(⟨#[97]⟩ : ByteArray), (⟨#[98]⟩ : ByteArray), (⟨#[99]⟩ : ByteArray), (⟨#[100]⟩ : ByteArray), (⟨#[101]⟩ : ByteArray), (⟨#[]⟩ : ByteArray)] (Int.tmod y74 6)) (rd [(⟨#[97]⟩ : ByteArray), (⟨#[98]⟩ : ByteArray), (⟨#[99]⟩ : ByteArray), (⟨#[100]⟩ : ByteArray), (⟨#[101]⟩ : ByteArray), (⟨#[]⟩ : ByteArray)] (Int.tmod y83 6)) v200).bind fun (y213, y214) => (if (y203 != y213) = true then some (.inl false) else rec59 (y204.f_l, y214.f_R, w64 (v48 + 1)))))
def scutagelaw24_CrossPlays.j2 (v48 : Int) (xs42 : List cross_Row) (y74 : Int) (y83 : Int) (xs47 : List scutageref19_Pair) (rec59 : (List cross_Row × List scutageref19_Pair × Int) → Option (Bool ⊕ (List cross_Row × List scutageref19_Pair))) (v200 : Int) : Option (Bool ⊕ (List cross_Row × List scutageref19_Pair)) := (if (v48 == 9) = true then ((cross_Cross_Clone (⟨xs42⟩ : cross_Cross)).bind fun y225 => ((cross_Cross_Add (⟨y225.f_l⟩ : cross_Cross) (⟨#[97]⟩ : ByteArray) (⟨#[122]⟩ : ByteArray) 5).bind fun (y235, y236) => scutagelaw24_CrossPlays.j3 xs42 y74 y83 v200 xs47 rec59 v48)) else scutagelaw24_CrossPlays.j3 xs42 y74 y83 v200 xs47 rec59 v48)
def scutagelaw24_CrossPlays.j5 (q305 : Bool) : Option Bool := some q305
def scutagelaw24_CrossPlays.j4 (y246 : List cross_Row) (xs47 : List scutageref19_Pair) (xs289 : List Int) : Option Bool := ((cross_Asset y246 xs289).bind fun (y291, y292) => ((scutageref19_Asset xs47 xs289).bind fun (y298, y299) => (if (y291 == y298) = true then (if (y292 == y299) = true then ((scutagelaw24_wakes).bind fun y309 => scutagelaw24_CrossPlays.j5 y309) else scutagelaw24_CrossPlays.j5 false) else scutagelaw24_CrossPlays.j5 false)))
def scutagelaw24_CrossPlays.j6 (xs265 : List Int) (rec277 : (Int × List Int) → Option (Bool ⊕ (List Int))) (i270 : Int) (v402 : Int) : Option (Bool ⊕ (List Int)) := ((scutageplay_Rate v402).bind fun y404 => (gd (fit xs265.length ([y404].length)) (rec277 (i270 + 1, xs265 ++ [y404]))))
def scutagelaw24_CrossPlays.l2 (xs47 : List scutageref19_Pair) (rates : List Int) : List cross_Row → (Int × List Int) → Option (Bool ⊕ (List Int))
  | [], (i270, xs265) => some (.inr xs265)
  | y275 :: ys274, (i270, xs265) => (gd ((0 : Int) ≤ i270 ∧ i270 < (xs47.length : Int)) (if (!(y275.Seller.toList == ((rd xs47 i270).Seller).toList && (y275.Buyer.toList == ((rd xs47 i270).Buyer).toList && (y275.Amount == ((rd xs47 i270).Amount))))) = true then some (.inl false) else (if (decide (i270 < (rates.length : Int))) = true then (gd ((0 : Int) ≤ i270 ∧ i270 < (rates.length : Int)) (scutagelaw24_CrossPlays.j6 xs265 (scutagelaw24_CrossPlays.l2 xs47 rates ys274) i270 (rd rates i270))) else scutagelaw24_CrossPlays.j6 xs265 (scutagelaw24_CrossPlays.l2 xs47 rates ys274) i270 7)))
def scutagelaw24_CrossPlays.j1 (v48 : Int) (l_ : List scutagelaw24_Act) (xs42 : List cross_Row) (xs47 : List scutageref19_Pair) (rec59 : (List cross_Row × List scutageref19_Pair × Int) → Option (Bool ⊕ (List cross_Row × List scutageref19_Pair))) (q61 : Bool) : Option (Bool ⊕ (List cross_Row × List scutageref19_Pair)) := (if q61 = true then (gd ((0 : Int) ≤ v48 ∧ v48 < (l_.length : Int)) ((scutagekeep_Within ((rd l_ v48).Seller) 31).bind fun y74 => (gd ((0 : Int) ≤ Int.tmod y74 6 ∧ Int.tmod y74 6 < ([(⟨#[97]⟩ : ByteArray), (⟨#[98]⟩ : ByteArray), (⟨#[99]⟩ : ByteArray), (⟨#[100]⟩ : ByteArray), (⟨#[101]⟩ : ByteArray), (⟨#[]⟩ : ByteArray)].length : Int)) ((scutagekeep_Within ((rd l_ v48).Buyer) 31).bind fun y83 => (gd ((0 : Int) ≤ Int.tmod y83 6 ∧ Int.tmod y83 6 < ([(⟨#[97]⟩ : ByteArray), (⟨#[98]⟩ : ByteArray), (⟨#[99]⟩ : ByteArray), (⟨#[100]⟩ : ByteArray), (⟨#[101]⟩ : ByteArray), (⟨#[]⟩ : ByteArray)].length : Int)) ((scutageplay_Amount ((rd l_ v48).f_N)).bind fun y194 => (if (Int.tmod ((rd l_ v48).f_N) 3 != 0) = true then scutagelaw24_CrossPlays.j2 v48 xs42 y74 y83 xs47 rec59 (mx y194 (w64 (0 - y194))) else scutagelaw24_CrossPlays.j2 v48 xs42 y74 y83 xs47 rec59 y194))))))) else some (.inr (xs42, xs47)))
def scutagelaw24_CrossPlays.l1 (l_ : List scutagelaw24_Act) : Nat → (List cross_Row × List scutageref19_Pair × Int) → Option (Bool ⊕ (List cross_Row × List scutageref19_Pair))
  | 0, _ => none
  | fuel58 + 1, (xs42, xs47, v48) => (if (decide (v48 < (l_.length : Int))) = true then scutagelaw24_CrossPlays.j1 v48 l_ xs42 xs47 (scutagelaw24_CrossPlays.l1 l_ fuel58) (decide (v48 < 24)) else scutagelaw24_CrossPlays.j1 v48 l_ xs42 xs47 (scutagelaw24_CrossPlays.l1 l_ fuel58) false)
def scutagelaw24_CrossPlays (l_ : List scutagelaw24_Act) (rates : List Int) (more : Int) : Option Bool := ((cross_New).bind fun y13 => ((scutagelaw24_CrossPlays.l1 l_ FUEL (y13.f_l, ([] : List scutageref19_Pair), 0)).bind fun tt => match tt with | .inl rr => some rr | .inr (xs42, xs47) => ((cross_Cross_Rows (⟨xs42⟩ : cross_Cross)).bind fun y246 => (if ((y246.length : Int) != (xs47.length : Int)) = true then some false else ((scutagelaw24_CrossPlays.l2 xs47 rates y246 (0, ([] : List Int))).bind fun tt => match tt with | .inl rr => some rr | .inr xs265 => (if (Int.tmod more 7 == 6) = true then (gd (fit xs265.length (([5] : List Int).length)) (scutagelaw24_CrossPlays.j4 y246 xs47 (xs265 ++ ([5] : List Int)))) else scutagelaw24_CrossPlays.j4 y246 xs47 xs265))))))

end Go.Proofs.Ytfhekejaobmacaa
