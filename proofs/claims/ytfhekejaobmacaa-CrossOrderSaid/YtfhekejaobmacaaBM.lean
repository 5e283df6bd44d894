/- What the functions come to: printed out of the translation by gen.py. -/
import Derived.Test.YtfhekejaobmacaaCore14
set_option linter.unusedVariables false
set_option linter.unusedSimpArgs false
set_option maxRecDepth 100000
namespace Go.Proofs.Ytfhekejaobmacaa
open Go Go.RowKit

structure scutagelaw24_Act where
  Seller : Int
  Buyer : Int
  f_N : Int
  deriving Inhabited, DecidableEq
structure cross_Row where
  Seller : ByteArray
  Buyer : ByteArray
  Amount : Int
  deriving Inhabited, DecidableEq
structure cross_Cross where
  f_l : List cross_Row
  deriving Inhabited, DecidableEq

def cross_New  : Option cross_Cross := some (⟨([] : List cross_Row)⟩ : cross_Cross)

def scutagekeep_Within.j1 (v3 : Int) : Option Int := some v3
def scutagekeep_Within (v_ : Int) (n_ : Int) : Option Int := (if (decide (n_ < 1)) = true then some 0 else (gd (n_ ≠ (0 : Int)) (if (decide (Int.tmod v_ n_ < 0)) = true then scutagekeep_Within.j1 (w64 (Int.tmod v_ n_ + n_)) else scutagekeep_Within.j1 (Int.tmod v_ n_))))

def rate_Money.j1 (q1 : Bool) : Option Bool := some q1
def rate_Money (n_ : Int) : Option Bool := (if (decide (n_ ≥ (-100000000000))) = true then rate_Money.j1 (decide (n_ ≤ 100000000000)) else rate_Money.j1 false)

def slices_IndexFunc_cross_Row.l1 (f_ : cross_Row → Option Bool) : List cross_Row → Int → Option (Int ⊕ Unit)
  | [], i17 => some (.inr ())
  | y22 :: ys21, i17 => ((f_ y22).bind fun y34 => (if y34 = true then some (.inl i17) else (slices_IndexFunc_cross_Row.l1 f_ ys21) (i17 + 1)))
def slices_IndexFunc_cross_Row (s_ : List cross_Row) (f_ : cross_Row → Option Bool) : Option Int := ((slices_IndexFunc_cross_Row.l1 f_ s_ 0).bind fun tt => match tt with | .inl rr => some rr | .inr _ => some (-1))

def cross_Cross_Add_c1.j1 (q10 : Bool) : Option Bool := some q10
def cross_Cross_Add_c1 (r_ : cross_Row) (cap1 : ByteArray) (cap4 : ByteArray) : Option Bool := (if ((r_.Seller).toList == (cap1).toList) = true then cross_Cross_Add_c1.j1 ((r_.Buyer).toList == (cap4).toList) else cross_Cross_Add_c1.j1 false)

def slices_Clone_cross_Row (s_ : List cross_Row) : Option (List cross_Row) := (gd (fit (([] : List cross_Row).length) s_.length) (some (([] : List cross_Row) ++ s_)))

def cross_Cross_Rows (c_ : cross_Cross) : Option (List cross_Row) := ((slices_Clone_cross_Row c_.f_l).bind fun y9 => some y9)

def slices_DeleteFunc_cross_Row.j1 (rec33 : (List cross_Row × Int × Int) → Option (Int × List cross_Row)) (v22 : Int) (xs36 : List cross_Row) (v37 : Int) : Option (Int × List cross_Row) := rec33 (xs36, v37, w64 (v22 + 1))
def slices_DeleteFunc_cross_Row.l1 (s_ : List cross_Row) (del : cross_Row → Option Bool) : Nat → (List cross_Row × Int × Int) → Option (Int × List cross_Row)
  | 0, _ => none
  | fuel32 + 1, (xs20, v21, v22) => (if (decide (v22 < (s_.length : Int))) = true then (gd ((0 : Int) ≤ v22 ∧ v22 < (xs20.length : Int)) ((del (rd xs20 v22)).bind fun y48 => (if (!y48) = true then (gd ((0 : Int) ≤ v21 ∧ v21 < (xs20.length : Int)) (slices_DeleteFunc_cross_Row.j1 (slices_DeleteFunc_cross_Row.l1 s_ del fuel32) v22 (xs20.set (Int.toNat v21) (rd xs20 v22)) (w64 (v21 + 1)))) else slices_DeleteFunc_cross_Row.j1 (slices_DeleteFunc_cross_Row.l1 s_ del fuel32) v22 xs20 v21))) else some (v21, xs20))
def slices_DeleteFunc_cross_Row (s_ : List cross_Row) (del : cross_Row → Option Bool) : Option (List cross_Row) := ((slices_IndexFunc_cross_Row s_ del).bind fun y10 => (if (y10 == (-1)) = true then some s_ else ((slices_DeleteFunc_cross_Row.l1 s_ del FUEL (s_, y10, w64 (y10 + 1))).bind fun (v21, xs20) => (gd (0 ≤ v21 ∧ v21 ≤ (xs20.length : Int) ∧ (xs20.length : Int) ≤ (xs20.length : Int)) (gd (0 ≤ (0 : Int) ∧ (0 : Int) ≤ v21 ∧ v21 ≤ ((clr xs20 v21 (⟨(⟨#[]⟩ : ByteArray), (⟨#[]⟩ : ByteArray), 0⟩ : cross_Row)).length : Int)) (some (sb (clr xs20 v21 (⟨(⟨#[]⟩ : ByteArray), (⟨#[]⟩ : ByteArray), 0⟩ : cross_Row)) (0 : Int) v21)))))))

def math_bits_Len64 (x_ : Int) : Option Int := (if (decide (x_ ≥ 4294967296)) = true then none else (if (decide (x_ ≥ 65536)) = true then none else (if (decide (x_ ≥ 256)) = true then none else (gd ((0 : Int) ≤ IntKind.u8.wrap x_ ∧ IntKind.u8.wrap x_ < ((⟨#[0, 1, 2, 2, 3, 3, 3, 3, 4, 4, 4, 4, 4, 4, 4, 4, 5, 5, 5, 5, 5, 5, 5, 5, 5, 5, 5, 5, 5, 5, 5, 5, 6, 6, 6, 6, 6, 6, 6, 6, 6, 6, 6, 6, 6, 6, 6, 6, 6, 6, 6, 6, 6, 6, 6, 6, 6, 6, 6, 6, 6, 6, 6, 6, 7, 7, 7, 7, 7, 7, 7, 7, 7, 7, 7, 7, 7, 7, 7, 7, 7, 7, 7, 7, 7, 7, 7, 7, 7, 7, 7, 7, 7, 7, 7, 7, 7, 7, 7, 7, 7, 7, 7, 7, 7, 7, 7, 7, 7, 7, 7, 7, 7, 7, 7, 7, 7, 7, 7, 7, 7, 7, 7, 7, 7, 7, 7, 7, 8, 8, 8, 8, 8, 8, 8, 8, 8, 8, 8, 8, 8, 8, 8, 8, 8, 8, 8, 8, 8, 8, 8, 8, 8, 8, 8, 8, 8, 8, 8, 8, 8, 8, 8, 8, 8, 8, 8, 8, 8, 8, 8, 8, 8, 8, 8, 8, 8, 8, 8, 8, 8, 8, 8, 8, 8, 8, 8, 8, 8, 8, 8, 8, 8, 8, 8, 8, 8, 8, 8, 8, 8, 8, 8, 8, 8, 8, 8, 8, 8, 8, 8, 8, 8, 8, 8, 8, 8, 8, 8, 8, 8, 8, 8, 8, 8, 8, 8, 8, 8, 8, 8, 8, 8, 8, 8, 8, 8, 8, 8, 8, 8, 8, 8, 8, 8, 8, 8, 8, 8, 8, 8, 8, 8, 8, 8, 8]⟩ : ByteArray).size : Int)) (some (w64 (0 + w64 (byteAt (⟨#[0, 1, 2, 2, 3, 3, 3, 3, 4, 4, 4, 4, 4, 4, 4, 4, 5, 5, 5, 5, 5, 5, 5, 5, 5, 5, 5, 5, 5, 5, 5, 5, 6, 6, 6, 6, 6, 6, 6, 6, 6, 6, 6, 6, 6, 6, 6, 6, 6, 6, 6, 6, 6, 6, 6, 6, 6, 6, 6, 6, 6, 6, 6, 6, 7, 7, 7, 7, 7, 7, 7, 7, 7, 7, 7, 7, 7, 7, 7, 7, 7, 7, 7, 7, 7, 7, 7, 7, 7, 7, 7, 7, 7, 7, 7, 7, 7, 7, 7, 7, 7, 7, 7, 7, 7, 7, 7, 7, 7, 7, 7, 7, 7, 7, 7, 7, 7, 7, 7, 7, 7, 7, 7, 7, 7, 7, 7, 7, 8, 8, 8, 8, 8, 8, 8, 8, 8, 8, 8, 8, 8, 8, 8, 8, 8, 8, 8, 8, 8, 8, 8, 8, 8, 8, 8, 8, 8, 8, 8, 8, 8, 8, 8, 8, 8, 8, 8, 8, 8, 8, 8, 8, 8, 8, 8, 8, 8, 8, 8, 8, 8, 8, 8, 8, 8, 8, 8, 8, 8, 8, 8, 8, 8, 8, 8, 8, 8, 8, 8, 8, 8, 8, 8, 8, 8, 8, 8, 8, 8, 8, 8, 8, 8, 8, 8, 8, 8, 8, 8, 8, 8, 8, 8, 8, 8, 8, 8, 8, 8, 8, 8, 8, 8, 8, 8, 8, 8, 8, 8, 8, 8, 8, 8, 8, 8, 8, 8, 8, 8, 8, 8, 8, 8, 8, 8, 8]⟩ : ByteArray) (IntKind.u8.wrap x_)))))))))

def math_bits_Len (x_ : Int) : Option Int := ((math_bits_Len64 x_).bind fun y1 => some y1)

def slices_insertionSortCmpFunc_cross_Row.j1 (v30 : Int) (xs29 : List cross_Row) (rec41 : (List cross_Row × Int) → Option (List cross_Row)) (q43 : Bool) : Option (List cross_Row) := (if q43 = true then (gd ((0 : Int) ≤ w64 (v30 - 1) ∧ w64 (v30 - 1) < (xs29.length : Int)) (gd ((0 : Int) ≤ v30 ∧ v30 < (xs29.length : Int)) (gd ((0 : Int) ≤ w64 (v30 - 1) ∧ w64 (v30 - 1) < ((xs29.set (Int.toNat v30) (rd xs29 (w64 (v30 - 1)))).length : Int)) (rec41 ((xs29.set (Int.toNat v30) (rd xs29 (w64 (v30 - 1)))).set (Int.toNat (w64 (v30 - 1))) (rd xs29 v30), w64 (v30 - 1)))))) else some xs29)
def slices_insertionSortCmpFunc_cross_Row.l2 (a_ : Int) (cmp : (cross_Row × cross_Row) → Option Int) : Nat → (List cross_Row × Int) → Option (List cross_Row)
  | 0, _ => none
  | fuel40 + 1, (xs29, v30) => (if (decide (v30 > a_)) = true then (gd ((0 : Int) ≤ v30 ∧ v30 < (xs29.length : Int)) (gd ((0 : Int) ≤ w64 (v30 - 1) ∧ w64 (v30 - 1) < (xs29.length : Int)) ((cmp ((rd xs29 v30), (rd xs29 (w64 (v30 - 1))))).bind fun y203 => slices_insertionSortCmpFunc_cross_Row.j1 v30 xs29 (slices_insertionSortCmpFunc_cross_Row.l2 a_ cmp fuel40) (decide (y203 < 0))))) else slices_insertionSortCmpFunc_cross_Row.j1 v30 xs29 (slices_insertionSortCmpFunc_cross_Row.l2 a_ cmp fuel40) false)
def slices_insertionSortCmpFunc_cross_Row.l1 (b_ : Int) (a_ : Int) (cmp : (cross_Row × cross_Row) → Option Int) : Nat → (List cross_Row × Int) → Option (List cross_Row)
  | 0, _ => none
  | fuel23 + 1, (xs12, v13) => (if (decide (v13 < b_)) = true then ((slices_insertionSortCmpFunc_cross_Row.l2 a_ cmp FUEL (xs12, v13)).bind fun xs29 => (slices_insertionSortCmpFunc_cross_Row.l1 b_ a_ cmp fuel23) (xs29, w64 (v13 + 1))) else some xs12)
def slices_insertionSortCmpFunc_cross_Row (data : List cross_Row) (a_ : Int) (b_ : Int) (cmp : (cross_Row × cross_Row) → Option Int) : Option (List cross_Row) := ((slices_insertionSortCmpFunc_cross_Row.l1 b_ a_ cmp FUEL (data, w64 (a_ + 1))).bind fun xs12 => some xs12)

def slices_pdqsortCmpFunc_cross_Row.l1 (b_ : Int) (a_ : Int) (data : List cross_Row) (cmp : (cross_Row × cross_Row) → Option Int) : Nat → Unit → Option ((List cross_Row) ⊕ Unit)
  | 0, _ => none
  | fuel19 + 1, () => (if (decide (w64 (b_ - a_) ≤ 12)) = true then ((slices_insertionSortCmpFunc_cross_Row data a_ b_ cmp).bind fun y23 => some (.inl y23)) else none)
def slices_pdqsortCmpFunc_cross_Row (data : List cross_Row) (a_ : Int) (b_ : Int) (limit : Int) (cmp : (cross_Row × cross_Row) → Option Int) : Option (List cross_Row) := ((slices_pdqsortCmpFunc_cross_Row.l1 b_ a_ data cmp FUEL ()).bind fun tt => match tt with | .inl rr => some rr | .inr _ => none)

def slices_SortFunc_cross_Row (x_ : List cross_Row) (cmp : (cross_Row × cross_Row) → Option Int) : Option (List cross_Row) := ((math_bits_Len (IntKind.u64.wrap (x_.length : Int))).bind fun y10 => ((slices_pdqsortCmpFunc_cross_Row x_ 0 (x_.length : Int) y10 cmp).bind fun y16 => some y16))

def internal_bytealg_CompareString (a_ : ByteArray) (b_ : ByteArray) : Option Int := some (scmp a_ b_)

def strings_Compare (a_ : ByteArray) (b_ : ByteArray) : Option Int := ((internal_bytealg_CompareString a_ b_).bind fun y1 => some y1)

def cmp_Or_int.l1  : List Int → Int → Option (Int ⊕ Unit)
  | [], i11 => some (.inr ())
  | y16 :: ys15, i11 => (if (y16 != 0) = true then some (.inl y16) else (cmp_Or_int.l1 ys15) (i11 + 1))
def cmp_Or_int (vals : List Int) : Option Int := ((cmp_Or_int.l1  vals 0).bind fun tt => match tt with | .inl rr => some rr | .inr _ => some 0)

def cross_Cross_Add_c2 (a_ : cross_Row) (b_ : cross_Row) : Option Int := ((strings_Compare a_.Seller b_.Seller).bind fun y8 => ((strings_Compare a_.Buyer b_.Buyer).bind fun y14 => ((cmp_Or_int [y8, y14]).bind fun y23 => some y23)))

def cross_Cross_Add.j4 (c_ : cross_Cross) (xs39 : List cross_Row) : Option (Int × cross_Cross) := (if (decide ((xs39.length : Int) > 8)) = true then some (5, (⟨c_.f_l⟩ : cross_Cross)) else ((slices_SortFunc_cross_Row xs39 (fun x => cross_Cross_Add_c2 x.1 x.2)).bind fun y42 => some (0, (⟨y42⟩ : cross_Cross))))
def cross_Cross_Add.j3 (c_ : cross_Cross) (seller : ByteArray) (buyer : ByteArray) (v13 : Int) (n_ : Int) (q15 : Bool) : Option (Int × cross_Cross) := (if q15 = true then some (6, (⟨c_.f_l⟩ : cross_Cross)) else ((cross_Cross_Rows (⟨c_.f_l⟩ : cross_Cross)).bind fun y18 => ((slices_DeleteFunc_cross_Row y18 (fun x => cross_Cross_Add_c1 x seller buyer)).bind fun y27 => (if (w64 (v13 + n_) != 0) = true then (gd (fit y27.length ([(⟨seller, buyer, w64 (v13 + n_)⟩ : cross_Row)].length)) (cross_Cross_Add.j4 c_ (y27 ++ [(⟨seller, buyer, w64 (v13 + n_)⟩ : cross_Row)]))) else cross_Cross_Add.j4 c_ y27))))
def cross_Cross_Add.j2 (n_ : Int) (c_ : cross_Cross) (seller : ByteArray) (buyer : ByteArray) (v13 : Int) : Option (Int × cross_Cross) := (if (decide (w64 (v13 + n_) < 0)) = true then cross_Cross_Add.j3 c_ seller buyer v13 n_ true else ((rate_Money (w64 (v13 + n_))).bind fun y60 => cross_Cross_Add.j3 c_ seller buyer v13 n_ (!y60)))
def cross_Cross_Add.j1 (c_ : cross_Cross) (seller : ByteArray) (buyer : ByteArray) (n_ : Int) (q10 : Bool) : Option (Int × cross_Cross) := (if q10 = true then some (1, (⟨c_.f_l⟩ : cross_Cross)) else ((slices_IndexFunc_cross_Row c_.f_l (fun x => cross_Cross_Add_c1 x seller buyer)).bind fun y66 => (if (decide (y66 ≥ 0)) = true then (gd ((0 : Int) ≤ y66 ∧ y66 < (c_.f_l.length : Int)) (cross_Cross_Add.j2 n_ c_ seller buyer ((rd c_.f_l y66).Amount))) else cross_Cross_Add.j2 n_ c_ seller buyer 0)))
def cross_Cross_Add (c_ : cross_Cross) (seller : ByteArray) (buyer : ByteArray) (n_ : Int) : Option (Int × cross_Cross) := (if ((seller).toList == ((⟨#[]⟩ : ByteArray)).toList) = true then cross_Cross_Add.j1 c_ seller buyer n_ true else (if ((buyer).toList == ((⟨#[]⟩ : ByteArray)).toList) = true then cross_Cross_Add.j1 c_ seller buyer n_ true else (if ((seller).toList == (buyer).toList) = true then cross_Cross_Add.j1 c_ seller buyer n_ true else ((rate_Money n_).bind fun y80 => cross_Cross_Add.j1 c_ seller buyer n_ (!y80)))))

def scutagekeep_Same_cross_Row.l1 (a_ : List cross_Row) (b_ : List cross_Row) : Nat → Int → Option (Bool ⊕ Unit)
  | 0, _ => none
  | fuel25 + 1, v15 => (if (decide (v15 < (a_.length : Int))) = true then (gd ((0 : Int) ≤ v15 ∧ v15 < (a_.length : Int)) (gd ((0 : Int) ≤ v15 ∧ v15 < (b_.length : Int)) (if (!(((rd a_ v15).Seller).toList == ((rd b_ v15).Seller).toList && (((rd a_ v15).Buyer).toList == ((rd b_ v15).Buyer).toList && (((rd a_ v15).Amount) == ((rd b_ v15).Amount))))) = true then some (.inl false) else (scutagekeep_Same_cross_Row.l1 a_ b_ fuel25) (w64 (v15 + 1))))) else some (.inr ()))
def scutagekeep_Same_cross_Row (a_ : List cross_Row) (b_ : List cross_Row) : Option Bool := (if ((a_.length : Int) != (b_.length : Int)) = true then some false else ((scutagekeep_Same_cross_Row.l1 a_ b_ FUEL 0).bind fun tt => match tt with | .inl rr => some rr | .inr _ => some true))

def rate_Right.j1 (q1 : Bool) : Option Bool := some q1
def rate_Right (rate_ : Int) : Option Bool := (if (decide (rate_ ≥ 0)) = true then rate_Right.j1 (decide (rate_ ≤ 1000000)) else rate_Right.j1 false)

def rate_Of.j1 (n_ : Int) (rate_ : Int) (q1 : Bool) : Option (Int × Bool) := (if q1 = true then some (0, false) else (if (decide (n_ < 0)) = true then some (w64 (Int.tdiv (w64 (w64 (w64 (2 * n_) * rate_) - 1000000)) 2000000), true) else some (w64 (Int.tdiv (w64 (w64 (w64 (2 * n_) * rate_) + 1000000)) 2000000), true)))
def rate_Of (n_ : Int) (rate_ : Int) : Option (Int × Bool) := (if (decide (n_ < (-400000000000))) = true then rate_Of.j1 n_ rate_ true else (if (decide (n_ > 400000000000)) = true then rate_Of.j1 n_ rate_ true else (if (decide (rate_ < 0)) = true then rate_Of.j1 n_ rate_ true else rate_Of.j1 n_ rate_ (decide (rate_ > 10000000)))))

def cross_Asset.j1 (i20 : Int) (rates : List Int) (y25 : cross_Row) (rec27 : (Int × Int) → Option ((Int × Int) ⊕ Int)) (v15 : Int) (q49 : Bool) : Option ((Int × Int) ⊕ Int) := (if q49 = true then some (.inl (0, 1)) else (gd ((0 : Int) ≤ i20 ∧ i20 < (rates.length : Int)) ((rate_Of y25.Amount (rd rates i20)).bind fun (y57, y58) => rec27 (i20 + 1, w64 (v15 + y57)))))
def cross_Asset.l1 (rates : List Int) : List cross_Row → (Int × Int) → Option ((Int × Int) ⊕ Int)
  | [], (i20, v15) => some (.inr v15)
  | y25 :: ys24, (i20, v15) => (gd ((0 : Int) ≤ i20 ∧ i20 < (rates.length : Int)) ((rate_Right (rd rates i20)).bind fun y156 => (if (!y156) = true then cross_Asset.j1 i20 rates y25 (cross_Asset.l1 rates ys24) v15 true else (if (decide (y25.Amount < 0)) = true then cross_Asset.j1 i20 rates y25 (cross_Asset.l1 rates ys24) v15 true else ((rate_Money y25.Amount).bind fun y164 => cross_Asset.j1 i20 rates y25 (cross_Asset.l1 rates ys24) v15 (!y164))))))
def cross_Asset (rows : List cross_Row) (rates : List Int) : Option (Int × Int) := (if ((rates.length : Int) != (rows.length : Int)) = true then some (0, 1) else ((cross_Asset.l1 rates rows (0, 0)).bind fun tt => match tt with | .inl rr => some rr | .inr v15 => ((rate_Money v15).bind fun y36 => (if (!y36) = true then some (0, 6) else some (v15, 0)))))

def scutagelaw24_wakes.j2 (q37 : Bool) : Option Bool := some q37
def scutagelaw24_wakes.j1 (xs14 : List cross_Row) (q15 : Bool) : Option Bool := (if q15 = true then some false else ((cross_Cross_Rows (⟨xs14⟩ : cross_Cross)).bind fun y18 => ((cross_Asset y18 ([250000] : List Int)).bind fun (y30, y31) => (if (y31 == 0) = true then scutagelaw24_wakes.j2 (y30 == 25) else scutagelaw24_wakes.j2 false))))
def scutagelaw24_wakes  : Option Bool := ((cross_New).bind fun y1 => ((cross_Cross_Rows (⟨y1.f_l⟩ : cross_Cross)).bind fun y40 => (if ((y40.length : Int) != 0) = true then scutagelaw24_wakes.j1 y1.f_l true else ((cross_Cross_Add (⟨y1.f_l⟩ : cross_Cross) (⟨#[97]⟩ : ByteArray) (⟨#[98]⟩ : ByteArray) 100).bind fun (y50, y51) => scutagelaw24_wakes.j1 y51.f_l (y50 != 0)))))

def scutagelaw24_CrossOrder.j1 (q555 : Bool) : Option Bool := some q555
def scutagelaw24_CrossOrder.l4  : List cross_Row → (Int × List cross_Row) → Option Unit
  | [], (i539, xs534) => some ()
  | y544 :: ys543, (i539, xs534) => (gd ((0 : Int) ≤ i539 ∧ i539 < (xs534.length : Int)) ((scutagelaw24_CrossOrder.l4 ys543) (i539 + 1, xs534.set (Int.toNat i539) (⟨(rd xs534 i539).Seller, (rd xs534 i539).Buyer, w64 ((rd xs534 i539).Amount + 1)⟩ : cross_Row))))
def scutagelaw24_CrossOrder.j2 (rec524 : Int → Option (Bool ⊕ Unit)) (i517 : Int) (q601 : Bool) : Option (Bool ⊕ Unit) := (if q601 = true then some (.inl false) else rec524 (i517 + 1))
def scutagelaw24_CrossOrder.l3 (mm48 : List ((ByteArray × ByteArray) × Int)) (y468 : List cross_Row) : List cross_Row → Int → Option (Bool ⊕ Unit)
  | [], i517 => some (.inr ())
  | y522 :: ys521, i517 => (if (y522.Amount == 0) = true then scutagelaw24_CrossOrder.j2 (scutagelaw24_CrossOrder.l3 mm48 y468 ys521) i517 true else (if (y522.Amount != pgetD (0 : Int) mm48 (y522.Seller, y522.Buyer)) = true then scutagelaw24_CrossOrder.j2 (scutagelaw24_CrossOrder.l3 mm48 y468 ys521) i517 true else (if (decide (i517 > 0)) = true then (gd ((0 : Int) ≤ w64 (i517 - 1) ∧ w64 (i517 - 1) < (y468.length : Int)) (if (Op.bytesLess (y522.Seller).toList ((rd y468 (w64 (i517 - 1))).Seller).toList) = true then scutagelaw24_CrossOrder.j2 (scutagelaw24_CrossOrder.l3 mm48 y468 ys521) i517 true else (if ((y522.Seller).toList == ((rd y468 (w64 (i517 - 1))).Seller).toList) = true then scutagelaw24_CrossOrder.j2 (scutagelaw24_CrossOrder.l3 mm48 y468 ys521) i517 (Op.bytesLess (y522.Buyer).toList ((rd y468 (w64 (i517 - 1))).Buyer).toList || (y522.Buyer).toList == ((rd y468 (w64 (i517 - 1))).Buyer).toList) else scutagelaw24_CrossOrder.j2 (scutagelaw24_CrossOrder.l3 mm48 y468 ys521) i517 false))) else scutagelaw24_CrossOrder.j2 (scutagelaw24_CrossOrder.l3 mm48 y468 ys521) i517 false)))
def scutagelaw24_CrossOrder.l2  : List ((ByteArray × ByteArray) × Int) → Int → Option Int
  | [], v499 => some v499
  | y504 :: ys505, v499 => (if (y504.2 != 0) = true then (scutagelaw24_CrossOrder.l2 ys505) (w64 (v499 + 1)) else (scutagelaw24_CrossOrder.l2 ys505) v499)
theorem scutagelaw24_CrossOrder.l2.pm  {l_ l2_ : List ((ByteArray × ByteArray) × Int)} (h_ : l_.Perm l2_) : ∀ s_, scutagelaw24_CrossOrder.l2 l_ s_ = scutagelaw24_CrossOrder.l2 l2_ s_ := by
  induction h_ with
  | nil => exact fun _ => rfl
  | cons y_ _ ih_ => intro s_; simp only [scutagelaw24_CrossOrder.l2, ih_]
  | swap x_ y_ l_ => intro s_; simp only [scutagelaw24_CrossOrder.l2]; (repeat' split) <;> rfl
  | trans _ _ h1_ h2_ => intro s_; rw [h1_, h2_]
def scutagelaw24_CrossOrder.l1 (l_ : List scutagelaw24_Act) : Nat → (List cross_Row × List cross_Row × List ((ByteArray × ByteArray) × Int) × Int) → Option (Bool ⊕ (List cross_Row × List cross_Row × List ((ByteArray × ByteArray) × Int)))
  | 0, _ => none
  | fuel59 + 1, (xs43, xs47, mm48, v49) => (if (decide (v49 < mn (l_.length : Int) 8)) = true then (gd ((0 : Int) ≤ v49 ∧ v49 < (l_.length : Int)) ((scutagekeep_Within ((rd l_ v49).Seller) 3).bind fun y79 => (gd ((0 : Int) ≤ y79 ∧ y79 < ([(⟨#[112]⟩ : ByteArray), (⟨#[113]⟩ : ByteArray), (⟨#[114]⟩ : ByteArray)].length : Int)) ((scutagekeep_Within ((rd l_ v49).Buyer) 2).bind fun y91 => (gd ((0 : Int) ≤ y91 ∧ y91 < ([(⟨#[117]⟩ : ByteArray), (⟨#[118]⟩ : ByteArray)].length : Int)) ((scutagekeep_Within ((rd l_ v49).f_N) 1000).bind fun y212 => ((cross_Cross_Add (⟨xs43⟩ : cross_Cross) (rd [(⟨#[112]⟩ : ByteArray), (⟨#[113]⟩ : ByteArray), (⟨#[114]⟩ : ByteArray)] y79) (rd [(⟨#[117]⟩ : ByteArray), (⟨#[118]⟩ : ByteArray)] y91) y212).bind fun (y218, y219) => (if (y218 != 0) = true then some (.inl false) else (gd ((0 : Int) ≤ w64 (w64 (mn (l_.length : Int) 8 - 1) - v49) ∧ w64 (w64 (mn (l_.length : Int) 8 - 1) - v49) < (l_.length : Int)) ((scutagekeep_Within ((rd l_ (w64 (w64 (mn (l_.length : Int) 8 - 1) - v49))).Seller) 3).bind fun y318 => (gd ((0 : Int) ≤ y318 ∧ y318 < ([(⟨#[112]⟩ : ByteArray), (⟨#[113]⟩ : ByteArray), (⟨#[114]⟩ : ByteArray)].length : Int)) ((scutagekeep_Within ((rd l_ (w64 (w64 (mn (l_.length : Int) 8 - 1) - v49))).Buyer) 2).bind fun y330 => (gd ((0 : Int) ≤ y330 ∧ y330 < ([(⟨#[117]⟩ : ByteArray), (⟨#[118]⟩ : ByteArray)].length : Int)) ((scutagekeep_Within ((rd l_ (w64 (w64 (mn (l_.length : Int) 8 - 1) - v49))).f_N) 1000).bind fun y451 => ((cross_Cross_Add (⟨xs47⟩ : cross_Cross) (rd [(⟨#[112]⟩ : ByteArray), (⟨#[113]⟩ : ByteArray), (⟨#[114]⟩ : ByteArray)] y318) (rd [(⟨#[117]⟩ : ByteArray), (⟨#[118]⟩ : ByteArray)] y330) y451).bind fun (y457, y458) => (if (y457 != 0) = true then some (.inl false) else (scutagelaw24_CrossOrder.l1 l_ fuel59) (y219.f_l, y458.f_l, pput mm48 ((rd [(⟨#[112]⟩ : ByteArray), (⟨#[113]⟩ : ByteArray), (⟨#[114]⟩ : ByteArray)] y79), (rd [(⟨#[117]⟩ : ByteArray), (⟨#[118]⟩ : ByteArray)] y91)) (w64 (pgetD (0 : Int) mm48 ((rd [(⟨#[112]⟩ : ByteArray), (⟨#[113]⟩ : ByteArray), (⟨#[114]⟩ : ByteArray)] y79), (rd [(⟨#[117]⟩ : ByteArray), (⟨#[118]⟩ : ByteArray)] y91)) + y212)), w64 (v49 + 1)))))))))))))))))) else some (.inr (xs43, xs47, mm48)))
def scutagelaw24_CrossOrder (l_ : List scutagelaw24_Act) : Option Bool := ((cross_New).bind fun y7 => ((cross_New).bind fun y17 => ((scutagelaw24_CrossOrder.l1 l_ FUEL (y7.f_l, y17.f_l, ([] : List ((ByteArray × ByteArray) × Int)), 0)).bind fun tt => match tt with | .inl rr => some rr | .inr (xs43, xs47, mm48) => ((cross_Cross_Rows (⟨xs43⟩ : cross_Cross)).bind fun y468 => ((cross_Cross_Rows (⟨xs47⟩ : cross_Cross)).bind fun y477 => ((scutagekeep_Same_cross_Row y468 y477).bind fun y486 => (if (!y486) = true then some false else ((scutagelaw24_CrossOrder.l2  mm48 0).bind fun v499 => ((scutagelaw24_CrossOrder.l3 mm48 y468 y468 0).bind fun tt => match tt with | .inl rr => some rr | .inr _ => ((scutagelaw24_CrossOrder.l4  y468 (0, y468)).bind fun _ => (if ((y468.length : Int) == v499) = true then ((cross_Cross_Rows (⟨xs43⟩ : cross_Cross)).bind fun y558 => ((cross_Cross_Rows (⟨xs47⟩ : cross_Cross)).bind fun y567 => ((scutagekeep_Same_cross_Row y558 y567).bind fun y576 => (if y576 = true then ((scutagelaw24_wakes).bind fun y583 => scutagelaw24_CrossOrder.j1 y583) else scutagelaw24_CrossOrder.j1 false)))) else scutagelaw24_CrossOrder.j1 false)))))))))))

end Go.Proofs.Ytfhekejaobmacaa
