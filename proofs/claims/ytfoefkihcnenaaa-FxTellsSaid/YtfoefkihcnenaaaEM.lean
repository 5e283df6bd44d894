/- What the functions come to: printed out of the translation by gen.py. -/
import Derived.Test.YtfoefkihcnenaaaCore8
set_option linter.unusedVariables false
set_option linter.unusedSimpArgs false
set_option maxRecDepth 100000
namespace Go.Proofs.Ytfoefkihcnenaaa
open Go Go.RowKit

structure api_Item where
  Kind : Int
  Amount : Int
  deriving Inhabited, DecidableEq

def scutagekeep_Within.j1 (v3 : Int) : Option Int := some v3
def scutagekeep_Within (v_ : Int) (n_ : Int) : Option Int := (if (decide (n_ < 1)) = true then some 0 else (gd (n_ ≠ (0 : Int)) (if (decide (Int.tmod v_ n_ < 0)) = true then scutagekeep_Within.j1 (w64 (Int.tmod v_ n_ + n_)) else scutagekeep_Within.j1 (Int.tmod v_ n_))))

def scutageplay_Amount (n_ : Int) : Option Int := (if (Int.tmod n_ 23 == 20) = true then ((scutagekeep_Within (w64 (Int.tdiv n_ 23)) 5).bind fun y2 => some (w64 (w64 (100000000000 - y2) + 2))) else (if (Int.tmod n_ 23 == 21) = true then ((scutagekeep_Within (w64 (Int.tdiv n_ 23)) 5).bind fun y8 => some (w64 (w64 ((-100000000000) + y8) - 2))) else (if (Int.tmod n_ 23 == 22) = true then some n_ else (if (Int.tmod n_ 23 == 19) = true then ((scutagekeep_Within (w64 (Int.tdiv n_ 23)) 200000000001).bind fun y15 => some (w64 (y15 - 100000000000))) else ((scutagekeep_Within n_ 4001).bind fun y20 => some (w64 (y20 - 2000)))))))

def scutagelaw25_items.j1 (v24 : Int) (kinds : List Int) (amounts : List Int) (xs23 : List api_Item) (rec35 : (List api_Item × Int) → Option (List api_Item)) (q37 : Bool) : Option (List api_Item) := (if q37 = true then (gd ((0 : Int) ≤ v24 ∧ v24 < (kinds.length : Int)) ((scutagekeep_Within (rd kinds v24) 9).bind fun y45 => (gd ((0 : Int) ≤ v24 ∧ v24 < (amounts.length : Int)) ((scutageplay_Amount (rd amounts v24)).bind fun y54 => (gd (fit xs23.length ([(⟨y45, y54⟩ : api_Item)].length)) (rec35 (xs23 ++ [(⟨y45, y54⟩ : api_Item)], w64 (v24 + 1)))))))) else some xs23)
def scutagelaw25_items.l1 (kinds : List Int) (amounts : List Int) (most : Int) : Nat → (List api_Item × Int) → Option (List api_Item)
  | 0, _ => none
  | fuel34 + 1, (xs23, v24) => (if (decide (v24 < (kinds.length : Int))) = true then (if (decide (v24 < (amounts.length : Int))) = true then scutagelaw25_items.j1 v24 kinds amounts xs23 (scutagelaw25_items.l1 kinds amounts most fuel34) (decide (v24 < most)) else scutagelaw25_items.j1 v24 kinds amounts xs23 (scutagelaw25_items.l1 kinds amounts most fuel34) false) else scutagelaw25_items.j1 v24 kinds amounts xs23 (scutagelaw25_items.l1 kinds amounts most fuel34) false)
def scutagelaw25_items (kinds : List Int) (amounts : List Int) (most : Int) : Option (List api_Item) := ((scutagelaw25_items.l1 kinds amounts most FUEL (([] : List api_Item), 0)).bind fun xs23 => some xs23)

def scutagekeep_Copy_api_Item (l_ : List api_Item) : Option (List api_Item) := (gd (fit (([] : List api_Item).length) l_.length) (some (([] : List api_Item) ++ l_)))

def fx_near.j1 (q1 : Bool) : Option Bool := some q1
def fx_near (n_ : Int) : Option Bool := (if (decide (n_ ≥ (-400000000000))) = true then fx_near.j1 (decide (n_ ≤ 400000000000)) else fx_near.j1 false)

def rate_Of.j1 (n_ : Int) (rate_ : Int) (q1 : Bool) : Option (Int × Bool) := (if q1 = true then some (0, false) else (if (decide (n_ < 0)) = true then some (w64 (Int.tdiv (w64 (w64 (w64 (2 * n_) * rate_) - 1000000)) 2000000), true) else some (w64 (Int.tdiv (w64 (w64 (w64 (2 * n_) * rate_) + 1000000)) 2000000), true)))
def rate_Of (n_ : Int) (rate_ : Int) : Option (Int × Bool) := (if (decide (n_ < (-400000000000))) = true then rate_Of.j1 n_ rate_ true else (if (decide (n_ > 400000000000)) = true then rate_Of.j1 n_ rate_ true else (if (decide (rate_ < 0)) = true then rate_Of.j1 n_ rate_ true else rate_Of.j1 n_ rate_ (decide (rate_ > 10000000)))))

def fx_Convert.l1 (fx : Int) : List api_Item → (Int × Int × Int × List api_Item) → Option ((List api_Item × Int × Int) ⊕ (Int × List api_Item × Int))
  | [], (i29, v18, v19, xs24) => some (.inr (v18, xs24, v19))
  | y34 :: ys33, (i29, v18, v19, xs24) => ((fx_near y34.Amount).bind fun y59 => (if (!y59) = true then some (.inl (([] : List api_Item), 0, 1)) else ((rate_Of y34.Amount fx).bind fun (y66, y67) => (gd (fit xs24.length ([(⟨y34.Kind, y66⟩ : api_Item)].length)) ((fx_Convert.l1 fx ys33) (i29 + 1, w64 (v18 + y34.Amount), w64 (v19 + y66), xs24 ++ [(⟨y34.Kind, y66⟩ : api_Item)]))))))
def fx_Convert.j1 (fx : Int) (items : List api_Item) (q7 : Bool) : Option (List api_Item × Int × Int) := (if q7 = true then some (([] : List api_Item), 0, 1) else ((fx_Convert.l1 fx items (0, 0, 0, ([] : List api_Item))).bind fun tt => match tt with | .inl rr => some rr | .inr (v18, xs24, v19) => ((rate_Of v18 fx).bind fun (y45, y46) => (if (!y46) = true then some (([] : List api_Item), 0, 1) else some (xs24, w64 (y45 - v19), 0)))))
def fx_Convert (items : List api_Item) (fx : Int) : Option (List api_Item × Int × Int) := (if (decide (fx < 1)) = true then fx_Convert.j1 fx items true else (if (decide (fx > 10000000)) = true then fx_Convert.j1 fx items true else fx_Convert.j1 fx items (decide ((items.length : Int) > 20))))

def scutageref19_far.j1 (q1 : Bool) : Option Bool := some q1
def scutageref19_far (n_ : Int) : Option Bool := (if (decide (n_ < (-400000000000))) = true then scutageref19_far.j1 true else scutageref19_far.j1 (decide (n_ > 400000000000)))

def scutageref01_Of_r1.j2 (v5 : Int) : Option (Int × Bool) := some (v5, true)
def scutageref01_Of_r1.j1 (n_ : Int) (r_ : Int) (q1 : Bool) : Option (Int × Bool) := (if q1 = true then some (0, false) else (if (decide (n_ < 0)) = true then none else (if (decide (w64 (2 * Int.tmod (w64 (n_ * r_)) 1000000) ≥ 1000000)) = true then scutageref01_Of_r1.j2 (w64 (w64 (Int.tdiv (w64 (n_ * r_)) 1000000) + 1)) else scutageref01_Of_r1.j2 (w64 (Int.tdiv (w64 (n_ * r_)) 1000000)))))
def scutageref01_Of_r1 (n_ : Int) (r_ : Int) : Option (Int × Bool) := (if (decide (n_ < (-400000000000))) = true then scutageref01_Of_r1.j1 n_ r_ true else (if (decide (n_ > 400000000000)) = true then scutageref01_Of_r1.j1 n_ r_ true else (if (decide (r_ < 0)) = true then scutageref01_Of_r1.j1 n_ r_ true else scutageref01_Of_r1.j1 n_ r_ (decide (r_ > 10000000)))))

def scutageref01_Of.j2 (v11 : Int) : Option (Int × Bool) := some (v11, true)
def scutageref01_Of.j1 (n_ : Int) (r_ : Int) (q1 : Bool) : Option (Int × Bool) := (if q1 = true then some (0, false) else (if (decide (n_ < 0)) = true then ((scutageref01_Of_r1 (w64 (0 - n_)) r_).bind fun (y5, y6) => some (w64 (0 - y5), true)) else (if (decide (w64 (2 * Int.tmod (w64 (n_ * r_)) 1000000) ≥ 1000000)) = true then scutageref01_Of.j2 (w64 (w64 (Int.tdiv (w64 (n_ * r_)) 1000000) + 1)) else scutageref01_Of.j2 (w64 (Int.tdiv (w64 (n_ * r_)) 1000000)))))
def scutageref01_Of (n_ : Int) (r_ : Int) : Option (Int × Bool) := (if (decide (n_ < (-400000000000))) = true then scutageref01_Of.j1 n_ r_ true else (if (decide (n_ > 400000000000)) = true then scutageref01_Of.j1 n_ r_ true else (if (decide (r_ < 0)) = true then scutageref01_Of.j1 n_ r_ true else scutageref01_Of.j1 n_ r_ (decide (r_ > 10000000)))))

def scutageref01_Part (n_ : Int) (r_ : Int) : Option Int := ((scutageref01_Of n_ r_).bind fun (y1, y2) => some y1)

def scutageref19_Convert.l2 (fx : Int) : List api_Item → (Int × List api_Item × Int) → Option (List api_Item × Int)
  | [], (i61, xs55, v56) => some (xs55, v56)
  | y66 :: ys65, (i61, xs55, v56) => ((scutageref01_Part y66.Amount fx).bind fun y83 => (gd (fit xs55.length ([(⟨y66.Kind, y83⟩ : api_Item)].length)) ((scutageref19_Convert.l2 fx ys65) (i61 + 1, xs55 ++ [(⟨y66.Kind, y83⟩ : api_Item)], w64 (v56 - y83)))))
def scutageref19_Convert.l1  : List api_Item → (Int × Int) → Option ((List api_Item × Int × Int) ⊕ Int)
  | [], (i17, v12) => some (.inr v12)
  | y22 :: ys21, (i17, v12) => ((scutageref19_far y22.Amount).bind fun y102 => (if y102 = true then some (.inl (([] : List api_Item), 0, 1)) else (scutageref19_Convert.l1 ys21) (i17 + 1, w64 (v12 + y22.Amount))))
def scutageref19_Convert.j1 (items : List api_Item) (fx : Int) (q7 : Bool) : Option (List api_Item × Int × Int) := (if q7 = true then some (([] : List api_Item), 0, 1) else ((scutageref19_Convert.l1  items (0, 0)).bind fun tt => match tt with | .inl rr => some rr | .inr v12 => ((scutageref19_far v12).bind fun y33 => (if y33 = true then some (([] : List api_Item), 0, 1) else ((scutageref01_Part v12 fx).bind fun y40 => ((scutageref19_Convert.l2 fx items (0, ([] : List api_Item), y40)).bind fun (xs55, v56) => some (xs55, v56, 0)))))))
def scutageref19_Convert (items : List api_Item) (fx : Int) : Option (List api_Item × Int × Int) := (if (decide (fx < 1)) = true then scutageref19_Convert.j1 items fx true else (if (decide (fx > 10000000)) = true then scutageref19_Convert.j1 items fx true else scutageref19_Convert.j1 items fx (decide ((items.length : Int) > 20))))

def scutagekeep_Same_api_Item.l1 (a_ : List api_Item) (b_ : List api_Item) : Nat → Int → Option (Bool ⊕ Unit)
  | 0, _ => none
  | fuel25 + 1, v15 => (if (decide (v15 < (a_.length : Int))) = true then (gd ((0 : Int) ≤ v15 ∧ v15 < (a_.length : Int)) (gd ((0 : Int) ≤ v15 ∧ v15 < (b_.length : Int)) (if (!(((rd a_ v15).Kind) == ((rd b_ v15).Kind) && (((rd a_ v15).Amount) == ((rd b_ v15).Amount)))) = true then some (.inl false) else (scutagekeep_Same_api_Item.l1 a_ b_ fuel25) (w64 (v15 + 1))))) else some (.inr ()))
def scutagekeep_Same_api_Item (a_ : List api_Item) (b_ : List api_Item) : Option Bool := (if ((a_.length : Int) != (b_.length : Int)) = true then some false else ((scutagekeep_Same_api_Item.l1 a_ b_ FUEL 0).bind fun tt => match tt with | .inl rr => some rr | .inr _ => some true))

def slices_Grow_api_Item_nil0.j1 (xs7 : List api_Item) : Option (List api_Item) := some xs7
def slices_Grow_api_Item_nil0 (n_ : Int) : Option (List api_Item) := (if (decide (n_ < 0)) = true then none else (if (decide (w64 (n_ - 0) > 0)) = true then (gd ((0 : Int) ≤ w64 (n_ - 0) ∧ fit (Int.toNat (w64 (n_ - 0))) 0) (gd (0 ≤ (0 : Int) ∧ (0 : Int) ≤ 0 ∧ 0 ≤ ((List.replicate (Int.toNat (w64 (n_ - 0))) (⟨0, 0⟩ : api_Item)).length : Int)) (slices_Grow_api_Item_nil0.j1 (sb (List.replicate (Int.toNat (w64 (n_ - 0))) (⟨0, 0⟩ : api_Item)) (0 : Int) 0)))) else slices_Grow_api_Item_nil0.j1 ([] : List api_Item)))

def slices_Concat_api_Item_elems0 (slices0 : List api_Item) (slices1 : List api_Item) : Option (List api_Item) := (if (decide (w64 (0 + (slices0.length : Int)) < 0)) = true then none else (if (decide (w64 (w64 (0 + (slices0.length : Int)) + (slices1.length : Int)) < 0)) = true then none else ((slices_Grow_api_Item_nil0 (w64 (w64 (0 + (slices0.length : Int)) + (slices1.length : Int)))).bind fun y20 => (gd (fit y20.length slices0.length) (gd (fit ((y20 ++ slices0).length) slices1.length) (some ((y20 ++ slices0) ++ slices1)))))))

def slices_IndexFunc_api_Item.l1 (f_ : api_Item → Option Bool) : List api_Item → Int → Option (Int ⊕ Unit)
  | [], i17 => some (.inr ())
  | y22 :: ys21, i17 => ((f_ y22).bind fun y34 => (if y34 = true then some (.inl i17) else (slices_IndexFunc_api_Item.l1 f_ ys21) (i17 + 1)))
def slices_IndexFunc_api_Item (s_ : List api_Item) (f_ : api_Item → Option Bool) : Option Int := ((slices_IndexFunc_api_Item.l1 f_ s_ 0).bind fun tt => match tt with | .inl rr => some rr | .inr _ => some (-1))

def fx_Add_c1 (y_ : api_Item) (cap1 : api_Item) : Option Bool := some (y_.Kind == cap1.Kind)

def math_bits_Len64 (x_ : Int) : Option Int := (if (decide (x_ ≥ 4294967296)) = true then none else (if (decide (x_ ≥ 65536)) = true then none else (if (decide (x_ ≥ 256)) = true then none else (gd ((0 : Int) ≤ IntKind.u8.wrap x_ ∧ IntKind.u8.wrap x_ < ((⟨#[0, 1, 2, 2, 3, 3, 3, 3, 4, 4, 4, 4, 4, 4, 4, 4, 5, 5, 5, 5, 5, 5, 5, 5, 5, 5, 5, 5, 5, 5, 5, 5, 6, 6, 6, 6, 6, 6, 6, 6, 6, 6, 6, 6, 6, 6, 6, 6, 6, 6, 6, 6, 6, 6, 6, 6, 6, 6, 6, 6, 6, 6, 6, 6, 7, 7, 7, 7, 7, 7, 7, 7, 7, 7, 7, 7, 7, 7, 7, 7, 7, 7, 7, 7, 7, 7, 7, 7, 7, 7, 7, 7, 7, 7, 7, 7, 7, 7, 7, 7, 7, 7, 7, 7, 7, 7, 7, 7, 7, 7, 7, 7, 7, 7, 7, 7, 7, 7, 7, 7, 7, 7, 7, 7, 7, 7, 7, 7, 8, 8, 8, 8, 8, 8, 8, 8, 8, 8, 8, 8, 8, 8, 8, 8, 8, 8, 8, 8, 8, 8, 8, 8, 8, 8, 8, 8, 8, 8, 8, 8, 8, 8, 8, 8, 8, 8, 8, 8, 8, 8, 8, 8, 8, 8, 8, 8, 8, 8, 8, 8, 8, 8, 8, 8, 8, 8, 8, 8, 8, 8, 8, 8, 8, 8, 8, 8, 8, 8, 8, 8, 8, 8, 8, 8, 8, 8, 8, 8, 8, 8, 8, 8, 8, 8, 8, 8, 8, 8, 8, 8, 8, 8, 8, 8, 8, 8, 8, 8, 8, 8, 8, 8, 8, 8, 8, 8, 8, 8, 8, 8, 8, 8, 8, 8, 8, 8, 8, 8, 8, 8, 8, 8, 8, 8, 8, 8]⟩ : ByteArray).size : Int)) (some (w64 (0 + w64 (byteAt (⟨#[0, 1, 2, 2, 3, 3, 3, 3, 4, 4, 4, 4, 4, 4, 4, 4, 5, 5, 5, 5, 5, 5, 5, 5, 5, 5, 5, 5, 5, 5, 5, 5, 6, 6, 6, 6, 6, 6, 6, 6, 6, 6, 6, 6, 6, 6, 6, 6, 6, 6, 6, 6, 6, 6, 6, 6, 6, 6, 6, 6, 6, 6, 6, 6, 7, 7, 7, 7, 7, 7, 7, 7, 7, 7, 7, 7, 7, 7, 7, 7, 7, 7, 7, 7, 7, 7, 7, 7, 7, 7, 7, 7, 7, 7, 7, 7, 7, 7, 7, 7, 7, 7, 7, 7, 7, 7, 7, 7, 7, 7, 7, 7, 7, 7, 7, 7, 7, 7, 7, 7, 7, 7, 7, 7, 7, 7, 7, 7, 8, 8, 8, 8, 8, 8, 8, 8, 8, 8, 8, 8, 8, 8, 8, 8, 8, 8, 8, 8, 8, 8, 8, 8, 8, 8, 8, 8, 8, 8, 8, 8, 8, 8, 8, 8, 8, 8, 8, 8, 8, 8, 8, 8, 8, 8, 8, 8, 8, 8, 8, 8, 8, 8, 8, 8, 8, 8, 8, 8, 8, 8, 8, 8, 8, 8, 8, 8, 8, 8, 8, 8, 8, 8, 8, 8, 8, 8, 8, 8, 8, 8, 8, 8, 8, 8, 8, 8, 8, 8, 8, 8, 8, 8, 8, 8, 8, 8, 8, 8, 8, 8, 8, 8, 8, 8, 8, 8, 8, 8, 8, 8, 8, 8, 8, 8, 8, 8, 8, 8, 8, 8, 8, 8, 8, 8, 8, 8]⟩ : ByteArray) (IntKind.u8.wrap x_)))))))))

def math_bits_Len (x_ : Int) : Option Int := ((math_bits_Len64 x_).bind fun y1 => some y1)

def slices_insertionSortCmpFunc_api_Item.j1 (v30 : Int) (xs29 : List api_Item) (rec41 : (List api_Item × Int) → Option (List api_Item)) (q43 : Bool) : Option (List api_Item) := (if q43 = true then (gd ((0 : Int) ≤ w64 (v30 - 1) ∧ w64 (v30 - 1) < (xs29.length : Int)) (gd ((0 : Int) ≤ v30 ∧ v30 < (xs29.length : Int)) (gd ((0 : Int) ≤ w64 (v30 - 1) ∧ w64 (v30 - 1) < ((xs29.set (Int.toNat v30) (rd xs29 (w64 (v30 - 1)))).length : Int)) (rec41 ((xs29.set (Int.toNat v30) (rd xs29 (w64 (v30 - 1)))).set (Int.toNat (w64 (v30 - 1))) (rd xs29 v30), w64 (v30 - 1)))))) else some xs29)
def slices_insertionSortCmpFunc_api_Item.l2 (a_ : Int) (cmp : (api_Item × api_Item) → Option Int) : Nat → (List api_Item × Int) → Option (List api_Item)
  | 0, _ => none
  | fuel40 + 1, (xs29, v30) => (if (decide (v30 > a_)) = true then (gd ((0 : Int) ≤ v30 ∧ v30 < (xs29.length : Int)) (gd ((0 : Int) ≤ w64 (v30 - 1) ∧ w64 (v30 - 1) < (xs29.length : Int)) ((cmp ((rd xs29 v30), (rd xs29 (w64 (v30 - 1))))).bind fun y185 => slices_insertionSortCmpFunc_api_Item.j1 v30 xs29 (slices_insertionSortCmpFunc_api_Item.l2 a_ cmp fuel40) (decide (y185 < 0))))) else slices_insertionSortCmpFunc_api_Item.j1 v30 xs29 (slices_insertionSortCmpFunc_api_Item.l2 a_ cmp fuel40) false)
def slices_insertionSortCmpFunc_api_Item.l1 (b_ : Int) (a_ : Int) (cmp : (api_Item × api_Item) → Option Int) : Nat → (List api_Item × Int) → Option (List api_Item)
  | 0, _ => none
  | fuel23 + 1, (xs12, v13) => (if (decide (v13 < b_)) = true then ((slices_insertionSortCmpFunc_api_Item.l2 a_ cmp FUEL (xs12, v13)).bind fun xs29 => (slices_insertionSortCmpFunc_api_Item.l1 b_ a_ cmp fuel23) (xs29, w64 (v13 + 1))) else some xs12)
def slices_insertionSortCmpFunc_api_Item (data : List api_Item) (a_ : Int) (b_ : Int) (cmp : (api_Item × api_Item) → Option Int) : Option (List api_Item) := ((slices_insertionSortCmpFunc_api_Item.l1 b_ a_ cmp FUEL (data, w64 (a_ + 1))).bind fun xs12 => some xs12)

def slices_pdqsortCmpFunc_api_Item.l1 (b_ : Int) (a_ : Int) (data : List api_Item) (cmp : (api_Item × api_Item) → Option Int) : Nat → Unit → Option ((List api_Item) ⊕ Unit)
  | 0, _ => none
  | fuel19 + 1, () => (if (decide (w64 (b_ - a_) ≤ 12)) = true then ((slices_insertionSortCmpFunc_api_Item data a_ b_ cmp).bind fun y23 => some (.inl y23)) else none)
def slices_pdqsortCmpFunc_api_Item (data : List api_Item) (a_ : Int) (b_ : Int) (limit : Int) (cmp : (api_Item × api_Item) → Option Int) : Option (List api_Item) := ((slices_pdqsortCmpFunc_api_Item.l1 b_ a_ data cmp FUEL ()).bind fun tt => match tt with | .inl rr => some rr | .inr _ => none)

def slices_SortFunc_api_Item (x_ : List api_Item) (cmp : (api_Item × api_Item) → Option Int) : Option (List api_Item) := ((math_bits_Len (IntKind.u64.wrap (x_.length : Int))).bind fun y10 => ((slices_pdqsortCmpFunc_api_Item x_ 0 (x_.length : Int) y10 cmp).bind fun y15 => some y15))

def cmp_isNaN_int (x_ : Int) : Option Bool := some (x_ != x_)

def cmp_Compare_int (x_ : Int) (y_ : Int) : Option Int := ((cmp_isNaN_int x_).bind fun y1 => ((cmp_isNaN_int y_).bind fun y6 => (if y1 = true then (if y6 = true then some 0 else some (-1)) else (if y6 = true then some 1 else (if (decide (x_ < y_)) = true then some (-1) else (if (decide (x_ > y_)) = true then some 1 else some 0))))))

def fx_Add_c2 (x_ : api_Item) (y_ : api_Item) : Option Int := ((cmp_Compare_int x_.Kind y_.Kind).bind fun y7 => some y7)

def fx_Add.j1 (rec45 : (Int × List api_Item) → Option (List api_Item)) (i38 : Int) (y43 : api_Item) (xs73 : List api_Item) (v74 : Int) : Option (List api_Item) := (gd ((0 : Int) ≤ v74 ∧ v74 < (xs73.length : Int)) (rec45 (i38 + 1, xs73.set (Int.toNat v74) (⟨(rd xs73 v74).Kind, w64 ((rd xs73 v74).Amount + y43.Amount)⟩ : api_Item))))
def fx_Add.l1  : List api_Item → (Int × List api_Item) → Option (List api_Item)
  | [], (i38, xs33) => some xs33
  | y43 :: ys42, (i38, xs33) => ((slices_IndexFunc_api_Item xs33 (fun x => fx_Add_c1 x y43)).bind fun y65 => (if (decide (y65 < 0)) = true then (gd (fit xs33.length ([(⟨y43.Kind, 0⟩ : api_Item)].length)) (fx_Add.j1 (fx_Add.l1 ys42) i38 y43 (xs33 ++ [(⟨y43.Kind, 0⟩ : api_Item)]) (xs33.length : Int))) else fx_Add.j1 (fx_Add.l1 ys42) i38 y43 xs33 y65))
def fx_Add (a_ : List api_Item) (b_ : List api_Item) : Option (List api_Item) := ((slices_Concat_api_Item_elems0 a_ b_).bind fun y16 => ((fx_Add.l1  y16 (0, ([] : List api_Item))).bind fun xs33 => ((slices_SortFunc_api_Item xs33 (fun x => fx_Add_c2 x.1 x.2)).bind fun y54 => some y54)))

def scutageref19_AddItems.j1 (rec45 : (Int × List api_Item) → Option (List api_Item)) (i38 : Int) (xs57 : List api_Item) : Option (List api_Item) := rec45 (i38 + 1, xs57)
def scutageref19_AddItems.j3 (v66 : Int) (xs33 : List api_Item) (rec45 : (Int × List api_Item) → Option (List api_Item)) (i38 : Int) (y43 : api_Item) (q82 : Bool) : Option (List api_Item) := (if q82 = true then (gd ((0 : Int) ≤ v66 ∧ v66 < (xs33.length : Int)) (scutageref19_AddItems.j1 rec45 i38 (xs33.set (Int.toNat v66) (⟨(rd xs33 v66).Kind, w64 ((rd xs33 v66).Amount + y43.Amount)⟩ : api_Item)))) else (gd (0 ≤ (0 : Int) ∧ (0 : Int) ≤ v66 ∧ v66 ≤ v66 ∧ v66 ≤ (xs33.length : Int)) (gd (0 ≤ v66 ∧ v66 ≤ (xs33.length : Int) ∧ (xs33.length : Int) ≤ (xs33.length : Int)) (gd (fit ([y43].length) ((sb xs33 v66 (xs33.length : Int)).length)) (gd (fit ((sb xs33 (0 : Int) v66).length) (([y43] ++ (sb xs33 v66 (xs33.length : Int))).length)) (scutageref19_AddItems.j1 rec45 i38 ((sb xs33 (0 : Int) v66) ++ ([y43] ++ (sb xs33 v66 (xs33.length : Int))))))))))
def scutageref19_AddItems.j2 (rec77 : Int → Option Int) (v66 : Int) (q79 : Bool) : Option Int := (if q79 = true then rec77 (w64 (v66 + 1)) else some v66)
def scutageref19_AddItems.l2 (xs33 : List api_Item) (y43 : api_Item) : Nat → Int → Option Int
  | 0, _ => none
  | fuel76 + 1, v66 => (if (decide (v66 < (xs33.length : Int))) = true then (gd ((0 : Int) ≤ v66 ∧ v66 < (xs33.length : Int)) (scutageref19_AddItems.j2 (scutageref19_AddItems.l2 xs33 y43 fuel76) v66 (decide ((rd xs33 v66).Kind < y43.Kind)))) else scutageref19_AddItems.j2 (scutageref19_AddItems.l2 xs33 y43 fuel76) v66 false)
def scutageref19_AddItems.l1  : List api_Item → (Int × List api_Item) → Option (List api_Item)
  | [], (i38, xs33) => some xs33
  | y43 :: ys42, (i38, xs33) => ((scutageref19_AddItems.l2 xs33 y43 FUEL 0).bind fun v66 => (if (decide (v66 < (xs33.length : Int))) = true then (gd ((0 : Int) ≤ v66 ∧ v66 < (xs33.length : Int)) (scutageref19_AddItems.j3 v66 xs33 (scutageref19_AddItems.l1 ys42) i38 y43 ((rd xs33 v66).Kind == y43.Kind))) else scutageref19_AddItems.j3 v66 xs33 (scutageref19_AddItems.l1 ys42) i38 y43 false))
def scutageref19_AddItems (a_ : List api_Item) (b_ : List api_Item) : Option (List api_Item) := (gd (fit (([] : List api_Item).length) a_.length) (gd (fit ((([] : List api_Item) ++ a_).length) b_.length) ((scutageref19_AddItems.l1  ((([] : List api_Item) ++ a_) ++ b_) (0, ([] : List api_Item))).bind fun xs33 => some xs33)))

def scutagelaw25_wakes.j1 (q14 : Bool) : Option Bool := some q14
def scutagelaw25_wakes  : Option Bool := ((fx_Convert [(⟨1, 1⟩ : api_Item), (⟨2, 1⟩ : api_Item), (⟨3, 1⟩ : api_Item)] 500000).bind fun (y4, y5, y6) => (if (y6 == 0) = true then (if ((y4.length : Int) == 3) = true then (gd ((0 : Int) ≤ 0 ∧ 0 < (y4.length : Int)) (if ((rd y4 0).Amount == 1) = true then scutagelaw25_wakes.j1 (y5 == (-1)) else scutagelaw25_wakes.j1 false)) else scutagelaw25_wakes.j1 false) else scutagelaw25_wakes.j1 false))

def scutagelaw25_FxTells.j3 (q112 : Bool) : Option Bool := some q112
def scutagelaw25_FxTells.l2  : List api_Item → (Int × List api_Item) → Option (List api_Item)
  | [], (i96, xs91) => some xs91
  | y101 :: ys100, (i96, xs91) => (gd ((0 : Int) ≤ i96 ∧ i96 < (xs91.length : Int)) ((scutagelaw25_FxTells.l2 ys100) (i96 + 1, xs91.set (Int.toNat i96) (⟨(rd xs91 i96).Kind, Int.tmod ((rd xs91 i96).Amount) 1000000⟩ : api_Item))))
def scutagelaw25_FxTells.l1  : List api_Item → (Int × List api_Item) → Option (List api_Item)
  | [], (i74, xs69) => some xs69
  | y79 :: ys78, (i74, xs69) => (gd ((0 : Int) ≤ i74 ∧ i74 < (xs69.length : Int)) ((scutagelaw25_FxTells.l1 ys78) (i74 + 1, xs69.set (Int.toNat i74) (⟨(rd xs69 i74).Kind, Int.tmod ((rd xs69 i74).Amount) 1000000⟩ : api_Item))))
def scutagelaw25_FxTells.j2 (y19 : List api_Item) (y27 : List api_Item) (q65 : Bool) : Option Bool := (if q65 = true then some false else ((scutagelaw25_FxTells.l1  y19 (0, y19)).bind fun xs69 => ((scutagelaw25_FxTells.l2  y27 (0, y27)).bind fun xs91 => ((fx_Add xs69 xs91).bind fun y114 => ((scutageref19_AddItems xs69 xs91).bind fun y122 => ((scutagekeep_Same_api_Item y114 y122).bind fun y130 => (if y130 = true then ((scutagelaw25_wakes).bind fun y136 => scutagelaw25_FxTells.j3 y136) else scutagelaw25_FxTells.j3 false)))))))
def scutagelaw25_FxTells.j1 (y19 : List api_Item) (y27 : List api_Item) (v35 : Int) : Option Bool := ((scutagekeep_Copy_api_Item y19).bind fun y37 => ((fx_Convert y19 v35).bind fun (y45, y46, y47) => ((scutageref19_Convert y19 v35).bind fun (y55, y56, y57) => ((scutagekeep_Same_api_Item y45 y55).bind fun y153 => (if (!y153) = true then scutagelaw25_FxTells.j2 y19 y27 true else (if (y46 != y56) = true then scutagelaw25_FxTells.j2 y19 y27 true else (if (y47 != y57) = true then scutagelaw25_FxTells.j2 y19 y27 true else ((scutagekeep_Same_api_Item y19 y37).bind fun y161 => scutagelaw25_FxTells.j2 y19 y27 (!y161)))))))))
def scutagelaw25_FxTells (kinds : List Int) (amounts : List Int) (other : List Int) (rate_ : Int) (raw : Bool) : Option Bool := ((scutagelaw25_items kinds amounts 22).bind fun y19 => ((scutagelaw25_items other amounts 9).bind fun y27 => (if (!raw) = true then ((scutagekeep_Within rate_ 20000000).bind fun y167 => scutagelaw25_FxTells.j1 y19 y27 (w64 (1 + y167))) else scutagelaw25_FxTells.j1 y19 y27 rate_)))

end Go.Proofs.Ytfoefkihcnenaaa
