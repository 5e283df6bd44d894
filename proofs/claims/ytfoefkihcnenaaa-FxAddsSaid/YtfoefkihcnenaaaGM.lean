/- What the functions come to: printed out of the translation by gen.py. -/
import Derived.Test.YtfoefkihcnenaaaCore11
set_option linter.unusedVariables false
set_option linter.unusedSimpArgs false
set_option maxRecDepth 100000
namespace Go.Proofs.Ytfoefkihcnenaaa
open Go Go.RowKit

structure api_Item where
  Kind : Int
  Amount : Int
  deriving Inhabited, DecidableEq

def scutagekeep_Within.j1 (v3 : Int) : Option Int := some v3
def scutagekeep_Within (v_ : Int) (n_ : Int) : Option Int := (if (decide (n_ < 1)) = true then some 0 else (gd (n_ ≠ (0 : Int)) (if (decide (Int.tmod v_ n_ < 0)) = true then scutagekeep_Within.j1 (w64 (Int.tmod v_ n_ + n_)) else scutagekeep_Within.j1 (Int.tmod v_ n_))))

def scutageplay_Amount (n_ : Int) : Option Int := (if (Int.tmod n_ 23 == 20) = true then ((scutagekeep_Within (w64 (Int.tdiv n_ 23)) 5).bind fun y2 => some (w64 (w64 (100000000000 - y2) + 2))) else (if (Int.tmod n_ 23 == 21) = true then ((scutagekeep_Within (w64 (Int.tdiv n_ 23)) 5).bind fun y9 => some (w64 (w64 ((-100000000000) + y9) - 2))) else (if (Int.tmod n_ 23 == 22) = true then some n_ else (if (Int.tmod n_ 23 == 19) = true then ((scutagekeep_Within (w64 (Int.tdiv n_ 23)) 200000000001).bind fun y17 => some (w64 (y17 - 100000000000))) else ((scutagekeep_Within n_ 4001).bind fun y23 => some (w64 (y23 - 2000)))))))

def scutagelaw25_items.j1 (v24 : Int) (kinds : List Int) (amounts : List Int) (xs23 : List api_Item) (rec35 : (List api_Item × Int) → Option (List api_Item)) (q37 : Bool) : Option (List api_Item) := (if q37 = true then (gd ((0 : Int) ≤ v24 ∧ v24 < (kinds.length : Int)) ((scutagekeep_Within (rd kinds v24) 9).bind fun y45 => (gd ((0 : Int) ≤ v24 ∧ v24 < (amounts.length : Int)) ((scutageplay_Amount (rd amounts v24)).bind fun y55 => (gd (fit xs23.length ([(⟨y45, y55⟩ : api_Item)].length)) (rec35 (xs23 ++ [(⟨y45, y55⟩ : api_Item)], w64 (v24 + 1)))))))) else some xs23)
def scutagelaw25_items.l1 (kinds : List Int) (amounts : List Int) (most : Int) : Nat → (List api_Item × Int) → Option (List api_Item)
  | 0, _ => none
  | fuel34 + 1, (xs23, v24) => (if (decide (v24 < (kinds.length : Int))) = true then (if (decide (v24 < (amounts.length : Int))) = true then scutagelaw25_items.j1 v24 kinds amounts xs23 (scutagelaw25_items.l1 kinds amounts most fuel34) (decide (v24 < most)) else scutagelaw25_items.j1 v24 kinds amounts xs23 (scutagelaw25_items.l1 kinds amounts most fuel34) false) else scutagelaw25_items.j1 v24 kinds amounts xs23 (scutagelaw25_items.l1 kinds amounts most fuel34) false)
def scutagelaw25_items (kinds : List Int) (amounts : List Int) (most : Int) : Option (List api_Item) := ((scutagelaw25_items.l1 kinds amounts most FUEL (([] : List api_Item), 0)).bind fun xs23 => some xs23)

def slices_Grow_api_Item_nil0.j1 (xs7 : List api_Item) : Option (List api_Item) := some xs7
def slices_Grow_api_Item_nil0 (n_ : Int) : Option (List api_Item) := (if (decide (n_ < 0)) = true then none else (if (decide (w64 (n_ - 0) > 0)) = true then (gd ((0 : Int) ≤ w64 (n_ - 0) ∧ fit (Int.toNat (w64 (n_ - 0))) 0) (gd (0 ≤ (0 : Int) ∧ (0 : Int) ≤ 0 ∧ 0 ≤ ((List.replicate (Int.toNat (w64 (n_ - 0))) (⟨0, 0⟩ : api_Item)).length : Int)) (slices_Grow_api_Item_nil0.j1 (sb (List.replicate (Int.toNat (w64 (n_ - 0))) (⟨0, 0⟩ : api_Item)) (0 : Int) 0)))) else slices_Grow_api_Item_nil0.j1 ([] : List api_Item)))

def slices_Concat_api_Item_elems0 (slices0 : List api_Item) (slices1 : List api_Item) : Option (List api_Item) := (if (decide (w64 (0 + (slices0.length : Int)) < 0)) = true then none else (if (decide (w64 (w64 (0 + (slices0.length : Int)) + (slices1.length : Int)) < 0)) = true then none else ((slices_Grow_api_Item_nil0 (w64 (w64 (0 + (slices0.length : Int)) + (slices1.length : Int)))).bind fun y20 => (gd (fit y20.length slices0.length) (gd (fit ((y20 ++ slices0).length) slices1.length) (some ((y20 ++ slices0) ++ slices1)))))))

def slices_IndexFunc_api_Item.l1 (f_ : api_Item → Option Bool) : List api_Item → Int → Option (Int ⊕ Unit)
  | [], i17 => some (.inr ())
  | y22 :: ys21, i17 => ((f_ y22).bind fun y34 => (if y34 = true then some (.inl i17) else (slices_IndexFunc_api_Item.l1 f_ ys21) (i17 + 1)))
def slices_IndexFunc_api_Item (s_ : List api_Item) (f_ : api_Item → Option Bool) : Option Int := ((slices_IndexFunc_api_Item.l1 f_ s_ 0).bind fun tt => match tt with | .inl rr => some rr | .inr _ => some (-1))

def fx_Add_c1 (y_ : api_Item) (cap1 : api_Item) : Option Bool := some (y_.Kind == cap1.Kind)

def math_bits_Len64 (x_ : Int) : Option Int := (if (decide (x_ ≥ 4294967296)) = true then none else (if (decide (x_ ≥ 65536)) = true then none else (if (decide (x_ ≥ 256)) = true then none else (gd ((0 : Int) ≤ IntKind.u8.wrap x_ ∧ IntKind.u8.wrap x_ < ((⟨#[0, 1, 2, 2, 3, 3, 3, 3, 4, 4, 4, 4, 4, 4, 4, 4, 5, 5, 5, 5, 5, 5, 5, 5, 5, 5, 5, 5, 5, 5, 5, 5, 6, 6, 6, 6, 6, 6, 6, 6, 6, 6, 6, 6, 6, 6, 6, 6, 6, 6, 6, 6, 6, 6, 6, 6, 6, 6, 6, 6, 6, 6, 6, 6, 7, 7, 7, 7, 7, 7, 7, 7, 7, 7, 7, 7, 7, 7, 7, 7, 7, 7, 7, 7, 7, 7, 7, 7, 7, 7, 7, 7, 7, 7, 7, 7, 7, 7, 7, 7, 7, 7, 7, 7, 7, 7, 7, 7, 7, 7, 7, 7, 7, 7, 7, 7, 7, 7, 7, 7, 7, 7, 7, 7, 7, 7, 7, 7, 8, 8, 8, 8, 8, 8, 8, 8, 8, 8, 8, 8, 8, 8, 8, 8, 8, 8, 8, 8, 8, 8, 8, 8, 8, 8, 8, 8, 8, 8, 8, 8, 8, 8, 8, 8, 8, 8, 8, 8, 8, 8, 8, 8, 8, 8, 8, 8, 8, 8, 8, 8, 8, 8, 8, 8, 8, 8, 8, 8, 8, 8, 8, 8, 8, 8, 8, 8, 8, 8, 8, 8, 8, 8, 8, 8, 8, 8, 8, 8, 8, 8, 8, 8, 8, 8, 8, 8, 8, 8, 8, 8, 8, 8, 8, 8, 8, 8, 8, 8, 8, 8, 8, 8, 8, 8, 8, 8, 8, 8, 8, 8, 8, 8, 8, 8, 8, 8, 8, 8, 8, 8, 8, 8, 8, 8, 8, 8]⟩ : ByteArray).size : Int)) (some (w64 (0 + w64 (byteAt (⟨#[0, 1, 2, 2, 3, 3, 3, 3, 4, 4, 4, 4, 4, 4, 4, 4, 5, 5, 5, 5, 5, 5, 5, 5, 5, 5, 5, 5, 5, 5, 5, 5, 6, 6, 6, 6, 6, 6, 6, 6, 6, 6, 6, 6, 6, 6, 6, 6, 6, 6, 6, 6, 6, 6, 6, 6, 6, 6, 6, 6, 6, 6, 6, 6, 7, 7, 7, 7, 7, 7, 7, 7, 7, 7, 7, 7, 7, 7, 7, 7, 7, 7, 7, 7, 7, 7, 7, 7, 7, 7, 7, 7, 7, 7, 7, 7, 7, 7, 7, 7, 7, 7, 7, 7, 7, 7, 7, 7, 7, 7, 7, 7, 7, 7, 7, 7, 7, 7, 7, 7, 7, 7, 7, 7, 7, 7, 7, 7, 8, 8, 8, 8, 8, 8, 8, 8, 8, 8, 8, 8, 8, 8, 8, 8, 8, 8, 8, 8, 8, 8, 8, 8, 8, 8, 8, 8, 8, 8, 8, 8, 8, 8, 8, 8, 8, 8, 8, 8, 8, 8, 8, 8, 8, 8, 8, 8, 8, 8, 8, 8, 8, 8, 8, 8, 8, 8, 8, 8, 8, 8, 8, 8, 8, 8, 8, 8, 8, 8, 8, 8, 8, 8, 8, 8, 8, 8, 8, 8, 8, 8, 8, 8, 8, 8, 8, 8, 8, 8, 8, 8, 8, 8, 8, 8, 8, 8, 8, 8, 8, 8, 8, 8, 8, 8, 8, 8, 8, 8, 8, 8, 8, 8, 8, 8, 8, 8, 8, 8, 8, 8, 8, 8, 8, 8, 8, 8]⟩ : ByteArray) (IntKind.u8.wrap x_)))))))))

def math_bits_Len (x_ : Int) : Option Int := ((math_bits_Len64 x_).bind fun y1 => some y1)

def slices_insertionSortCmpFunc_api_Item.j1 (v30 : Int) (xs29 : List api_Item) (rec41 : (List api_Item × Int) → Option (List api_Item)) (q43 : Bool) : Option (List api_Item) := (if q43 = true then (gd ((0 : Int) ≤ w64 (v30 - 1) ∧ w64 (v30 - 1) < (xs29.length : Int)) (gd ((0 : Int) ≤ v30 ∧ v30 < (xs29.length : Int)) (gd ((0 : Int) ≤ w64 (v30 - 1) ∧ w64 (v30 - 1) < ((xs29.set (Int.toNat v30) (rd xs29 (w64 (v30 - 1)))).length : Int)) (rec41 ((xs29.set (Int.toNat v30) (rd xs29 (w64 (v30 - 1)))).set (Int.toNat (w64 (v30 - 1))) (rd xs29 v30), w64 (v30 - 1)))))) else some xs29)
def slices_insertionSortCmpFunc_api_Item.l2 (a_ : Int) (cmp : (api_Item × api_Item) → Option Int) : Nat → (List api_Item × Int) → Option (List api_Item)
  | 0, _ => none
  | fuel40 + 1, (xs29, v30) => (if (decide (v30 > a_)) = true then (gd ((0 : Int) ≤ v30 ∧ v30 < (xs29.length : Int)) (gd ((0 : Int) ≤ w64 (v30 - 1) ∧ w64 (v30 - 1) < (xs29.length : Int)) ((cmp ((rd xs29 v30), (rd xs29 (w64 (v30 - 1))))).bind fun y185 => slices_insertionSortCmpFunc_api_Item.j1 v30 xs29 (slices_insertionSortCmpFunc_api_Item.l2 a_ cmp fuel40) (decide (y185 < 0))))) else slices_insertionSortCmpFunc_api_Item.j1 v30 xs29 (slices_insertionSortCmpFunc_api_Item.l2 a_ cmp fuel40) false)
def slices_insertionSortCmpFunc_api_Item.l1 (b_ : Int) (a_ : Int) (cmp : (api_Item × api_Item) → Option Int) : Nat → (List api_Item × Int) → Option (List api_Item)
  | 0, _ => none
  | fuel23 + 1, (xs12, v13) => (if (decide (v13 < b_)) = true then ((slices_insertionSortCmpFunc_api_Item.l2 a_ cmp FUEL (xs12, v13)).bind fun xs29 => (slices_insertionSortCmpFunc_api_Item.l1 b_ a_ cmp fuel23) (xs29, w64 (v13 + 1))) else some xs12)
def slices_insertionSortCmpFunc_api_Item (data : List api_Item) (a_ : Int) (b_ : Int) (cmp : (api_Item × api_Item) → Option Int) : Option (List api_Item) := ((slices_insertionSortCmpFunc_api_Item.l1 b_ a_ cmp FUEL (data, w64 (a_ + 1))).bind fun xs12 => some xs12)

def slices_pdqsortCmpFunc_api_Item.l1 (b_ : Int) (a_ : Int) (data : List api_Item) (cmp : (api_Item × api_Item) → Option Int) : Nat → Unit → Option ((List api_Item) ⊕ Unit)
  | 0, _ => none
  | fuel19 + 1, () => (if (decide (w64 (b_ - a_) ≤ 12)) = true then ((slices_insertionSortCmpFunc_api_Item data a_ b_ cmp).bind fun y23 => some (.inl y23)) else none)
def slices_pdqsortCmpFunc_api_Item (data : List api_Item) (a_ : Int) (b_ : Int) (limit : Int) (cmp : (api_Item × api_Item) → Option Int) : Option (List api_Item) := ((slices_pdqsortCmpFunc_api_Item.l1 b_ a_ data cmp FUEL ()).bind fun tt => match tt with | .inl rr => some rr | .inr _ => none)

def slices_SortFunc_api_Item (x_ : List api_Item) (cmp : (api_Item × api_Item) → Option Int) : Option (List api_Item) := ((math_bits_Len (IntKind.u64.wrap (x_.length : Int))).bind fun y10 => ((slices_pdqsortCmpFunc_api_Item x_ 0 (x_.length : Int) y10 cmp).bind fun y16 => some y16))

def cmp_isNaN_int (x_ : Int) : Option Bool := some (x_ != x_)

def cmp_Compare_int (x_ : Int) (y_ : Int) : Option Int := ((cmp_isNaN_int x_).bind fun y1 => ((cmp_isNaN_int y_).bind fun y7 => (if y1 = true then (if y7 = true then some 0 else some (-1)) else (if y7 = true then some 1 else (if (decide (x_ < y_)) = true then some (-1) else (if (decide (x_ > y_)) = true then some 1 else some 0))))))

def fx_Add_c2 (x_ : api_Item) (y_ : api_Item) : Option Int := ((cmp_Compare_int x_.Kind y_.Kind).bind fun y7 => some y7)

def fx_Add.j1 (rec46 : (Int × List api_Item) → Option (List api_Item)) (i39 : Int) (y44 : api_Item) (xs76 : List api_Item) (v77 : Int) : Option (List api_Item) := (gd ((0 : Int) ≤ v77 ∧ v77 < (xs76.length : Int)) (rec46 (i39 + 1, xs76.set (Int.toNat v77) (⟨(rd xs76 v77).Kind, w64 ((rd xs76 v77).Amount + y44.Amount)⟩ : api_Item))))
def fx_Add.l1  : List api_Item → (Int × List api_Item) → Option (List api_Item)
  | [], (i39, xs34) => some xs34
  | y44 :: ys43, (i39, xs34) => ((slices_IndexFunc_api_Item xs34 (fun x => fx_Add_c1 x y44)).bind fun y67 => (if (decide (y67 < 0)) = true then (gd (fit xs34.length ([(⟨y44.Kind, 0⟩ : api_Item)].length)) (fx_Add.j1 (fx_Add.l1 ys43) i39 y44 (xs34 ++ [(⟨y44.Kind, 0⟩ : api_Item)]) (xs34.length : Int))) else fx_Add.j1 (fx_Add.l1 ys43) i39 y44 xs34 y67))
def fx_Add (a_ : List api_Item) (b_ : List api_Item) : Option (List api_Item) := ((slices_Concat_api_Item_elems0 a_ b_).bind fun y16 => ((fx_Add.l1  y16 (0, ([] : List api_Item))).bind fun xs34 => ((slices_SortFunc_api_Item xs34 (fun x => fx_Add_c2 x.1 x.2)).bind fun y55 => some y55)))

def scutagekeep_Same_api_Item.l1 (a_ : List api_Item) (b_ : List api_Item) : Nat → Int → Option (Bool ⊕ Unit)
  | 0, _ => none
  | fuel25 + 1, v15 => (if (decide (v15 < (a_.length : Int))) = true then (gd ((0 : Int) ≤ v15 ∧ v15 < (a_.length : Int)) (gd ((0 : Int) ≤ v15 ∧ v15 < (b_.length : Int)) (if (!(((rd a_ v15).Kind) == ((rd b_ v15).Kind) && (((rd a_ v15).Amount) == ((rd b_ v15).Amount)))) = true then some (.inl false) else (scutagekeep_Same_api_Item.l1 a_ b_ fuel25) (w64 (v15 + 1))))) else some (.inr ()))
def scutagekeep_Same_api_Item (a_ : List api_Item) (b_ : List api_Item) : Option Bool := (if ((a_.length : Int) != (b_.length : Int)) = true then some false else ((scutagekeep_Same_api_Item.l1 a_ b_ FUEL 0).bind fun tt => match tt with | .inl rr => some rr | .inr _ => some true))

def fx_near.j1 (q1 : Bool) : Option Bool := some q1
def fx_near (n_ : Int) : Option Bool := (if (decide (n_ ≥ (-400000000000))) = true then fx_near.j1 (decide (n_ ≤ 400000000000)) else fx_near.j1 false)

def rate_Of.j1 (n_ : Int) (rate_ : Int) (q1 : Bool) : Option (Int × Bool) := (if q1 = true then some (0, false) else (if (decide (n_ < 0)) = true then some (w64 (Int.tdiv (w64 (w64 (w64 (2 * n_) * rate_) - 1000000)) 2000000), true) else some (w64 (Int.tdiv (w64 (w64 (w64 (2 * n_) * rate_) + 1000000)) 2000000), true)))
def rate_Of (n_ : Int) (rate_ : Int) : Option (Int × Bool) := (if (decide (n_ < (-400000000000))) = true then rate_Of.j1 n_ rate_ true else (if (decide (n_ > 400000000000)) = true then rate_Of.j1 n_ rate_ true else (if (decide (rate_ < 0)) = true then rate_Of.j1 n_ rate_ true else rate_Of.j1 n_ rate_ (decide (rate_ > 10000000)))))

def fx_Convert.l1 (fx : Int) : List api_Item → (Int × Int × Int × List api_Item) → Option ((List api_Item × Int × Int) ⊕ (Int × List api_Item × Int))
  | [], (i29, v18, v19, xs24) => some (.inr (v18, xs24, v19))
  | y34 :: ys33, (i29, v18, v19, xs24) => ((fx_near y34.Amount).bind fun y60 => (if (!y60) = true then some (.inl (([] : List api_Item), 0, 1)) else ((rate_Of y34.Amount fx).bind fun (y68, y69) => (gd (fit xs24.length ([(⟨y34.Kind, y68⟩ : api_Item)].length)) ((fx_Convert.l1 fx ys33) (i29 + 1, w64 (v18 + y34.Amount), w64 (v19 + y68), xs24 ++ [(⟨y34.Kind, y68⟩ : api_Item)]))))))
def fx_Convert.j1 (fx : Int) (items : List api_Item) (q7 : Bool) : Option (List api_Item × Int × Int) := (if q7 = true then some (([] : List api_Item), 0, 1) else ((fx_Convert.l1 fx items (0, 0, 0, ([] : List api_Item))).bind fun tt => match tt with | .inl rr => some rr | .inr (v18, xs24, v19) => ((rate_Of v18 fx).bind fun (y45, y46) => (if (!y46) = true then some (([] : List api_Item), 0, 1) else some (xs24, w64 (y45 - v19), 0)))))
def fx_Convert (items : List api_Item) (fx : Int) : Option (List api_Item × Int × Int) := (if (decide (fx < 1)) = true then fx_Convert.j1 fx items true else (if (decide (fx > 10000000)) = true then fx_Convert.j1 fx items true else fx_Convert.j1 fx items (decide ((items.length : Int) > 20))))

def scutagelaw25_wakes.j1 (q15 : Bool) : Option Bool := some q15
def scutagelaw25_wakes  : Option Bool := ((fx_Convert [(⟨1, 1⟩ : api_Item), (⟨2, 1⟩ : api_Item), (⟨3, 1⟩ : api_Item)] 500000).bind fun (y4, y5, y6) => (if (y6 == 0) = true then (if ((y4.length : Int) == 3) = true then (gd ((0 : Int) ≤ 0 ∧ 0 < (y4.length : Int)) (if ((rd y4 0).Amount == 1) = true then scutagelaw25_wakes.j1 (y5 == (-1)) else scutagelaw25_wakes.j1 false)) else scutagelaw25_wakes.j1 false) else scutagelaw25_wakes.j1 false))

def scutagelaw25_FxAdds.j1 (q117 : Bool) : Option Bool := some q117
def scutagelaw25_FxAdds.j2 (rec108 : Int → Option (Bool ⊕ Unit)) (i101 : Int) (q164 : Bool) : Option (Bool ⊕ Unit) := (if q164 = true then some (.inl false) else rec108 (i101 + 1))
def scutagelaw25_FxAdds.l3 (y88 : List api_Item) (mm67 : List (Int × Int)) : List api_Item → Int → Option (Bool ⊕ Unit)
  | [], i101 => some (.inr ())
  | y106 :: ys105, i101 => (if (decide (i101 > 0)) = true then (gd ((0 : Int) ≤ w64 (i101 - 1) ∧ w64 (i101 - 1) < (y88.length : Int)) (if (decide (y106.Kind ≤ (rd y88 (w64 (i101 - 1))).Kind)) = true then scutagelaw25_FxAdds.j2 (scutagelaw25_FxAdds.l3 y88 mm67 ys105) i101 true else (gd (i64ok y106.Kind) (scutagelaw25_FxAdds.j2 (scutagelaw25_FxAdds.l3 y88 mm67 ys105) i101 (y106.Amount != mgetD mm67 y106.Kind))))) else (gd (i64ok y106.Kind) (scutagelaw25_FxAdds.j2 (scutagelaw25_FxAdds.l3 y88 mm67 ys105) i101 (y106.Amount != mgetD mm67 y106.Kind))))
def scutagelaw25_FxAdds.l2  : List api_Item → (Int × List api_Item × List (Int × Int)) → Option (List api_Item × List (Int × Int))
  | [], (i72, xs66, mm67) => some (xs66, mm67)
  | y77 :: ys76, (i72, xs66, mm67) => (gd ((0 : Int) ≤ i72 ∧ i72 < (xs66.length : Int)) (gd ((0 : Int) ≤ i72 ∧ i72 < ((xs66.set (Int.toNat i72) (⟨(rd xs66 i72).Kind, Int.tmod ((rd xs66 i72).Amount) 1000000⟩ : api_Item)).length : Int)) (gd (i64ok ((rd (xs66.set (Int.toNat i72) (⟨(rd xs66 i72).Kind, Int.tmod ((rd xs66 i72).Amount) 1000000⟩ : api_Item)) i72).Kind)) (gd (i64ok ((rd (xs66.set (Int.toNat i72) (⟨(rd xs66 i72).Kind, Int.tmod ((rd xs66 i72).Amount) 1000000⟩ : api_Item)) i72).Kind) ∧ i64ok (w64 (mgetD mm67 ((rd (xs66.set (Int.toNat i72) (⟨(rd xs66 i72).Kind, Int.tmod ((rd xs66 i72).Amount) 1000000⟩ : api_Item)) i72).Kind) + (rd (xs66.set (Int.toNat i72) (⟨(rd xs66 i72).Kind, Int.tmod ((rd xs66 i72).Amount) 1000000⟩ : api_Item)) i72).Amount)) ∧ mm67.length < 100000000) ((scutagelaw25_FxAdds.l2 ys76) (i72 + 1, xs66.set (Int.toNat i72) (⟨(rd xs66 i72).Kind, Int.tmod ((rd xs66 i72).Amount) 1000000⟩ : api_Item), mput mm67 ((rd (xs66.set (Int.toNat i72) (⟨(rd xs66 i72).Kind, Int.tmod ((rd xs66 i72).Amount) 1000000⟩ : api_Item)) i72).Kind) (w64 (mgetD mm67 ((rd (xs66.set (Int.toNat i72) (⟨(rd xs66 i72).Kind, Int.tmod ((rd xs66 i72).Amount) 1000000⟩ : api_Item)) i72).Kind) + (rd (xs66.set (Int.toNat i72) (⟨(rd xs66 i72).Kind, Int.tmod ((rd xs66 i72).Amount) 1000000⟩ : api_Item)) i72).Amount))))))))
def scutagelaw25_FxAdds.l1  : List api_Item → (Int × List api_Item × List (Int × Int)) → Option (List (Int × Int) × List api_Item)
  | [], (i48, xs42, mm43) => some (mm43, xs42)
  | y53 :: ys52, (i48, xs42, mm43) => (gd ((0 : Int) ≤ i48 ∧ i48 < (xs42.length : Int)) (gd ((0 : Int) ≤ i48 ∧ i48 < ((xs42.set (Int.toNat i48) (⟨(rd xs42 i48).Kind, Int.tmod ((rd xs42 i48).Amount) 1000000⟩ : api_Item)).length : Int)) (gd (i64ok ((rd (xs42.set (Int.toNat i48) (⟨(rd xs42 i48).Kind, Int.tmod ((rd xs42 i48).Amount) 1000000⟩ : api_Item)) i48).Kind)) (gd (i64ok ((rd (xs42.set (Int.toNat i48) (⟨(rd xs42 i48).Kind, Int.tmod ((rd xs42 i48).Amount) 1000000⟩ : api_Item)) i48).Kind) ∧ i64ok (w64 (mgetD mm43 ((rd (xs42.set (Int.toNat i48) (⟨(rd xs42 i48).Kind, Int.tmod ((rd xs42 i48).Amount) 1000000⟩ : api_Item)) i48).Kind) + (rd (xs42.set (Int.toNat i48) (⟨(rd xs42 i48).Kind, Int.tmod ((rd xs42 i48).Amount) 1000000⟩ : api_Item)) i48).Amount)) ∧ mm43.length < 100000000) ((scutagelaw25_FxAdds.l1 ys52) (i48 + 1, xs42.set (Int.toNat i48) (⟨(rd xs42 i48).Kind, Int.tmod ((rd xs42 i48).Amount) 1000000⟩ : api_Item), mput mm43 ((rd (xs42.set (Int.toNat i48) (⟨(rd xs42 i48).Kind, Int.tmod ((rd xs42 i48).Amount) 1000000⟩ : api_Item)) i48).Kind) (w64 (mgetD mm43 ((rd (xs42.set (Int.toNat i48) (⟨(rd xs42 i48).Kind, Int.tmod ((rd xs42 i48).Amount) 1000000⟩ : api_Item)) i48).Kind) + (rd (xs42.set (Int.toNat i48) (⟨(rd xs42 i48).Kind, Int.tmod ((rd xs42 i48).Amount) 1000000⟩ : api_Item)) i48).Amount))))))))
def scutagelaw25_FxAdds (kinds : List Int) (amounts : List Int) (other : List Int) : Option Bool := ((scutagelaw25_items kinds amounts 15).bind fun y19 => ((scutagelaw25_items other amounts 15).bind fun y28 => ((scutagelaw25_FxAdds.l1  y19 (0, y19, ([] : List (Int × Int)))).bind fun (mm43, xs42) => ((scutagelaw25_FxAdds.l2  y28 (0, y28, mm43)).bind fun (xs66, mm67) => ((fx_Add xs42 xs66).bind fun y88 => ((scutagelaw25_FxAdds.l3 y88 mm67 y88 0).bind fun tt => match tt with | .inl rr => some rr | .inr _ => (if ((y88.length : Int) == (mm67.length : Int)) = true then ((fx_Add xs66 xs42).bind fun y120 => ((scutagekeep_Same_api_Item y88 y120).bind fun y129 => (if y129 = true then ((fx_Add y88 ([] : List api_Item)).bind fun y136 => ((scutagekeep_Same_api_Item y136 y88).bind fun y145 => (if y145 = true then ((scutagelaw25_wakes).bind fun y152 => scutagelaw25_FxAdds.j1 y152) else scutagelaw25_FxAdds.j1 false))) else scutagelaw25_FxAdds.j1 false))) else scutagelaw25_FxAdds.j1 false)))))))

end Go.Proofs.Ytfoefkihcnenaaa
