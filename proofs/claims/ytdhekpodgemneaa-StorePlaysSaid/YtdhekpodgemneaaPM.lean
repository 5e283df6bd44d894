/- What the functions come to: printed out of the translation by gen.py. -/
import Derived.Test.YtdhekpodgemneaaCore11
import Derived.Test.YtdhekpodgemneaaCore15
import Derived.Test.YtdhekpodgemneaaCore16
set_option linter.unusedVariables false
set_option linter.unusedSimpArgs false
set_option maxRecDepth 100000
namespace Go.Proofs.Ytdhekpodgemneaa
open Go Go.RowKit

structure scutagelaw07_Act where
  Entity : Int
  Period : Int
  Kind : Int
  Of : Int
  Accounts : List Int
  Amounts : List Int
  At : Int
  What : Int
  deriving Inhabited, DecidableEq
structure api_Line where
  Account : Int
  Amount : Int
  deriving Inhabited, DecidableEq
structure api_Journal where
  Seq : Int
  Entity : ByteArray
  Period : Int
  Kind : Int
  Of : Int
  Lines : List api_Line
  deriving Inhabited, DecidableEq
structure store_Store where
  f_l : List api_Journal
  deriving Inhabited, DecidableEq
structure scutageref01_Store where
  f_J : List api_Journal
  deriving Inhabited, DecidableEq

def store_New  : Option store_Store := some (⟨([] : List api_Journal)⟩ : store_Store)

def scutagekeep_Within.j1 (v3 : Int) : Option Int := some v3
def scutagekeep_Within (v_ : Int) (n_ : Int) : Option Int := (if (decide (n_ < 1)) = true then some 0 else (gd (n_ ≠ (0 : Int)) (if (decide (Int.tmod v_ n_ < 0)) = true then scutagekeep_Within.j1 (w64 (Int.tmod v_ n_ + n_)) else scutagekeep_Within.j1 (Int.tmod v_ n_))))

def scutageplay_Amount (n_ : Int) : Option Int := (if (Int.tmod n_ 23 == 20) = true then ((scutagekeep_Within (w64 (Int.tdiv n_ 23)) 5).bind fun y2 => some (w64 (w64 (100000000000 - y2) + 2))) else (if (Int.tmod n_ 23 == 21) = true then ((scutagekeep_Within (w64 (Int.tdiv n_ 23)) 5).bind fun y9 => some (w64 (w64 ((-100000000000) + y9) - 2))) else (if (Int.tmod n_ 23 == 22) = true then some n_ else (if (Int.tmod n_ 23 == 19) = true then ((scutagekeep_Within (w64 (Int.tdiv n_ 23)) 200000000001).bind fun y17 => some (w64 (y17 - 100000000000))) else ((scutagekeep_Within n_ 4001).bind fun y23 => some (w64 (y23 - 2000)))))))

def scutageref01_Money.j1 (q1 : Bool) : Option Bool := some q1
def scutageref01_Money (n_ : Int) : Option Bool := (if (decide (n_ ≥ (-100000000000))) = true then scutageref01_Money.j1 (decide (n_ ≤ 100000000000)) else scutageref01_Money.j1 false)

def scutageref01_Merge.j1 (rec29 : (List api_Line × Int) → Option (List api_Line)) (v18 : Int) (xs35 : List api_Line) : Option (List api_Line) := rec29 (xs35, w64 (v18 + 1))
def scutageref01_Merge.j2 (rec50 : (Int × Int) → Option Int) (i43 : Int) (v68 : Int) : Option Int := rec50 (i43 + 1, v68)
def scutageref01_Merge.l2 (v18 : Int) : List api_Line → (Int × Int) → Option Int
  | [], (i43, v38) => some v38
  | y48 :: ys47, (i43, v38) => (if (y48.Account == v18) = true then scutageref01_Merge.j2 (scutageref01_Merge.l2 v18 ys47) i43 (w64 (v38 + y48.Amount)) else scutageref01_Merge.j2 (scutageref01_Merge.l2 v18 ys47) i43 v38)
def scutageref01_Merge.l1 (lines : List api_Line) : Nat → (List api_Line × Int) → Option (List api_Line)
  | 0, _ => none
  | fuel28 + 1, (xs17, v18) => (if (decide (v18 ≤ 7)) = true then ((scutageref01_Merge.l2 v18 lines (0, 0)).bind fun v38 => (if (v38 != 0) = true then (gd (fit xs17.length ([(⟨v18, v38⟩ : api_Line)].length)) (scutageref01_Merge.j1 (scutageref01_Merge.l1 lines fuel28) v18 (xs17 ++ [(⟨v18, v38⟩ : api_Line)]))) else scutageref01_Merge.j1 (scutageref01_Merge.l1 lines fuel28) v18 xs17)) else some xs17)
def scutageref01_Merge (lines : List api_Line) : Option (List api_Line) := ((scutageref01_Merge.l1 lines FUEL (([] : List api_Line), 1)).bind fun xs17 => some xs17)

def scutageplay_Right.j2 (v24 : Int) (accounts : List Int) (xs23 : List api_Line) (rec35 : (List api_Line × Int) → Option (List api_Line)) (v50 : Int) : Option (List api_Line) := (gd ((0 : Int) ≤ v24 ∧ v24 < (accounts.length : Int)) ((scutagekeep_Within (rd accounts v24) 7).bind fun y56 => (gd (fit xs23.length ([(⟨w64 (1 + y56), Int.tmod v50 1000000⟩ : api_Line)].length)) (rec35 (xs23 ++ [(⟨w64 (1 + y56), Int.tmod v50 1000000⟩ : api_Line)], w64 (v24 + 1))))))
def scutageplay_Right.l2  : List api_Line → (Int × Int) → Option Int
  | [], (i92, v87) => some v87
  | y97 :: ys96, (i92, v87) => (scutageplay_Right.l2 ys96) (i92 + 1, w64 (v87 + y97.Amount))
def scutageplay_Right.j1 (v24 : Int) (amounts : List Int) (accounts : List Int) (xs23 : List api_Line) (rec35 : (List api_Line × Int) → Option (List api_Line)) (q37 : Bool) : Option (List api_Line) := (if q37 = true then (gd ((0 : Int) ≤ v24 ∧ v24 < (amounts.length : Int)) ((scutageplay_Amount (rd amounts v24)).bind fun y44 => ((scutageref01_Money y44).bind fun y70 => (if (!y70) = true then scutageplay_Right.j2 v24 accounts xs23 rec35 5 else scutageplay_Right.j2 v24 accounts xs23 rec35 y44)))) else some xs23)
def scutageplay_Right.l1 (accounts : List Int) (amounts : List Int) : Nat → (List api_Line × Int) → Option (List api_Line)
  | 0, _ => none
  | fuel34 + 1, (xs23, v24) => (if (decide (v24 < (accounts.length : Int))) = true then (if (decide (v24 < (amounts.length : Int))) = true then scutageplay_Right.j1 v24 amounts accounts xs23 (scutageplay_Right.l1 accounts amounts fuel34) (decide (v24 < 12)) else scutageplay_Right.j1 v24 amounts accounts xs23 (scutageplay_Right.l1 accounts amounts fuel34) false) else scutageplay_Right.j1 v24 amounts accounts xs23 (scutageplay_Right.l1 accounts amounts fuel34) false)
def scutageplay_Right (accounts : List Int) (amounts : List Int) : Option (List api_Line) := ((scutageplay_Right.l1 accounts amounts FUEL (([] : List api_Line), 0)).bind fun xs23 => ((scutageref01_Merge xs23).bind fun y77 => ((scutageplay_Right.l2  y77 (0, 0)).bind fun v87 => (gd (fit y77.length ([(⟨2, w64 (0 - v87)⟩ : api_Line)].length)) ((scutageref01_Merge (y77 ++ [(⟨2, w64 (0 - v87)⟩ : api_Line)])).bind fun y116 => some y116)))))

def scutagelaw06_Some.j1 (v25 : Int) (accounts : List Int) (amounts : List Int) (xs24 : List api_Line) (rec36 : (List api_Line × Int) → Option (List api_Line)) (q38 : Bool) : Option (List api_Line) := (if q38 = true then (gd ((0 : Int) ≤ v25 ∧ v25 < (accounts.length : Int)) ((scutagekeep_Within (rd accounts v25) 10).bind fun y46 => (gd ((0 : Int) ≤ v25 ∧ v25 < (amounts.length : Int)) ((scutageplay_Amount (rd amounts v25)).bind fun y56 => (gd (fit xs24.length ([(⟨w64 (y46 - 1), y56⟩ : api_Line)].length)) (rec36 (xs24 ++ [(⟨w64 (y46 - 1), y56⟩ : api_Line)], w64 (v25 + 1)))))))) else some xs24)
def scutagelaw06_Some.l1 (accounts : List Int) (amounts : List Int) : Nat → (List api_Line × Int) → Option (List api_Line)
  | 0, _ => none
  | fuel35 + 1, (xs24, v25) => (if (decide (v25 < (accounts.length : Int))) = true then (if (decide (v25 < (amounts.length : Int))) = true then scutagelaw06_Some.j1 v25 accounts amounts xs24 (scutagelaw06_Some.l1 accounts amounts fuel35) (decide (v25 < 44)) else scutagelaw06_Some.j1 v25 accounts amounts xs24 (scutagelaw06_Some.l1 accounts amounts fuel35) false) else scutagelaw06_Some.j1 v25 accounts amounts xs24 (scutagelaw06_Some.l1 accounts amounts fuel35) false)
def scutagelaw06_Some.j2 (xs221 : List api_Line) : Option (List api_Line) := some xs221
def scutagelaw06_Some (accounts : List Int) (amounts : List Int) (at_ : Int) (what : Int) (raw : Bool) : Option (List api_Line) := (if raw = true then ((scutagelaw06_Some.l1 accounts amounts FUEL (([] : List api_Line), 0)).bind fun xs24 => some xs24) else ((scutageplay_Right accounts amounts).bind fun y202 => (if ((y202.length : Int) == 0) = true then some y202 else ((scutagekeep_Within at_ (y202.length : Int)).bind fun y212 => ((scutagekeep_Within what 12).bind fun y223 => (if (y223 == 0) = true then (gd ((0 : Int) ≤ y212 ∧ y212 < (y202.length : Int)) (scutagelaw06_Some.j2 (y202.set (Int.toNat y212) (⟨(rd y202 y212).Account, w64 ((rd y202 y212).Amount + 1)⟩ : api_Line)))) else (if (y223 == 1) = true then ((scutagekeep_Within (w64 (Int.tdiv what 12)) 10).bind fun y237 => (gd ((0 : Int) ≤ y212 ∧ y212 < (y202.length : Int)) (scutagelaw06_Some.j2 (y202.set (Int.toNat y212) (⟨w64 (y237 - 1), (rd y202 y212).Amount⟩ : api_Line))))) else (if (y223 == 2) = true then (gd ((0 : Int) ≤ y212 ∧ y212 < (y202.length : Int)) (gd (fit y202.length ([(rd y202 y212)].length)) (scutagelaw06_Some.j2 (y202 ++ [(rd y202 y212)])))) else (if (y223 == 3) = true then (gd (0 ≤ (0 : Int) ∧ (0 : Int) ≤ y212 ∧ y212 ≤ y212 ∧ y212 ≤ (y202.length : Int)) (gd (0 ≤ w64 (y212 + 1) ∧ w64 (y212 + 1) ≤ (y202.length : Int) ∧ (y202.length : Int) ≤ (y202.length : Int)) (gd (fit ((sb y202 (0 : Int) y212).length) ((sb y202 (w64 (y212 + 1)) (y202.length : Int)).length)) (scutagelaw06_Some.j2 ((sb y202 (0 : Int) y212) ++ (sb y202 (w64 (y212 + 1)) (y202.length : Int))))))) else (if (y223 == 4) = true then (gd ((0 : Int) ≤ y212 ∧ y212 < (y202.length : Int)) (gd ((0 : Int) ≤ 0 ∧ 0 < (y202.length : Int)) (gd ((0 : Int) ≤ y212 ∧ y212 < ((y202.set (Int.toNat 0) (rd y202 y212)).length : Int)) (scutagelaw06_Some.j2 ((y202.set (Int.toNat 0) (rd y202 y212)).set (Int.toNat y212) (rd y202 0)))))) else (if (y223 == 5) = true then (gd ((0 : Int) ≤ y212 ∧ y212 < (y202.length : Int)) (scutagelaw06_Some.j2 (y202.set (Int.toNat y212) (⟨(rd y202 y212).Account, 0⟩ : api_Line)))) else scutagelaw06_Some.j2 y202)))))))))))

def scutageref01_Reverse.l1  : List api_Line → (Int × List api_Line) → Option (List api_Line)
  | [], (i21, xs16) => some xs16
  | y26 :: ys25, (i21, xs16) => (gd (fit xs16.length ([(⟨y26.Account, w64 (0 - y26.Amount)⟩ : api_Line)].length)) ((scutageref01_Reverse.l1 ys25) (i21 + 1, xs16 ++ [(⟨y26.Account, w64 (0 - y26.Amount)⟩ : api_Line)])))
def scutageref01_Reverse (lines : List api_Line) : Option (List api_Line) := ((scutageref01_Reverse.l1  lines (0, ([] : List api_Line))).bind fun xs16 => some xs16)

def period_Right.j1 (q1 : Bool) : Option Bool := some q1
def period_Right (p : Int) : Option Bool := (if (decide (p ≥ 0)) = true then period_Right.j1 (decide (p ≤ 399)) else period_Right.j1 false)

def slices_IndexFunc_api_Journal.l1 (f_ : api_Journal → Option Bool) : List api_Journal → Int → Option (Int ⊕ Unit)
  | [], i19 => some (.inr ())
  | y24 :: ys23, i19 => ((f_ y24).bind fun y36 => (if y36 = true then some (.inl i19) else (slices_IndexFunc_api_Journal.l1 f_ ys23) (i19 + 1)))
def slices_IndexFunc_api_Journal (s_ : List api_Journal) (f_ : api_Journal → Option Bool) : Option Int := ((slices_IndexFunc_api_Journal.l1 f_ s_ 0).bind fun tt => match tt with | .inl rr => some rr | .inr _ => some (-1))

def store_Store_reversed_c1 (j_ : api_Journal) (cap7 : Int) : Option Bool := some (j_.Seq == cap7)

def slices_ContainsFunc_api_Journal (s_ : List api_Journal) (f_ : api_Journal → Option Bool) : Option Bool := ((slices_IndexFunc_api_Journal s_ f_).bind fun y15 => some (decide (y15 ≥ 0)))

def store_Store_reversed_c2.j1 (q13 : Bool) : Option Bool := some q13
def store_Store_reversed_c2 (j_ : api_Journal) (cap7 : Int) : Option Bool := (if (j_.Kind == 2) = true then store_Store_reversed_c2.j1 (j_.Of == cap7) else store_Store_reversed_c2.j1 false)

def store_Store_reversed.j1 (s_ : store_Store) (of_ : Int) (y17 : Int) (q23 : Bool) : Option (api_Journal × Int) := (if q23 = true then some ((⟨0, (⟨#[]⟩ : ByteArray), 0, 0, 0, ([] : List api_Line)⟩ : api_Journal), 3) else ((slices_ContainsFunc_api_Journal s_.f_l (fun x => store_Store_reversed_c2 x of_)).bind fun y28 => (if y28 = true then some ((⟨0, (⟨#[]⟩ : ByteArray), 0, 0, 0, ([] : List api_Line)⟩ : api_Journal), 4) else (gd ((0 : Int) ≤ y17 ∧ y17 < (s_.f_l.length : Int)) (some ((rd s_.f_l y17), 0))))))
def store_Store_reversed (s_ : store_Store) (entity : ByteArray) (p : Int) (of_ : Int) : Option (api_Journal × Int) := ((slices_IndexFunc_api_Journal s_.f_l (fun x => store_Store_reversed_c1 x of_)).bind fun y17 => (if (decide (y17 < 0)) = true then store_Store_reversed.j1 s_ of_ y17 true else (gd ((0 : Int) ≤ y17 ∧ y17 < (s_.f_l.length : Int)) (if (!(((rd s_.f_l y17).Entity).toList == (entity).toList)) = true then store_Store_reversed.j1 s_ of_ y17 true else (if ((rd s_.f_l y17).Period != p) = true then store_Store_reversed.j1 s_ of_ y17 true else store_Store_reversed.j1 s_ of_ y17 ((rd s_.f_l y17).Kind == 2))))))

def journal_Reverse.l1  : List api_Line → (Int × List api_Line) → Option (List api_Line)
  | [], (i21, xs16) => some xs16
  | y26 :: ys25, (i21, xs16) => (gd (fit xs16.length ([(⟨y26.Account, w64 (0 - y26.Amount)⟩ : api_Line)].length)) ((journal_Reverse.l1 ys25) (i21 + 1, xs16 ++ [(⟨y26.Account, w64 (0 - y26.Amount)⟩ : api_Line)])))
def journal_Reverse (lines : List api_Line) : Option (List api_Line) := ((journal_Reverse.l1  lines (0, ([] : List api_Line))).bind fun xs16 => some xs16)

def chart_is.j1 (q1 : Bool) : Option Bool := some q1
def chart_is (account : Int) : Option Bool := (if (decide (account ≥ 1)) = true then chart_is.j1 (decide (account ≤ 7)) else chart_is.j1 false)

def chart_names  : Option (List ByteArray) := some [(⟨#[]⟩ : ByteArray), (⟨#[99, 117, 114, 114, 101, 110, 116]⟩ : ByteArray), (⟨#[112, 97, 121, 97, 98, 108, 101]⟩ : ByteArray), (⟨#[100, 101, 102, 101, 114, 114, 101, 100]⟩ : ByteArray), (⟨#[116, 101, 109, 112]⟩ : ByteArray), (⟨#[108, 111, 115, 115, 101, 115]⟩ : ByteArray), (⟨#[97, 108, 108, 111, 119, 97, 110, 99, 101]⟩ : ByteArray), (⟨#[116, 114, 117, 101, 117, 112]⟩ : ByteArray)]

def chart_Name (account : Int) : Option ByteArray := ((chart_is account).bind fun y1 => (if (!y1) = true then some (⟨#[]⟩ : ByteArray) else ((chart_names).bind fun y8 => (gd ((0 : Int) ≤ account ∧ account < (y8.length : Int)) (some (rd y8 account))))))

def rate_Money.j1 (q1 : Bool) : Option Bool := some q1
def rate_Money (n_ : Int) : Option Bool := (if (decide (n_ ≥ (-100000000000))) = true then rate_Money.j1 (decide (n_ ≤ 100000000000)) else rate_Money.j1 false)

def journal_right.j1 (q4 : Bool) : Option Bool := some q4
def journal_right (x_ : api_Line) : Option Bool := ((chart_Name x_.Account).bind fun y6 => (if (!((y6).toList == ((⟨#[]⟩ : ByteArray)).toList)) = true then (if (x_.Amount != 0) = true then ((rate_Money x_.Amount).bind fun y14 => journal_right.j1 y14) else journal_right.j1 false) else journal_right.j1 false))

def sides_Of (n_ : Int) : Option Cpx := ((rate_Money n_).bind fun y1 => (if (!y1) = true then some (⟨0, 0⟩ : Cpx) else (if (decide (n_ > 0)) = true then some (⟨floatOfInt .f64 n_, 0⟩ : Cpx) else some (⟨0, floatOfInt .f64 (w64 (0 - n_))⟩ : Cpx))))

def sides_Sum.l1  : List Cpx → (Int × Cpx) → Option Cpx
  | [], (i13, v8) => some v8
  | y18 :: ys17, (i13, v8) => ((cadd v8 y18).bind fun y30 => (sides_Sum.l1 ys17) (i13 + 1, y30))
def sides_Sum (l_ : List Cpx) : Option Cpx := ((sides_Sum.l1  l_ (0, (⟨0, 0⟩ : Cpx))).bind fun v8 => some v8)

def journal_Sides.l1  : List api_Line → (Int × List Cpx) → Option (List Cpx)
  | [], (i21, xs16) => some xs16
  | y26 :: ys25, (i21, xs16) => ((sides_Of y26.Amount).bind fun y49 => (gd (fit xs16.length ([y49].length)) ((journal_Sides.l1 ys25) (i21 + 1, xs16 ++ [y49]))))
def journal_Sides (lines : List api_Line) : Option Cpx := ((journal_Sides.l1  lines (0, ([] : List Cpx))).bind fun xs16 => ((sides_Sum xs16).bind fun y37 => some y37))

def sides_Even (z_ : Cpx) : Option Bool := some (Op.floatEq .f64 z_.re z_.im)

def journal_Check.j1 (rec21 : (Int × Int) → Option (Int ⊕ Unit)) (i14 : Int) (y19 : api_Line) (q49 : Bool) : Option (Int ⊕ Unit) := (if q49 = true then some (.inl 2) else rec21 (i14 + 1, y19.Account))
def journal_Check.l1  : List api_Line → (Int × Int) → Option (Int ⊕ Unit)
  | [], (i14, v9) => some (.inr ())
  | y19 :: ys18, (i14, v9) => ((journal_right y19).bind fun y52 => (if (!y52) = true then journal_Check.j1 (journal_Check.l1 ys18) i14 y19 true else journal_Check.j1 (journal_Check.l1 ys18) i14 y19 (decide (y19.Account ≤ v9))))
def journal_Check (lines : List api_Line) : Option Int := (if (decide ((lines.length : Int) > 20)) = true then some 2 else ((journal_Check.l1  lines (0, 0)).bind fun tt => match tt with | .inl rr => some rr | .inr _ => ((journal_Sides lines).bind fun y30 => ((sides_Even y30).bind fun y36 => (if (!y36) = true then some 2 else some 0)))))

def slices_Equal_api_Line.l1 (s2_ : List api_Line) : List api_Line → Int → Option (Bool ⊕ Unit)
  | [], i18 => some (.inr ())
  | y23 :: ys22, i18 => (gd ((0 : Int) ≤ i18 ∧ i18 < (s2_.length : Int)) (if (!(y23.Account == ((rd s2_ i18).Account) && (y23.Amount == ((rd s2_ i18).Amount)))) = true then some (.inl false) else (slices_Equal_api_Line.l1 s2_ ys22) (i18 + 1)))
def slices_Equal_api_Line (s1_ : List api_Line) (s2_ : List api_Line) : Option Bool := (if ((s1_.length : Int) != (s2_.length : Int)) = true then some false else ((slices_Equal_api_Line.l1 s2_ s1_ 0).bind fun tt => match tt with | .inl rr => some rr | .inr _ => some true))

def store_Store_lines.j2 (q30 : Bool) : Option Int := (if q30 = true then some 2 else some 0)
def store_Store_lines.j1 (lines : List api_Line) (kind : Int) (xs21 : List api_Line) : Option Int := ((journal_Check lines).bind fun y23 => (if (y23 != 0) = true then some y23 else (if (kind == 2) = true then ((slices_Equal_api_Line lines xs21).bind fun y34 => store_Store_lines.j2 (!y34)) else store_Store_lines.j2 false)))
def store_Store_lines (s_ : store_Store) (entity : ByteArray) (p : Int) (kind : Int) (of_ : Int) (lines : List api_Line) : Option Int := (if (kind == 2) = true then ((store_Store_reversed (⟨s_.f_l⟩ : store_Store) entity p of_).bind fun (y41, y42) => (if (y42 != 0) = true then some y42 else ((journal_Reverse y41.Lines).bind fun y58 => store_Store_lines.j1 lines kind y58))) else store_Store_lines.j1 lines kind ([] : List api_Line))

def slices_IndexFunc_api_Line.l1 (f_ : api_Line → Option Bool) : List api_Line → Int → Option (Int ⊕ Unit)
  | [], i17 => some (.inr ())
  | y22 :: ys21, i17 => ((f_ y22).bind fun y34 => (if y34 = true then some (.inl i17) else (slices_IndexFunc_api_Line.l1 f_ ys21) (i17 + 1)))
def slices_IndexFunc_api_Line (s_ : List api_Line) (f_ : api_Line → Option Bool) : Option Int := ((slices_IndexFunc_api_Line.l1 f_ s_ 0).bind fun tt => match tt with | .inl rr => some rr | .inr _ => some (-1))

def slices_ContainsFunc_api_Line (s_ : List api_Line) (f_ : api_Line → Option Bool) : Option Bool := ((slices_IndexFunc_api_Line s_ f_).bind fun y13 => some (decide (y13 ≥ 0)))

def journal_few_c1 (x_ : api_Line) : Option Bool := ((rate_Money x_.Amount).bind fun y4 => some (!y4))

def journal_few.j1 (q7 : Bool) : Option Bool := some q7
def journal_few (lines : List api_Line) : Option Bool := (if (decide ((lines.length : Int) ≤ 40)) = true then ((slices_ContainsFunc_api_Line lines (fun x => journal_few_c1 x)).bind fun y10 => journal_few.j1 (!y10)) else journal_few.j1 false)

def journal_sum.j1 (rec20 : (Int × Int) → Option Int) (i13 : Int) (v29 : Int) : Option Int := rec20 (i13 + 1, v29)
def journal_sum.l1 (account : Int) : List api_Line → (Int × Int) → Option Int
  | [], (i13, v8) => some v8
  | y18 :: ys17, (i13, v8) => (if (y18.Account == account) = true then journal_sum.j1 (journal_sum.l1 account ys17) i13 (w64 (v8 + y18.Amount)) else journal_sum.j1 (journal_sum.l1 account ys17) i13 v8)
def journal_sum (lines : List api_Line) (account : Int) : Option Int := ((journal_sum.l1 account lines (0, 0)).bind fun v8 => some v8)

def journal_Net (lines : List api_Line) (account : Int) : Option Int := ((journal_few lines).bind fun y7 => (if (!y7) = true then some 0 else ((journal_sum lines account).bind fun y14 => some y14)))

def store_Store_Balance.j1 (rec24 : (Int × Int) → Option Int) (i17 : Int) (v33 : Int) : Option Int := rec24 (i17 + 1, v33)
def store_Store_Balance.j2 (y22 : api_Journal) (account : Int) (rec24 : (Int × Int) → Option Int) (i17 : Int) (v12 : Int) (q41 : Bool) : Option Int := (if q41 = true then ((journal_Net y22.Lines account).bind fun y44 => store_Store_Balance.j1 rec24 i17 (w64 (v12 + y44))) else store_Store_Balance.j1 rec24 i17 v12)
def store_Store_Balance.l1 (entity : ByteArray) (account : Int) (upto : Int) : List api_Journal → (Int × Int) → Option Int
  | [], (i17, v12) => some v12
  | y22 :: ys21, (i17, v12) => (if ((y22.Entity).toList == (entity).toList) = true then store_Store_Balance.j2 y22 account (store_Store_Balance.l1 entity account upto ys21) i17 v12 (decide (y22.Period ≤ upto)) else store_Store_Balance.j2 y22 account (store_Store_Balance.l1 entity account upto ys21) i17 v12 false)
def store_Store_Balance (s_ : store_Store) (entity : ByteArray) (account : Int) (upto : Int) : Option Int := ((store_Store_Balance.l1 entity account upto s_.f_l (0, 0)).bind fun v12 => some v12)

def slices_Clone_api_Line (s_ : List api_Line) : Option (List api_Line) := (gd (fit (([] : List api_Line).length) s_.length) (some (([] : List api_Line) ++ s_)))

def store_own (j_ : api_Journal) : Option api_Journal := ((slices_Clone_api_Line j_.Lines).bind fun y13 => some (⟨j_.Seq, j_.Entity, j_.Period, j_.Kind, j_.Of, y13⟩ : api_Journal))

def store_Store_Post.l1 (s_ : store_Store) (entity : ByteArray) : List api_Line → Int → Option ((Int × Int × store_Store) ⊕ Unit)
  | [], i26 => some (.inr ())
  | y31 :: ys30, i26 => ((store_Store_Balance (⟨s_.f_l⟩ : store_Store) entity y31.Account 399).bind fun y206 => ((rate_Money (w64 (y206 + y31.Amount))).bind fun y212 => (if (!y212) = true then some (.inl (0, 6, (⟨s_.f_l⟩ : store_Store))) else (store_Store_Post.l1 s_ entity ys30) (i26 + 1))))
def store_Store_Post.j1 (s_ : store_Store) (entity : ByteArray) (p : Int) (kind : Int) (of_ : Int) (lines : List api_Line) (q11 : Bool) : Option (Int × Int × store_Store) := (if q11 = true then some (0, 1, (⟨s_.f_l⟩ : store_Store)) else ((store_Store_lines (⟨s_.f_l⟩ : store_Store) entity p kind of_ lines).bind fun y14 => (if (y14 != 0) = true then some (0, y14, (⟨s_.f_l⟩ : store_Store)) else (if (decide ((s_.f_l.length : Int) ≥ 200)) = true then some (0, 5, (⟨s_.f_l⟩ : store_Store)) else ((store_Store_Post.l1 s_ entity lines 0).bind fun tt => match tt with | .inl rr => some rr | .inr _ => ((store_own (⟨w64 ((s_.f_l.length : Int) + 1), entity, p, kind, of_, lines⟩ : api_Journal)).bind fun y43 => (gd (fit s_.f_l.length ([y43].length)) (some (w64 ((s_.f_l.length : Int) + 1), 0, (⟨s_.f_l ++ [y43]⟩ : store_Store))))))))))
def store_Store_Post (s_ : store_Store) (entity : ByteArray) (p : Int) (kind : Int) (of_ : Int) (lines : List api_Line) : Option (Int × Int × store_Store) := (if ((entity).toList == ((⟨#[]⟩ : ByteArray)).toList) = true then store_Store_Post.j1 s_ entity p kind of_ lines true else ((period_Right p).bind fun y296 => (if (!y296) = true then store_Store_Post.j1 s_ entity p kind of_ lines true else (if (kind != 1) = true then (if (kind != 2) = true then store_Store_Post.j1 s_ entity p kind of_ lines true else (if (kind == 1) = true then store_Store_Post.j1 s_ entity p kind of_ lines (of_ != 0) else store_Store_Post.j1 s_ entity p kind of_ lines false)) else (if (kind == 1) = true then store_Store_Post.j1 s_ entity p kind of_ lines (of_ != 0) else store_Store_Post.j1 s_ entity p kind of_ lines false)))))

def scutageref01_Period.j1 (q1 : Bool) : Option Bool := some q1
def scutageref01_Period (p : Int) : Option Bool := (if (decide (p ≥ 0)) = true then scutageref01_Period.j1 (decide (p ≤ 399)) else scutageref01_Period.j1 false)

def scutageref01_Account.j1 (q1 : Bool) : Option Bool := some q1
def scutageref01_Account (a_ : Int) : Option Bool := (if (decide (a_ ≥ 1)) = true then scutageref01_Account.j1 (decide (a_ ≤ 7)) else scutageref01_Account.j1 false)

def scutageref01_Check.j1 (rec20 : (Int × Int) → Option (Bool ⊕ Int)) (i13 : Int) (v8 : Int) (y18 : api_Line) (q35 : Bool) : Option (Bool ⊕ Int) := (if q35 = true then some (.inl false) else rec20 (i13 + 1, w64 (v8 + y18.Amount)))
def scutageref01_Check.l1 (lines : List api_Line) : List api_Line → (Int × Int) → Option (Bool ⊕ Int)
  | [], (i13, v8) => some (.inr v8)
  | y18 :: ys17, (i13, v8) => (if (decide (i13 ≥ 20)) = true then scutageref01_Check.j1 (scutageref01_Check.l1 lines ys17) i13 v8 y18 true else ((scutageref01_Account y18.Account).bind fun y248 => (if (!y248) = true then scutageref01_Check.j1 (scutageref01_Check.l1 lines ys17) i13 v8 y18 true else (if (y18.Amount == 0) = true then scutageref01_Check.j1 (scutageref01_Check.l1 lines ys17) i13 v8 y18 true else ((scutageref01_Money y18.Amount).bind fun y684 => (if (!y684) = true then scutageref01_Check.j1 (scutageref01_Check.l1 lines ys17) i13 v8 y18 true else (if (decide (i13 > 0)) = true then (gd ((0 : Int) ≤ w64 (i13 - 1) ∧ w64 (i13 - 1) < (lines.length : Int)) (scutageref01_Check.j1 (scutageref01_Check.l1 lines ys17) i13 v8 y18 (decide (y18.Account ≤ (rd lines (w64 (i13 - 1))).Account)))) else scutageref01_Check.j1 (scutageref01_Check.l1 lines ys17) i13 v8 y18 false)))))))
def scutageref01_Check (lines : List api_Line) : Option Bool := ((scutageref01_Check.l1 lines lines (0, 0)).bind fun tt => match tt with | .inl rr => some rr | .inr v8 => some (v8 == 0))

def scutageref01_Same.l1 (b_ : List api_Line) : List api_Line → Int → Option (Bool ⊕ Unit)
  | [], i18 => some (.inr ())
  | y23 :: ys22, i18 => (gd ((0 : Int) ≤ i18 ∧ i18 < (b_.length : Int)) (if (!(y23.Account == ((rd b_ i18).Account) && (y23.Amount == ((rd b_ i18).Amount)))) = true then some (.inl false) else (scutageref01_Same.l1 b_ ys22) (i18 + 1)))
def scutageref01_Same (a_ : List api_Line) (b_ : List api_Line) : Option Bool := (if ((a_.length : Int) != (b_.length : Int)) = true then some false else ((scutageref01_Same.l1 b_ a_ 0).bind fun tt => match tt with | .inl rr => some rr | .inr _ => some true))

def scutageref01_Store_all.j1 (rec32 : (Int × List api_Line) → Option (List api_Line)) (i25 : Int) (xs44 : List api_Line) : Option (List api_Line) := rec32 (i25 + 1, xs44)
def scutageref01_Store_all.j2 (xs20 : List api_Line) (y30 : api_Journal) (rec32 : (Int × List api_Line) → Option (List api_Line)) (i25 : Int) (q52 : Bool) : Option (List api_Line) := (if q52 = true then (gd (fit xs20.length y30.Lines.length) (scutageref01_Store_all.j1 rec32 i25 (xs20 ++ y30.Lines))) else scutageref01_Store_all.j1 rec32 i25 xs20)
def scutageref01_Store_all.l1 (entity : ByteArray) (upto : Int) : List api_Journal → (Int × List api_Line) → Option (List api_Line)
  | [], (i25, xs20) => some xs20
  | y30 :: ys29, (i25, xs20) => (if ((y30.Entity).toList == (entity).toList) = true then scutageref01_Store_all.j2 xs20 y30 (scutageref01_Store_all.l1 entity upto ys29) i25 (decide (y30.Period ≤ upto)) else scutageref01_Store_all.j2 xs20 y30 (scutageref01_Store_all.l1 entity upto ys29) i25 false)
def scutageref01_Store_all (s_ : scutageref01_Store) (entity : ByteArray) (upto : Int) : Option (List api_Line) := ((scutageref01_Store_all.l1 entity upto s_.f_J (0, ([] : List api_Line))).bind fun xs20 => some xs20)

def scutageref01_Store_Post.l2 (s_ : scutageref01_Store) : List api_Line → Int → Option ((Int × Int × scutageref01_Store) ⊕ Unit)
  | [], i75 => some (.inr ())
  | y80 :: ys79, i75 => ((scutageref01_Money y80.Amount).bind fun y278 => (if (!y278) = true then some (.inl (0, 6, (⟨s_.f_J⟩ : scutageref01_Store))) else (scutageref01_Store_Post.l2 s_ ys79) (i75 + 1)))
def scutageref01_Store_Post.j3 (s_ : scutageref01_Store) (entity : ByteArray) (lines : List api_Line) (p : Int) (kind : Int) (of_ : Int) (q38 : Bool) : Option (Int × Int × scutageref01_Store) := (if q38 = true then some (0, 2, (⟨s_.f_J⟩ : scutageref01_Store)) else (if (decide ((s_.f_J.length : Int) ≥ 200)) = true then some (0, 5, (⟨s_.f_J⟩ : scutageref01_Store)) else ((scutageref01_Store_all (⟨s_.f_J⟩ : scutageref01_Store) entity 399).bind fun y42 => (gd (fit (([] : List api_Line).length) y42.length) (gd (fit ((([] : List api_Line) ++ y42).length) lines.length) ((scutageref01_Merge ((([] : List api_Line) ++ y42) ++ lines)).bind fun y62 => ((scutageref01_Store_Post.l2 s_ y62 0).bind fun tt => match tt with | .inl rr => some rr | .inr _ => (gd (fit (([] : List api_Line).length) lines.length) (gd (fit s_.f_J.length ([(⟨w64 ((s_.f_J.length : Int) + 1), entity, p, kind, of_, ([] : List api_Line) ++ lines⟩ : api_Journal)].length)) (some (((s_.f_J ++ [(⟨w64 ((s_.f_J.length : Int) + 1), entity, p, kind, of_, ([] : List api_Line) ++ lines⟩ : api_Journal)]).length : Int), 0, (⟨s_.f_J ++ [(⟨w64 ((s_.f_J.length : Int) + 1), entity, p, kind, of_, ([] : List api_Line) ++ lines⟩ : api_Journal)]⟩ : scutageref01_Store))))))))))))
def scutageref01_Store_Post.l1 (of_ : Int) (s_ : scutageref01_Store) : List api_Journal → Int → Option ((Int × Int × scutageref01_Store) ⊕ Unit)
  | [], i22 => some (.inr ())
  | y27 :: ys26, i22 => (if (y27.Of == of_) = true then some (.inl (0, 4, (⟨s_.f_J⟩ : scutageref01_Store))) else (scutageref01_Store_Post.l1 of_ s_ ys26) (i22 + 1))
def scutageref01_Store_Post.j2 (s_ : scutageref01_Store) (of_ : Int) (lines : List api_Line) (entity : ByteArray) (p : Int) (kind : Int) (q15 : Bool) : Option (Int × Int × scutageref01_Store) := (if q15 = true then some (0, 3, (⟨s_.f_J⟩ : scutageref01_Store)) else ((scutageref01_Store_Post.l1 of_ s_ s_.f_J 0).bind fun tt => match tt with | .inl rr => some rr | .inr _ => ((scutageref01_Check lines).bind fun y285 => (if (!y285) = true then scutageref01_Store_Post.j3 s_ entity lines p kind of_ true else (gd ((0 : Int) ≤ w64 (of_ - 1) ∧ w64 (of_ - 1) < (s_.f_J.length : Int)) ((scutageref01_Reverse ((rd s_.f_J (w64 (of_ - 1))).Lines)).bind fun y296 => ((scutageref01_Same lines y296).bind fun y305 => scutageref01_Store_Post.j3 s_ entity lines p kind of_ (!y305))))))))
def scutageref01_Store_Post.l3 (s_ : scutageref01_Store) : List api_Line → Int → Option ((Int × Int × scutageref01_Store) ⊕ Unit)
  | [], i363 => some (.inr ())
  | y368 :: ys367, i363 => ((scutageref01_Money y368.Amount).bind fun y566 => (if (!y566) = true then some (.inl (0, 6, (⟨s_.f_J⟩ : scutageref01_Store))) else (scutageref01_Store_Post.l3 s_ ys367) (i363 + 1)))
def scutageref01_Store_Post.j4 (s_ : scutageref01_Store) (entity : ByteArray) (lines : List api_Line) (p : Int) (kind : Int) (of_ : Int) (q326 : Bool) : Option (Int × Int × scutageref01_Store) := (if q326 = true then some (0, 2, (⟨s_.f_J⟩ : scutageref01_Store)) else (if (decide ((s_.f_J.length : Int) ≥ 200)) = true then some (0, 5, (⟨s_.f_J⟩ : scutageref01_Store)) else ((scutageref01_Store_all (⟨s_.f_J⟩ : scutageref01_Store) entity 399).bind fun y330 => (gd (fit (([] : List api_Line).length) y330.length) (gd (fit ((([] : List api_Line) ++ y330).length) lines.length) ((scutageref01_Merge ((([] : List api_Line) ++ y330) ++ lines)).bind fun y350 => ((scutageref01_Store_Post.l3 s_ y350 0).bind fun tt => match tt with | .inl rr => some rr | .inr _ => (gd (fit (([] : List api_Line).length) lines.length) (gd (fit s_.f_J.length ([(⟨w64 ((s_.f_J.length : Int) + 1), entity, p, kind, of_, ([] : List api_Line) ++ lines⟩ : api_Journal)].length)) (some (((s_.f_J ++ [(⟨w64 ((s_.f_J.length : Int) + 1), entity, p, kind, of_, ([] : List api_Line) ++ lines⟩ : api_Journal)]).length : Int), 0, (⟨s_.f_J ++ [(⟨w64 ((s_.f_J.length : Int) + 1), entity, p, kind, of_, ([] : List api_Line) ++ lines⟩ : api_Journal)]⟩ : scutageref01_Store))))))))))))
def scutageref01_Store_Post.j1 (s_ : scutageref01_Store) (kind : Int) (of_ : Int) (lines : List api_Line) (entity : ByteArray) (p : Int) (q11 : Bool) : Option (Int × Int × scutageref01_Store) := (if q11 = true then some (0, 1, (⟨s_.f_J⟩ : scutageref01_Store)) else (if (kind == 2) = true then (if (decide (of_ < 1)) = true then scutageref01_Store_Post.j2 s_ of_ lines entity p kind true else (if (decide (of_ > (s_.f_J.length : Int))) = true then scutageref01_Store_Post.j2 s_ of_ lines entity p kind true else (gd ((0 : Int) ≤ w64 (of_ - 1) ∧ w64 (of_ - 1) < (s_.f_J.length : Int)) (if (!(((rd s_.f_J (w64 (of_ - 1))).Entity).toList == (entity).toList)) = true then scutageref01_Store_Post.j2 s_ of_ lines entity p kind true else (if ((rd s_.f_J (w64 (of_ - 1))).Period != p) = true then scutageref01_Store_Post.j2 s_ of_ lines entity p kind true else scutageref01_Store_Post.j2 s_ of_ lines entity p kind ((rd s_.f_J (w64 (of_ - 1))).Kind != 1)))))) else ((scutageref01_Check lines).bind fun y573 => (if (!y573) = true then scutageref01_Store_Post.j4 s_ entity lines p kind of_ true else scutageref01_Store_Post.j4 s_ entity lines p kind of_ false))))
def scutageref01_Store_Post (s_ : scutageref01_Store) (entity : ByteArray) (p : Int) (kind : Int) (of_ : Int) (lines : List api_Line) : Option (Int × Int × scutageref01_Store) := (if ((entity).toList == ((⟨#[]⟩ : ByteArray)).toList) = true then scutageref01_Store_Post.j1 s_ kind of_ lines entity p true else ((scutageref01_Period p).bind fun y581 => (if (!y581) = true then scutageref01_Store_Post.j1 s_ kind of_ lines entity p true else (if (kind != 1) = true then (if (kind != 2) = true then scutageref01_Store_Post.j1 s_ kind of_ lines entity p true else (if (kind == 1) = true then scutageref01_Store_Post.j1 s_ kind of_ lines entity p (of_ != 0) else scutageref01_Store_Post.j1 s_ kind of_ lines entity p false)) else (if (kind == 1) = true then scutageref01_Store_Post.j1 s_ kind of_ lines entity p (of_ != 0) else scutageref01_Store_Post.j1 s_ kind of_ lines entity p false)))))

def store_Store_Journals.l1  : List api_Journal → (Int × List api_Journal) → Option (List api_Journal)
  | [], (i29, xs23) => some xs23
  | y34 :: ys33, (i29, xs23) => ((store_own y34).bind fun y51 => (gd (fit xs23.length ([y51].length)) ((store_Store_Journals.l1 ys33) (i29 + 1, xs23 ++ [y51]))))
def store_Store_Journals (s_ : store_Store) : Option (List api_Journal) := ((store_Store_Journals.l1  s_.f_l (0, ([] : List api_Journal))).bind fun xs23 => some xs23)

def store_Store_Clone (s_ : store_Store) : Option store_Store := ((store_Store_Journals (⟨s_.f_l⟩ : store_Store)).bind fun y11 => some (⟨y11⟩ : store_Store))

def scutagekeep_Same_api_Line.l1 (a_ : List api_Line) (b_ : List api_Line) : Nat → Int → Option (Bool ⊕ Unit)
  | 0, _ => none
  | fuel25 + 1, v15 => (if (decide (v15 < (a_.length : Int))) = true then (gd ((0 : Int) ≤ v15 ∧ v15 < (a_.length : Int)) (gd ((0 : Int) ≤ v15 ∧ v15 < (b_.length : Int)) (if (!(((rd a_ v15).Account) == ((rd b_ v15).Account) && (((rd a_ v15).Amount) == ((rd b_ v15).Amount)))) = true then some (.inl false) else (scutagekeep_Same_api_Line.l1 a_ b_ fuel25) (w64 (v15 + 1))))) else some (.inr ()))
def scutagekeep_Same_api_Line (a_ : List api_Line) (b_ : List api_Line) : Option Bool := (if ((a_.length : Int) != (b_.length : Int)) = true then some false else ((scutagekeep_Same_api_Line.l1 a_ b_ FUEL 0).bind fun tt => match tt with | .inl rr => some rr | .inr _ => some true))

def scutagelaw07_Journals.j1 (rec29 : Int → Option (Bool ⊕ Unit)) (i22 : Int) (q38 : Bool) : Option (Bool ⊕ Unit) := (if q38 = true then some (.inl false) else rec29 (i22 + 1))
def scutagelaw07_Journals.l1 (b_ : List api_Journal) : List api_Journal → Int → Option (Bool ⊕ Unit)
  | [], i22 => some (.inr ())
  | y27 :: ys26, i22 => (gd ((0 : Int) ≤ i22 ∧ i22 < (b_.length : Int)) (if (y27.Seq != (rd b_ i22).Seq) = true then scutagelaw07_Journals.j1 (scutagelaw07_Journals.l1 b_ ys26) i22 true else (if (!((y27.Entity).toList == ((rd b_ i22).Entity).toList)) = true then scutagelaw07_Journals.j1 (scutagelaw07_Journals.l1 b_ ys26) i22 true else (if (y27.Period != (rd b_ i22).Period) = true then scutagelaw07_Journals.j1 (scutagelaw07_Journals.l1 b_ ys26) i22 true else (if (y27.Kind != (rd b_ i22).Kind) = true then scutagelaw07_Journals.j1 (scutagelaw07_Journals.l1 b_ ys26) i22 true else (if (y27.Of != (rd b_ i22).Of) = true then scutagelaw07_Journals.j1 (scutagelaw07_Journals.l1 b_ ys26) i22 true else ((scutagekeep_Same_api_Line y27.Lines ((rd b_ i22).Lines)).bind fun y2457 => scutagelaw07_Journals.j1 (scutagelaw07_Journals.l1 b_ ys26) i22 (!y2457))))))))
def scutagelaw07_Journals (a_ : List api_Journal) (b_ : List api_Journal) : Option Bool := (if ((a_.length : Int) != (b_.length : Int)) = true then some false else ((scutagelaw07_Journals.l1 b_ a_ 0).bind fun tt => match tt with | .inl rr => some rr | .inr _ => some true))

def chart_Accounts.j1 (rec31 : (Int × List Int) → Option (List Int)) (i24 : Int) (xs43 : List Int) : Option (List Int) := rec31 (i24 + 1, xs43)
def chart_Accounts.l1  : List ByteArray → (Int × List Int) → Option (List Int)
  | [], (i24, xs19) => some xs19
  | y29 :: ys28, (i24, xs19) => ((chart_is i24).bind fun y45 => (if y45 = true then (gd (fit xs19.length ([i24].length)) (chart_Accounts.j1 (chart_Accounts.l1 ys28) i24 (xs19 ++ [i24]))) else chart_Accounts.j1 (chart_Accounts.l1 ys28) i24 xs19))
def chart_Accounts  : Option (List Int) := ((chart_names).bind fun y1 => ((chart_Accounts.l1  y1 (0, ([] : List Int))).bind fun xs19 => some xs19))

def store_Store_Trial.j1 (rec41 : (Int × List api_Line) → Option (List api_Line)) (i34 : Int) (xs53 : List api_Line) : Option (List api_Line) := rec41 (i34 + 1, xs53)
def store_Store_Trial.l1 (s_ : store_Store) (entity : ByteArray) (upto : Int) : List Int → (Int × List api_Line) → Option (List api_Line)
  | [], (i34, xs29) => some xs29
  | y39 :: ys38, (i34, xs29) => ((store_Store_Balance (⟨s_.f_l⟩ : store_Store) entity y39 upto).bind fun y56 => (if (y56 != 0) = true then (gd (fit xs29.length ([(⟨y39, y56⟩ : api_Line)].length)) (store_Store_Trial.j1 (store_Store_Trial.l1 s_ entity upto ys38) i34 (xs29 ++ [(⟨y39, y56⟩ : api_Line)]))) else store_Store_Trial.j1 (store_Store_Trial.l1 s_ entity upto ys38) i34 xs29))
def store_Store_Trial (s_ : store_Store) (entity : ByteArray) (upto : Int) : Option (List api_Line) := ((chart_Accounts).bind fun y11 => ((store_Store_Trial.l1 s_ entity upto y11 (0, ([] : List api_Line))).bind fun xs29 => some xs29))

def scutageref01_Store_Trial (s_ : scutageref01_Store) (entity : ByteArray) (upto : Int) : Option (List api_Line) := ((scutageref01_Store_all (⟨s_.f_J⟩ : scutageref01_Store) entity upto).bind fun y11 => ((scutageref01_Merge y11).bind fun y20 => some y20))

def scutageref01_Store_Balance.l1 (account : Int) : List api_Line → Int → Option (Int ⊕ Unit)
  | [], i24 => some (.inr ())
  | y29 :: ys28, i24 => (if (y29.Account == account) = true then some (.inl y29.Amount) else (scutageref01_Store_Balance.l1 account ys28) (i24 + 1))
def scutageref01_Store_Balance (s_ : scutageref01_Store) (entity : ByteArray) (account : Int) (upto : Int) : Option Int := ((scutageref01_Store_Trial (⟨s_.f_J⟩ : scutageref01_Store) entity upto).bind fun y11 => ((scutageref01_Store_Balance.l1 account y11 0).bind fun tt => match tt with | .inl rr => some rr | .inr _ => some 0))

def scutagelaw07_wakes.j1 (q38 : Bool) : Option Bool := some q38
def scutagelaw07_wakes  : Option Bool := ((store_New).bind fun y1 => ((store_Store_Journals (⟨y1.f_l⟩ : store_Store)).bind fun y12 => (if ((y12.length : Int) != 0) = true then some false else ((store_Store_Post (⟨y1.f_l⟩ : store_Store) (⟨#[97]⟩ : ByteArray) 1 1 0 [(⟨1, 5⟩ : api_Line), (⟨2, (-5)⟩ : api_Line)]).bind fun (y26, y27, y28) => (if (y26 == 1) = true then (if (y27 == 0) = true then ((store_Store_Balance (⟨y28.f_l⟩ : store_Store) (⟨#[97]⟩ : ByteArray) 1 1).bind fun y42 => scutagelaw07_wakes.j1 (y42 == 5)) else scutagelaw07_wakes.j1 false) else scutagelaw07_wakes.j1 false)))))

def scutagelaw07_StorePlays.j5 (rec61 : (List api_Journal × List api_Journal × Int) → Option (Bool ⊕ (List api_Journal × List api_Journal))) (y116 : store_Store) (y128 : scutageref01_Store) (v50 : Int) (q138 : Bool) : Option (Bool ⊕ (List api_Journal × List api_Journal)) := (if q138 = true then some (.inl false) else rec61 (y116.f_l, y128.f_J, w64 (v50 + 1)))
def scutagelaw07_StorePlays.j4 (xs41 : List api_Journal) (s104 : ByteArray) (v105 : Int) (v110 : Int) (v111 : Int) (xs109 : List api_Line) (xs48 : List api_Journal) (rec61 : (List api_Journal × List api_Journal × Int) → Option (Bool ⊕ (List api_Journal × List api_Journal))) (v50 : Int) : Option (Bool ⊕ (List api_Journal × List api_Journal)) := ((store_Store_Post (⟨xs41⟩ : store_Store) s104 v105 v110 v111 xs109).bind fun (y114, y115, y116) => ((scutageref01_Store_Post (⟨xs48⟩ : scutageref01_Store) s104 v105 v110 v111 xs109).bind fun (y126, y127, y128) => (if (y114 != y126) = true then scutagelaw07_StorePlays.j5 rec61 y116 y128 v50 true else scutagelaw07_StorePlays.j5 rec61 y116 y128 v50 (y115 != y127))))
def scutagelaw07_StorePlays.j3 (v50 : Int) (xs41 : List api_Journal) (xs48 : List api_Journal) (rec61 : (List api_Journal × List api_Journal × Int) → Option (Bool ⊕ (List api_Journal × List api_Journal))) (s104 : ByteArray) (v105 : Int) (xs109 : List api_Line) (v110 : Int) (v111 : Int) : Option (Bool ⊕ (List api_Journal × List api_Journal)) := (if (v50 == 7) = true then ((store_Store_Clone (⟨xs41⟩ : store_Store)).bind fun y143 => ((store_Store_Post (⟨y143.f_l⟩ : store_Store) (⟨#[97]⟩ : ByteArray) 0 1 0 [(⟨1, 5⟩ : api_Line), (⟨2, (-5)⟩ : api_Line)]).bind fun (y157, y158, y159) => scutagelaw07_StorePlays.j4 xs41 s104 v105 v110 v111 xs109 xs48 rec61 v50)) else scutagelaw07_StorePlays.j4 xs41 s104 v105 v110 v111 xs109 xs48 rec61 v50)
def scutagelaw07_StorePlays.j6 (y177 : Int) (xs48 : List api_Journal) (v50 : Int) (xs41 : List api_Journal) (rec61 : (List api_Journal × List api_Journal × Int) → Option (Bool ⊕ (List api_Journal × List api_Journal))) (y78 : Int) (v93 : Int) (y95 : List api_Line) (q259 : Bool) : Option (Bool ⊕ (List api_Journal × List api_Journal)) := (if q259 = true then (gd ((0 : Int) ≤ w64 (y177 - 1) ∧ w64 (y177 - 1) < (xs48.length : Int)) ((scutageref01_Reverse ((rd xs48 (w64 (y177 - 1))).Lines)).bind fun y267 => scutagelaw07_StorePlays.j3 v50 xs41 xs48 rec61 ((rd xs48 (w64 (y177 - 1))).Entity) ((rd xs48 (w64 (y177 - 1))).Period) y267 2 y177)) else scutagelaw07_StorePlays.j3 v50 xs41 xs48 rec61 (rd [(⟨#[97]⟩ : ByteArray), (⟨#[98]⟩ : ByteArray), (⟨#[]⟩ : ByteArray)] (Int.tmod y78 3)) v93 y95 2 y177)
def scutagelaw07_StorePlays.j2 (l_ : List scutagelaw07_Act) (v50 : Int) (xs48 : List api_Journal) (xs41 : List api_Journal) (rec61 : (List api_Journal × List api_Journal × Int) → Option (Bool ⊕ (List api_Journal × List api_Journal))) (y78 : Int) (v93 : Int) : Option (Bool ⊕ (List api_Journal × List api_Journal)) := ((scutagelaw06_Some ((rd l_ v50).Accounts) ((rd l_ v50).Amounts) ((rd l_ v50).At) ((rd l_ v50).What) (Int.tmod ((rd l_ v50).What) 19 == 18)).bind fun y95 => ((scutagekeep_Within ((rd l_ v50).Kind) 6).bind fun y169 => (if (y169 == 0) = true then ((scutagekeep_Within ((rd l_ v50).Of) (w64 ((xs48.length : Int) + 2))).bind fun y177 => (if (decide (y177 > 0)) = true then (if (decide (y177 ≤ (xs48.length : Int))) = true then scutagelaw07_StorePlays.j6 y177 xs48 v50 xs41 rec61 y78 v93 y95 (Int.tmod ((rd l_ v50).Of) 5 != 0) else scutagelaw07_StorePlays.j6 y177 xs48 v50 xs41 rec61 y78 v93 y95 false) else scutagelaw07_StorePlays.j6 y177 xs48 v50 xs41 rec61 y78 v93 y95 false)) else (if (y169 == 1) = true then scutagelaw07_StorePlays.j3 v50 xs41 xs48 rec61 (rd [(⟨#[97]⟩ : ByteArray), (⟨#[98]⟩ : ByteArray), (⟨#[]⟩ : ByteArray)] (Int.tmod y78 3)) v93 y95 (Int.tmod ((rd l_ v50).Kind) 7) (Int.tmod ((rd l_ v50).Of) 3) else scutagelaw07_StorePlays.j3 v50 xs41 xs48 rec61 (rd [(⟨#[97]⟩ : ByteArray), (⟨#[98]⟩ : ByteArray), (⟨#[]⟩ : ByteArray)] (Int.tmod y78 3)) v93 y95 1 0))))
def scutagelaw07_StorePlays.l4 (xs41 : List api_Journal) (v646 : Int) (v628 : Int) (xs48 : List api_Journal) : Nat → Int → Option (Bool ⊕ Unit)
  | 0, _ => none
  | fuel699 + 1, v689 => (if (decide (v689 < 9)) = true then ((store_Store_Balance (⟨xs41⟩ : store_Store) (rd [(⟨#[97]⟩ : ByteArray), (⟨#[98]⟩ : ByteArray), (⟨#[120]⟩ : ByteArray)] v646) v689 v628).bind fun y703 => ((scutageref01_Store_Balance (⟨xs48⟩ : scutageref01_Store) (rd [(⟨#[97]⟩ : ByteArray), (⟨#[98]⟩ : ByteArray), (⟨#[120]⟩ : ByteArray)] v646) v689 v628).bind fun y709 => (if (y703 != y709) = true then some (.inl false) else (scutagelaw07_StorePlays.l4 xs41 v646 v628 xs48 fuel699) (w64 (v689 + 1))))) else some (.inr ()))
def scutagelaw07_StorePlays.l3 (xs41 : List api_Journal) (v628 : Int) (xs48 : List api_Journal) : Nat → Int → Option (Bool ⊕ Unit)
  | 0, _ => none
  | fuel656 + 1, v646 => (if (decide (v646 < (3 : Int))) = true then (gd ((0 : Int) ≤ v646 ∧ v646 < ([(⟨#[97]⟩ : ByteArray), (⟨#[98]⟩ : ByteArray), (⟨#[120]⟩ : ByteArray)].length : Int)) ((store_Store_Trial (⟨xs41⟩ : store_Store) (rd [(⟨#[97]⟩ : ByteArray), (⟨#[98]⟩ : ByteArray), (⟨#[120]⟩ : ByteArray)] v646) v628).bind fun y663 => ((scutageref01_Store_Trial (⟨xs48⟩ : scutageref01_Store) (rd [(⟨#[97]⟩ : ByteArray), (⟨#[98]⟩ : ByteArray), (⟨#[120]⟩ : ByteArray)] v646) v628).bind fun y672 => ((scutagekeep_Same_api_Line y663 y672).bind fun y681 => (if (!y681) = true then some (.inl false) else ((scutagelaw07_StorePlays.l4 xs41 v646 v628 xs48 FUEL 0).bind fun tt => match tt with | .inl rr => some (.inl rr) | .inr _ => (scutagelaw07_StorePlays.l3 xs41 v628 xs48 fuel656) (w64 (v646 + 1)))))))) else some (.inr ()))
def scutagelaw07_StorePlays.l2 (xs41 : List api_Journal) (xs48 : List api_Journal) : Nat → Int → Option (Bool ⊕ Unit)
  | 0, _ => none
  | fuel638 + 1, v628 => (if (decide (v628 < 6)) = true then ((scutagelaw07_StorePlays.l3 xs41 v628 xs48 FUEL 0).bind fun tt => match tt with | .inl rr => some (.inl rr) | .inr _ => (scutagelaw07_StorePlays.l2 xs41 xs48 fuel638) (w64 (v628 + 1))) else some (.inr ()))
def scutagelaw07_StorePlays.j1 (v50 : Int) (l_ : List scutagelaw07_Act) (xs48 : List api_Journal) (xs41 : List api_Journal) (rec61 : (List api_Journal × List api_Journal × Int) → Option (Bool ⊕ (List api_Journal × List api_Journal))) (q63 : Bool) : Option (Bool ⊕ (List api_Journal × List api_Journal)) := (if q63 = true then (gd ((0 : Int) ≤ v50 ∧ v50 < (l_.length : Int)) ((scutagekeep_Within ((rd l_ v50).Entity) 13).bind fun y78 => (gd ((0 : Int) ≤ Int.tmod y78 3 ∧ Int.tmod y78 3 < ([(⟨#[97]⟩ : ByteArray), (⟨#[98]⟩ : ByteArray), (⟨#[]⟩ : ByteArray)].length : Int)) ((scutagekeep_Within ((rd l_ v50).Period) 5).bind fun y87 => (if (Int.tmod ((rd l_ v50).Period) 41 == 40) = true then scutagelaw07_StorePlays.j2 l_ v50 xs48 xs41 rec61 y78 ((rd l_ v50).Period) else scutagelaw07_StorePlays.j2 l_ v50 xs48 xs41 rec61 y78 y87))))) else some (.inr (xs41, xs48)))
def scutagelaw07_StorePlays.l1 (l_ : List scutagelaw07_Act) : Nat → (List api_Journal × List api_Journal × Int) → Option (Bool ⊕ (List api_Journal × List api_Journal))
  | 0, _ => none
  | fuel60 + 1, (xs41, xs48, v50) => (if (decide (v50 < (l_.length : Int))) = true then scutagelaw07_StorePlays.j1 v50 l_ xs48 xs41 (scutagelaw07_StorePlays.l1 l_ fuel60) (decide (v50 < 16)) else scutagelaw07_StorePlays.j1 v50 l_ xs48 xs41 (scutagelaw07_StorePlays.l1 l_ fuel60) false)
def scutagelaw07_StorePlays (l_ : List scutagelaw07_Act) : Option Bool := ((store_New).bind fun y11 => ((scutagelaw07_StorePlays.l1 l_ FUEL (y11.f_l, ([] : List api_Journal), 0)).bind fun tt => match tt with | .inl rr => some rr | .inr (xs41, xs48) => ((store_Store_Journals (⟨xs41⟩ : store_Store)).bind fun y542 => ((scutagelaw07_Journals y542 xs48).bind fun y552 => (if (!y552) = true then some false else ((scutagelaw07_StorePlays.l2 xs41 xs48 FUEL (-1)).bind fun tt => match tt with | .inl rr => some rr | .inr _ => ((scutagelaw07_wakes).bind fun y716 => some y716)))))))

end Go.Proofs.Ytdhekpodgemneaa
