/- The plain law of StorePlays, first part: lines. No program in it. -/
import Derived.Test.YtdhekpodgemneaaPM
import Derived.Test.YtdhekpodgemneaaCore12
set_option linter.unusedVariables false
set_option linter.unusedSimpArgs false
set_option maxRecDepth 100000
namespace Go.Proofs.Ytdhekpodgemneaa
open Go

def Mny (n : Int) : Prop := -100000000000 ≤ n ∧ n ≤ 100000000000
instance (n : Int) : Decidable (Mny n) := inferInstanceAs (Decidable (_ ∧ _))
theorem Mny_def {n : Int} : Mny n ↔ -100000000000 ≤ n ∧ n ≤ 100000000000 := Iff.rfl
theorem money_ok (n : Int) : rate_Money n = some (decide (Mny n)) := by
  unfold rate_Money rate_Money.j1
  by_cases h : n ≥ -100000000000
  · rw [if_pos (by simpa using h)]; congr 1; rw [decide_eq_decide, Mny_def]; omega
  · rw [if_neg (by simpa using h)]; congr 1; symm; rw [decide_eq_false_iff_not, Mny_def]; omega
theorem rmoney_ok (n : Int) : scutageref01_Money n = some (decide (Mny n)) := by
  unfold scutageref01_Money scutageref01_Money.j1
  by_cases h : n ≥ -100000000000
  · rw [if_pos (by simpa using h)]; congr 1; rw [decide_eq_decide, Mny_def]; omega
  · rw [if_neg (by simpa using h)]; congr 1; symm; rw [decide_eq_false_iff_not, Mny_def]; omega
def Ac (a : Int) : Prop := 1 ≤ a ∧ a ≤ 7
instance (n : Int) : Decidable (Ac n) := inferInstanceAs (Decidable (_ ∧ _))
theorem Ac_def {a : Int} : Ac a ↔ 1 ≤ a ∧ a ≤ 7 := Iff.rfl
theorem acc_ok (a : Int) : scutageref01_Account a = some (decide (Ac a)) := by
  unfold scutageref01_Account scutageref01_Account.j1
  by_cases h : a ≥ 1
  · rw [if_pos (by simpa using h)]; congr 1; rw [decide_eq_decide, Ac_def]; omega
  · rw [if_neg (by simpa using h)]; congr 1; symm; rw [decide_eq_false_iff_not, Ac_def]; omega
theorem is_ok (a : Int) : chart_is a = some (decide (Ac a)) := by
  unfold chart_is chart_is.j1
  by_cases h : a ≥ 1
  · rw [if_pos (by simpa using h)]; congr 1; rw [decide_eq_decide, Ac_def]; omega
  · rw [if_neg (by simpa using h)]; congr 1; symm; rw [decide_eq_false_iff_not, Ac_def]; omega
theorem name_ok (a : Int) : ∃ t, chart_Name a = some t ∧ (!(t.toList == (⟨#[]⟩ : ByteArray).toList)) = decide (Ac a) := by
  unfold chart_Name
  rw [is_ok, Option.bind_some]
  by_cases h : Ac a
  · simp only [h, decide_true, Bool.not_true, Bool.false_eq_true, if_false, chart_names, Option.bind_some]
    rw [Ac_def] at h
    rw [gd_true (by simp; omega)]
    refine ⟨_, rfl, ?_⟩
    rw [str_eq]
    have : a = 1 ∨ a = 2 ∨ a = 3 ∨ a = 4 ∨ a = 5 ∨ a = 6 ∨ a = 7 := by omega
    rcases this with rfl | rfl | rfl | rfl | rfl | rfl | rfl <;> decide
  · simp only [h, decide_false, Bool.not_false, if_true]
    exact ⟨_, rfl, by rw [str_eq]; simp⟩
def rgt (x : api_Line) : Bool := decide (Ac x.Account ∧ x.Amount ≠ 0 ∧ Mny x.Amount)
theorem rgt_t {x : api_Line} : rgt x = true ↔ Ac x.Account ∧ x.Amount ≠ 0 ∧ Mny x.Amount := by simp only [rgt, decide_eq_true_eq]
theorem right_ok (x : api_Line) : journal_right x = some (rgt x) := by
  unfold journal_right journal_right.j1
  obtain ⟨t, ht, h2⟩ := name_ok x.Account
  rw [ht, Option.bind_some, h2]
  by_cases h : Ac x.Account
  · rw [if_pos (by simpa using h)]
    by_cases h3 : x.Amount = 0
    · rw [if_neg (by simp [h3])]; simp [rgt, h3]
    · rw [if_pos (by simpa using h3), money_ok, Option.bind_some]; simp [rgt, h, h3]
  · rw [if_neg (by simpa using h)]; simp [rgt, h]

/-! ### are lines right? -/
def lok : Int → List api_Line → Bool
  | _, [] => true
  | last, x :: xs => rgt x && decide (last < x.Account) && lok x.Account xs
def sm : List api_Line → Int
  | [] => 0
  | x :: xs => x.Amount + sm xs
theorem lok_cons {last : Int} {x : api_Line} {xs : List api_Line} : lok last (x :: xs) = true ↔ (rgt x = true ∧ last < x.Account) ∧ lok x.Account xs = true := by
  simp only [lok, Bool.and_eq_true, decide_eq_true_eq]
theorem lok_len : ∀ {l : List api_Line} {last : Int}, lok last l = true → 0 ≤ last → last ≤ 7 → last + l.length ≤ 7
  | [], _, _, _, h => by simpa using h
  | x :: xs, last, h, h0, h7 => by
    obtain ⟨⟨h1, h2⟩, h3⟩ := lok_cons.1 h
    rw [rgt_t, Ac_def] at h1
    have := lok_len h3 (by omega) h1.1.2
    simp only [List.length_cons]; omega
theorem lok_mem : ∀ {l : List api_Line} {last : Int}, lok last l = true → ∀ x ∈ l, rgt x = true ∧ last < x.Account
  | [], _, _, x, hx => by simp at hx
  | y :: ys, last, h, x, hx => by
    obtain ⟨⟨h1, h2⟩, h3⟩ := lok_cons.1 h
    rcases List.mem_cons.1 hx with rfl | hx
    · exact ⟨h1, h2⟩
    · have := lok_mem h3 x hx
      exact ⟨this.1, by omega⟩
theorem pc_loop : ∀ (l : List api_Line) (i last : Int), journal_Check.l1 l (i, last) = some (if lok last l = true then .inr () else .inl 2)
  | [], _, _ => rfl
  | y :: ys, i, last => by
    rw [journal_Check.l1, right_ok, Option.bind_some]
    by_cases h : rgt y = true
    · rw [if_neg (by simp [h])]
      unfold journal_Check.j1
      by_cases h2 : y.Account ≤ last
      · rw [if_pos (by simpa using h2), if_neg (fun hh => by have := (lok_cons.1 hh).1.2; omega)]
      · rw [if_neg (by simpa using h2), pc_loop ys]
        congr 2
        exact propext ⟨fun hh => lok_cons.2 ⟨⟨h, by omega⟩, hh⟩, fun hh => (lok_cons.1 hh).2⟩
    · rw [if_pos (by simp [h]), journal_Check.j1, if_pos rfl, if_neg (fun hh => h (lok_cons.1 hh).1.1)]
theorem dc_loop (L : List api_Line) : ∀ (ys dn : List api_Line) (v last : Int), L = dn ++ ys → 0 ≤ last → last ≤ 7 → (dn.length : Int) ≤ last → ((dn = [] ∧ last = 0) ∨ ∃ dn' z, dn = dn' ++ [z] ∧ z.Account = last) →
    -100000000000 * dn.length ≤ v → v ≤ 100000000000 * dn.length → scutageref01_Check.l1 L ys ((dn.length : Int), v) = some (if lok last ys = true then .inr (v + sm ys) else .inl false)
  | [], dn, v, last, _, _, _, _, _, _, _ => by simp [scutageref01_Check.l1, lok, sm]
  | y :: ys, dn, v, last, e, h0, h7, hl, hp, b1, b2 => by
    have hlen : L.length = dn.length + (ys.length + 1) := by rw [e]; simp
    have bad : ∀ r w : Option (Bool ⊕ Int), scutageref01_Check.j1 (scutageref01_Check.l1 L ys) (dn.length : Int) v y true = some (.inl false) := fun _ _ => by rw [scutageref01_Check.j1, if_pos rfl]
    have bad := bad none none
    rw [scutageref01_Check.l1, if_neg (by simp; omega), acc_ok, Option.bind_some]
    by_cases ha : Ac y.Account
    · rw [if_neg (by simpa using ha)]
      by_cases hz : y.Amount = 0
      · rw [if_pos (by simpa using hz), bad, if_neg (fun hh => (rgt_t.1 (lok_cons.1 hh).1.1).2.1 hz)]
      · rw [if_neg (by simpa using hz), rmoney_ok, Option.bind_some]
        by_cases hm : Mny y.Amount
        · rw [if_neg (by simpa using hm)]
          have hr : rgt y = true := rgt_t.2 ⟨ha, hz, hm⟩
          have ha' := ha; have hm' := hm
          rw [Ac_def] at ha'; rw [Mny_def] at hm'
          have key : (decide ((dn.length : Int) > 0) = true → decide (y.Account ≤ (rd L (w64 ((dn.length : Int) - 1))).Account) = decide (y.Account ≤ last)) := by
            intro h
            rcases hp with ⟨h1, _⟩ | ⟨dn', z, rfl, hz⟩
            · rw [h1] at h; simp at h
            · have hl' : (dn'.length : Int) + 1 ≤ last := by simpa using hl
              have e1 : w64 (((dn' ++ [z]).length : Int) - 1) = (dn'.length : Int) := by rw [w64_id (by simp only [List.length_append, List.length_cons, List.length_nil]; omega) (by simp only [List.length_append, List.length_cons, List.length_nil]; omega)]; simp
              have e2 : rd L (dn'.length : Int) = z := by
                have := rd_mid dn' (y :: ys) z
                rw [e]; simpa using this
              rw [e1, e2, hz]
          have go : ∀ q : Bool, (q = decide (y.Account ≤ last)) → scutageref01_Check.j1 (scutageref01_Check.l1 L ys) (dn.length : Int) v y q = some (if lok last (y :: ys) = true then .inr (v + sm (y :: ys)) else .inl false) := by
            intro q hq
            subst hq
            by_cases h2 : y.Account ≤ last
            · have : decide (y.Account ≤ last) = true := by simpa using h2
              rw [this, bad, if_neg (fun hh => by have := (lok_cons.1 hh).1.2; omega)]
            · have : decide (y.Account ≤ last) = false := by simpa using h2
              rw [this, scutageref01_Check.j1, if_neg (by simp)]
              have ih := dc_loop L ys (dn ++ [y]) (v + y.Amount) y.Account (by rw [e]; simp) (by omega) ha'.2 (by simp; omega) (.inr ⟨dn, y, rfl, rfl⟩) (by simp; omega) (by simp; omega)
              have e1 : (((dn ++ [y]).length : Nat) : Int) = (dn.length : Int) + 1 := by simp
              rw [e1] at ih
              rw [w64_id (by omega) (by omega), ih, sm, Int.add_assoc]
              have : lok last (y :: ys) = lok y.Account ys := by rw [lok, hr, show decide (last < y.Account) = true by simp; omega]; rfl
              rw [this]
          by_cases hd : (dn.length : Int) > 0
          · have hd' : decide ((dn.length : Int) > 0) = true := by simpa using hd
            rw [if_pos hd', gd_true (by rw [w64_id (by omega) (by omega)]; omega)]
            exact go _ (key hd')
          · rw [if_neg (by simpa using hd)]
            refine go _ ?_
            have : last = 0 := by
              rcases hp with ⟨_, h⟩ | ⟨dn', z, rfl, _⟩
              · exact h
              · simp at hd
            symm; rw [decide_eq_false_iff_not]; omega
        · rw [if_pos (by simpa using hm), bad, if_neg (fun hh => hm (rgt_t.1 (lok_cons.1 hh).1.1).2.2)]
    · rw [if_pos (by simpa using ha), bad, if_neg (fun hh => ha (rgt_t.1 (lok_cons.1 hh).1.1).1)]
def chk (l : List api_Line) : Bool := lok 0 l && decide (sm l = 0)
theorem dcheck_ok (l : List api_Line) : scutageref01_Check l = some (chk l) := by
  unfold scutageref01_Check
  have h := dc_loop l l [] 0 0 rfl (by omega) (by omega) (by simp) (.inl ⟨rfl, rfl⟩) (by simp) (by simp)
  have h' : scutageref01_Check.l1 l l (0, 0) = _ := h
  rw [h', Option.bind_some]
  unfold chk
  by_cases hl : lok 0 l = true
  · rw [if_pos hl, hl, Int.zero_add]; simp; rfl
  · rw [if_neg hl]; simp [hl]

/-! ### debits and credits -/
def sd (x : api_Line) : Cpx := ⟨dbl x.Amount.toNat, dbl (-x.Amount).toNat⟩
theorem dbl0 : dbl 0 = 0 := by decide +kernel
theorem of_ok {n : Int} (h : Mny n) : sides_Of n = some ⟨dbl n.toNat, dbl (-n).toNat⟩ := by
  unfold sides_Of
  rw [money_ok, Option.bind_some, if_neg (by simp [h])]
  rw [Mny_def] at h
  by_cases hp : n > 0
  · rw [if_pos (by simpa using hp), dbl_int (by omega), show (-n).toNat = 0 by omega, dbl0]
  · rw [if_neg (by simpa using hp), w64_id (by omega) (by omega), dbl_int (by omega), show n.toNat = 0 by omega, dbl0, Int.zero_sub]
theorem sides_loop : ∀ (l : List api_Line) (i : Int) (xs : List Cpx), (∀ x ∈ l, Mny x.Amount) → xs.length + l.length ≤ 1000 → journal_Sides.l1 l (i, xs) = some (xs ++ l.map sd)
  | [], _, xs, _, _ => by simp [journal_Sides.l1]
  | y :: ys, i, xs, h, hl => by
    simp only [List.length_cons] at hl
    rw [journal_Sides.l1, of_ok (h y (by simp)), Option.bind_some, gd_true (fit_small (by simp; omega)), sides_loop ys _ _ (fun x hx => h x (by simp [hx])) (by simp; omega)]
    simp [sd]
def dP : List api_Line → Nat
  | [] => 0
  | x :: xs => x.Amount.toNat + dP xs
def dQ : List api_Line → Nat
  | [] => 0
  | x :: xs => (-x.Amount).toNat + dQ xs
theorem dPQ : ∀ l, sm l = (dP l : Int) - (dQ l : Int)
  | [] => rfl
  | x :: xs => by
    have := dPQ xs
    rw [sm, dP, dQ]; omega
theorem dPQ_bd : ∀ l : List api_Line, (∀ x ∈ l, Mny x.Amount) → dP l ≤ 100000000000 * l.length ∧ dQ l ≤ 100000000000 * l.length
  | [], _ => by simp [dP, dQ]
  | x :: xs, h => by
    have h1 := dPQ_bd xs fun y hy => h y (by simp [hy])
    have h2 := h x (by simp)
    rw [Mny_def] at h2
    rw [dP, dQ]
    simp only [List.length_cons]; omega
theorem cadd_ok {a b c d : Nat} (h1 : a + c < 2 ^ 53) (h2 : b + d < 2 ^ 53) : cadd ⟨dbl a, dbl b⟩ ⟨dbl c, dbl d⟩ = some ⟨dbl (a + c), dbl (b + d)⟩ := by
  simp only [cadd, cSumBits, dbl_add h1, dbl_add h2, Option.bind_some, Option.map_some]
theorem sum_loop : ∀ (l : List api_Line) (i : Int) (a b : Nat), a + dP l < 2 ^ 53 → b + dQ l < 2 ^ 53 → sides_Sum.l1 (l.map sd) (i, ⟨dbl a, dbl b⟩) = some ⟨dbl (a + dP l), dbl (b + dQ l)⟩
  | [], _, _, _, _, _ => rfl
  | x :: xs, i, a, b, h1, h2 => by
    rw [dP] at h1 ⊢
    rw [dQ] at h2 ⊢
    rw [List.map_cons, sides_Sum.l1, sd, cadd_ok (by omega) (by omega), Option.bind_some, sum_loop xs _ _ _ (by omega) (by omega), Nat.add_assoc, Nat.add_assoc]
theorem check_ok (l : List api_Line) : journal_Check l = some (if chk l = true then 0 else 2) := by
  unfold journal_Check chk
  by_cases hl : lok 0 l = true
  · have hlen := lok_len hl (by omega) (by omega)
    have hm : ∀ x ∈ l, Mny x.Amount := fun x hx => (rgt_t.1 (lok_mem hl x hx).1).2.2
    have hb := dPQ_bd l hm
    rw [if_neg (by simp; omega), pc_loop, if_pos hl, Option.bind_some]
    show (journal_Sides l).bind _ = _
    unfold journal_Sides
    rw [sides_loop l 0 [] hm (by simp; omega), Option.bind_some]
    show (Option.bind (sides_Sum (l.map sd)) _).bind _ = _
    unfold sides_Sum
    have h53 : (2 : Nat) ^ 53 = 9007199254740992 := by decide
    have hs := sum_loop l 0 0 0 (by rw [h53]; omega) (by rw [h53]; omega)
    rw [dbl0] at hs
    rw [hs, Option.bind_some, Option.bind_some, Option.bind_some, sides_Even, Option.bind_some, Nat.zero_add, Nat.zero_add, dbl_cmp (by rw [h53]; omega) (by rw [h53]; omega), hl]
    have hiff : (dP l = dQ l) ↔ sm l = 0 := by rw [dPQ]; omega
    by_cases h : sm l = 0
    · rw [if_neg (by simp [hiff.2 h]), if_pos (by simp [h])]
    · rw [if_pos (by simp; exact fun hh => h (hiff.1 hh)), if_neg (by simp [h])]
  · have : (lok 0 l && decide (sm l = 0)) = false := by simp [hl]
    rw [this, if_neg (by simp : ¬ (false = true))]
    by_cases h20 : (l.length : Int) > 20
    · rw [if_pos (by simpa using h20)]
    · rw [if_neg (by simpa using h20), pc_loop, if_neg hl]; rfl
end Go.Proofs.Ytdhekpodgemneaa
