/- What the printed functions of package cross come to. No program in it. -/
import Derived.Test.YtfhekejaobmacaaBL1
import Derived.Test.YtfhekejaobmacaaCore12
set_option linter.unusedVariables false
set_option linter.unusedSimpArgs false
namespace Go.Proofs.Ytfhekejaobmacaa
open Go

def Mny (n : Int) : Prop := -100000000000 ≤ n ∧ n ≤ 100000000000
instance (n : Int) : Decidable (Mny n) := inferInstanceAs (Decidable (_ ∧ _))
theorem Mny_def {n : Int} : Mny n ↔ -100000000000 ≤ n ∧ n ≤ 100000000000 := Iff.rfl
theorem money_ok (n : Int) : rate_Money n = some (decide (Mny n)) := by
  unfold rate_Money rate_Money.j1
  by_cases h : n ≥ -100000000000
  · rw [if_pos (by simpa using h)]; congr 1; rw [decide_eq_decide, Mny_def]; omega
  · rw [if_neg (by simpa using h)]; congr 1; symm; rw [decide_eq_false_iff_not, Mny_def]; omega
theorem or2 (a b : Int) : cmp_Or_int [a, b] = some (if a ≠ 0 then a else b) := by
  simp only [cmp_Or_int, cmp_Or_int.l1]
  by_cases h : a = 0
  · by_cases h2 : b = 0 <;> simp [h, h2]
  · simp [h]
def xlt (a b : cross_Row) : Bool := slt a.Seller b.Seller || (decide (a.Seller = b.Seller) && slt a.Buyer b.Buyer)
theorem xlt_t {a b : cross_Row} : xlt a b = true ↔ (slt a.Seller b.Seller = true ∨ (a.Seller = b.Seller ∧ slt a.Buyer b.Buyer = true)) := by simp [xlt]
theorem xlt_irr (x : cross_Row) : xlt x x = false := by simp [xlt, slt_irr]
theorem xlt_trans {x y z : cross_Row} (h1 : xlt x y = true) (h2 : xlt y z = true) : xlt x z = true := by
  rw [xlt_t] at *
  rcases h1 with h1 | ⟨e1, h1⟩
  · rcases h2 with h2 | ⟨e2, h2⟩
    · exact .inl (slt_trans h1 h2)
    · exact .inl (e2 ▸ h1)
  · rcases h2 with h2 | ⟨e2, h2⟩
    · exact .inl (e1 ▸ h2)
    · exact .inr ⟨e1.trans e2, slt_trans h1 h2⟩
def xk (s b : ByteArray) (x : cross_Row) : Bool := decide (x.Seller = s ∧ x.Buyer = b)
theorem xk_t {s b : ByteArray} {x : cross_Row} : xk s b x = true ↔ x.Seller = s ∧ x.Buyer = b := by simp only [xk, decide_eq_true_eq]
theorem xlt_total (x y : cross_Row) : xlt x y = true ∨ (x.Seller = y.Seller ∧ x.Buyer = y.Buyer) ∨ xlt y x = true := by
  rw [xlt_t, xlt_t]
  rcases slt_total x.Seller y.Seller with h | h | h
  · exact .inl (.inl h)
  · rcases slt_total x.Buyer y.Buyer with h2 | h2 | h2
    · exact .inl (.inr ⟨h, h2⟩)
    · exact .inr (.inl ⟨h, h2⟩)
    · exact .inr (.inr (.inr ⟨h.symm, h2⟩))
  · exact .inr (.inr (.inl h))
theorem xord : Ord xlt where
  irr := xlt_irr
  trans := fun _ _ _ => xlt_trans
  neg := fun x y z h1 h2 => by
    cases h : xlt x z with
    | false => rfl
    | true =>
      rcases xlt_total x y with g | g | g
      · rw [g] at h1; cases h1
      · rcases xlt_total y z with q | q | q
        · rw [q] at h2; cases h2
        · rw [xlt_t, g.1, g.2, q.1, q.2, slt_irr, slt_irr] at h; simp at h
        · rw [xlt_t, g.1, g.2, ← xlt_t, (xord_as q)] at h; cases h
      · have := xlt_trans g h; rw [this] at h2; cases h2
where
  xord_as {y z : cross_Row} (q : xlt z y = true) : xlt y z = false := by
    cases h : xlt y z with
    | false => rfl
    | true => have := xlt_trans q h; rw [xlt_irr] at this; cases this
def xcm : (cross_Row × cross_Row) → Option Int := fun x => cross_Cross_Add_c2 x.1 x.2
theorem xcmp (x y : cross_Row) : ∃ r, xcm (x, y) = some r ∧ decide (r < 0) = xlt x y := by
  simp only [xcm, cross_Cross_Add_c2, strings_Compare, internal_bytealg_CompareString, Option.bind_some, or2]
  refine ⟨_, rfl, ?_⟩
  by_cases h : scmp x.Seller y.Seller = 0
  · rw [if_neg (by simpa using h), scmp_lt]
    rw [scmp_eq] at h
    simp [xlt, h, slt_irr]
  · rw [if_pos h, scmp_lt]
    have : ¬ x.Seller = y.Seller := fun e => h (scmp_eq.2 e)
    simp [xlt, this]
theorem c1_ok (x : cross_Row) (s b : ByteArray) : cross_Cross_Add_c1 x s b = some (xk s b x) := by
  unfold cross_Cross_Add_c1 cross_Cross_Add_c1.j1
  rw [str_eq, str_eq]
  by_cases h : x.Seller = s
  · rw [if_pos (by simpa using h)]; simp [xk, h]
  · rw [if_neg (by simpa using h)]; simp [xk, h]
/-- rows as they stand -/
structure CI (l : List cross_Row) : Prop where
  srt : Srt xlt l
  len : l.length ≤ 8
  amt : ∀ x ∈ l, 1 ≤ x.Amount ∧ x.Amount ≤ 100000000000
theorem CI.nil : CI [] := ⟨List.Pairwise.nil, by simp, by simp⟩
def amt (s b : ByteArray) : List cross_Row → Int
  | [] => 0
  | x :: l => if xk s b x = true then x.Amount else amt s b l
theorem amt_none {s b : ByteArray} : ∀ {l : List cross_Row}, (∀ x ∈ l, xk s b x = false) → amt s b l = 0
  | [], _ => rfl
  | x :: l, h => by rw [amt, if_neg (by simp [h x (by simp)]), amt_none fun z hz => h z (List.mem_cons_of_mem _ hz)]
theorem amt_mid {s b : ByteArray} {B : List cross_Row} {x : cross_Row} (hx : xk s b x = true) : ∀ {A : List cross_Row}, (∀ x ∈ A, xk s b x = false) → amt s b (A ++ x :: B) = x.Amount
  | [], _ => by rw [List.nil_append, amt, if_pos hx]
  | y :: A, h => by rw [List.cons_append, amt, if_neg (by simp [h y (by simp)]), amt_mid hx fun z hz => h z (List.mem_cons_of_mem _ hz)]
theorem amt_bd {s b : ByteArray} : ∀ {l : List cross_Row}, (∀ x ∈ l, 1 ≤ x.Amount ∧ x.Amount ≤ 100000000000) → 0 ≤ amt s b l ∧ amt s b l ≤ 100000000000
  | [], _ => by simp [amt]
  | x :: l, h => by
    have := h x (by simp)
    rw [amt]
    split
    · omega
    · exact amt_bd fun z hz => h z (List.mem_cons_of_mem _ hz)
theorem xkey_other {s b : ByteArray} {A B : List cross_Row} {x : cross_Row} (hs : Srt xlt (A ++ x :: B)) (hx : xk s b x = true) : (∀ v ∈ A, xk s b v = false) ∧ ∀ v ∈ B, xk s b v = false := by
  obtain ⟨g1, g2, g3⟩ := List.pairwise_append.1 hs
  rw [xk_t] at hx
  have go : ∀ v w : cross_Row, xlt v w = true → xk s b w = true → xk s b v = false := by
    intro v w h1 h2
    cases h3 : xk s b v with
    | false => rfl
    | true =>
      rw [xk_t] at h2 h3
      rw [xlt_t, h2.1, h2.2, h3.1, h3.2, slt_irr, slt_irr] at h1; simp at h1
  have go2 : ∀ v w : cross_Row, xlt w v = true → xk s b w = true → xk s b v = false := by
    intro v w h1 h2
    cases h3 : xk s b v with
    | false => rfl
    | true =>
      rw [xk_t] at h2 h3
      rw [xlt_t, h2.1, h2.2, h3.1, h3.2, slt_irr, slt_irr] at h1; simp at h1
  exact ⟨fun v hv => go v x (g3 v hv x (by simp)) (xk_t.2 hx), fun v hv => go2 v x ((List.pairwise_cons.1 g2).1 v hv) (xk_t.2 hx)⟩
def rest (s b : ByteArray) (l : List cross_Row) : List cross_Row := l.filter fun x => !xk s b x
def nxt (l : List cross_Row) (s b : ByteArray) (m : Int) : List cross_Row := if m = 0 then rest s b l else ins xlt ⟨s, b, m⟩ (rest s b l)
def emp : ByteArray := ⟨#[]⟩
def cAdd (l : List cross_Row) (s b : ByteArray) (n : Int) : Int × List cross_Row :=
  if s = emp ∨ b = emp ∨ s = b ∨ ¬ Mny n then (1, l)
  else if amt s b l + n < 0 ∨ ¬ Mny (amt s b l + n) then (6, l)
  else if (nxt l s b (amt s b l + n)).length > 8 then (5, l)
  else (0, nxt l s b (amt s b l + n))
theorem rest_no {s b : ByteArray} {l : List cross_Row} {m : Int} : ∀ y ∈ rest s b l, xlt (⟨s, b, m⟩ : cross_Row) y = true ∨ xlt y (⟨s, b, m⟩ : cross_Row) = true := by
  intro y hy
  have h := (List.mem_filter.1 hy).2
  rcases xlt_total (⟨s, b, m⟩ : cross_Row) y with g | g | g
  · exact .inl g
  · have : xk s b y = true := xk_t.2 ⟨g.1.symm, g.2.symm⟩
    rw [this] at h; cases h
  · exact .inr g
theorem rest_srt {l : List cross_Row} (h : Srt xlt l) (s b : ByteArray) : Srt xlt (rest s b l) := h.filter _
theorem rows_ok {l : List cross_Row} (h : l.length ≤ 1000) : cross_Cross_Rows ⟨l⟩ = some l := by
  rw [cross_Cross_Rows]
  show (slices_Clone_cross_Row l).bind _ = _
  rw [clone_cross_Row l (by omega)]; rfl
theorem cAdd_ok {l : List cross_Row} (h : CI l) (s b : ByteArray) (n : Int) : cross_Cross_Add ⟨l⟩ s b n = some ((cAdd l s b n).1, ⟨(cAdd l s b n).2⟩) := by
  have hlen := h.len
  have hj : cross_Cross_Add.j1 ⟨l⟩ s b n true = some (1, ⟨l⟩) := by unfold cross_Cross_Add.j1; rw [if_pos rfl]
  have e1 : ∀ a : ByteArray, ((a.toList == ((⟨#[]⟩ : ByteArray)).toList) = true) = (a = emp) := fun a => by rw [str_eq]; simp [emp]
  have e2 : ((s.toList == b.toList) = true) = (s = b) := by rw [str_eq]; simp
  unfold cross_Cross_Add cAdd
  by_cases h1 : s = emp
  · rw [if_pos (by rw [e1]; exact h1), if_pos (.inl h1)]; exact hj
  rw [if_neg (by rw [e1]; exact h1)]
  by_cases h2 : b = emp
  · rw [if_pos (by rw [e1]; exact h2), if_pos (.inr (.inl h2))]; exact hj
  rw [if_neg (by rw [e1]; exact h2)]
  by_cases h3 : s = b
  · rw [if_pos (by rw [e2]; exact h3), if_pos (.inr (.inr (.inl h3)))]; exact hj
  rw [if_neg (by rw [e2]; exact h3), money_ok, Option.bind_some]
  by_cases h4 : Mny n
  · rw [if_neg (fun hh => hh.elim h1 fun hh => hh.elim h2 fun hh => hh.elim h3 fun hh => hh h4)]
    have h4' := h4; rw [Mny_def] at h4'
    simp only [h4, decide_true, Bool.not_true]
    unfold cross_Cross_Add.j1
    rw [if_neg (by simp)]
    show (slices_IndexFunc_cross_Row l _).bind _ = _
    rw [index_cross_Row l (p := xk s b) (fun x _ => c1_ok x s b), Option.bind_some]
    have hb := amt_bd (s := s) (b := b) h.amt
    have hj2 : cross_Cross_Add.j2 n ⟨l⟩ s b (amt s b l) = some ((if amt s b l + n < 0 ∨ ¬ Mny (amt s b l + n) then (6, l)
        else if (nxt l s b (amt s b l + n)).length > 8 then (5, l) else (0, nxt l s b (amt s b l + n))).1, ⟨(if amt s b l + n < 0 ∨ ¬ Mny (amt s b l + n) then ((6 : Int), l)
        else if (nxt l s b (amt s b l + n)).length > 8 then (5, l) else (0, nxt l s b (amt s b l + n))).2⟩) := by
      generalize hm : amt s b l = a at hb ⊢
      unfold cross_Cross_Add.j2
      rw [w64_id (by omega) (by omega)]
      have k6 : cross_Cross_Add.j3 ⟨l⟩ s b a n true = some (6, ⟨l⟩) := by unfold cross_Cross_Add.j3; rw [if_pos rfl]
      by_cases hn : a + n < 0
      · rw [if_pos (by simpa using hn), if_pos (.inl hn)]; exact k6
      rw [if_neg (by simpa using hn), money_ok, Option.bind_some]
      by_cases hM : Mny (a + n)
      · rw [if_neg (fun hh => hh.elim hn fun hh => hh hM)]
        simp only [hM, decide_true, Bool.not_true]
        unfold cross_Cross_Add.j3
        rw [if_neg (by simp)]
        show (cross_Cross_Rows ⟨l⟩).bind _ = _
        rw [rows_ok (by omega), Option.bind_some, delete_cross_Row l (by omega) (p := xk s b) (fun x _ => c1_ok x s b), Option.bind_some, w64_id (by omega) (by omega)]
        have hrl : (rest s b l).length ≤ l.length := List.length_filter_le _ _
        have k4 : ∀ q S : List cross_Row, q.length ≤ 9 → Srt xlt S → q.Perm S → cross_Cross_Add.j4 ⟨l⟩ q = some ((if S.length > 8 then (5, l) else (0, S)).1, ⟨(if S.length > 8 then ((5 : Int), l) else (0, S)).2⟩) := by
          intro q S hq hS hp
          unfold cross_Cross_Add.j4
          by_cases h8 : S.length > 8
          · rw [if_pos (by simp [hp.length_eq]; omega), if_pos h8]
          · rw [if_neg (by simp [hp.length_eq]; omega), if_neg h8]
            obtain ⟨T, t1, t2, t3⟩ := sortFunc_cross_Row xord xcmp q (by rw [hp.length_eq]; omega)
            have t1' : slices_SortFunc_cross_Row q (fun x => cross_Cross_Add_c2 x.1 x.2) = some T := t1
            rw [t1', Option.bind_some, sorted_eq xord t3 hS (t2.trans hp)]
        by_cases hz : a + n = 0
        · rw [if_neg (by simp [hz]), nxt, if_pos hz]
          exact k4 _ _ (by show (rest s b l).length ≤ 9; omega) (rest_srt h.srt s b) (List.Perm.refl _)
        · rw [if_pos (by simpa using hz), gd_true (fit_small (by show (rest s b l).length + 1 ≤ _; omega)), nxt, if_neg hz]
          exact k4 _ _ (by simp; show (rest s b l).length ≤ 8; omega) (ins_srt xord (rest_srt h.srt s b) rest_no) ((List.perm_append_comm (l₁ := rest s b l) (l₂ := [⟨s, b, a + n⟩])).trans (ins_perm _ _).symm)
      · rw [if_pos (.inr hM)]
        simp only [hM, decide_false, Bool.not_false]
        exact k6
    rcases idx_cases (xk s b) l 0 with ⟨A, x, B, rfl, hx, hA, hr⟩ | ⟨hA, hr⟩
    · rw [hr, Int.zero_add, if_pos (by simp), gd_true (by simp; omega)]
      show cross_Cross_Add.j2 n ⟨A ++ x :: B⟩ s b (rd (A ++ x :: B) (A.length : Int)).Amount = _
      rw [rd_mid, ← amt_mid (B := B) hx hA]
      exact hj2
    · rw [hr, if_neg (by simp)]
      rw [amt_none hA] at hj2 ⊢
      exact hj2
  · rw [if_pos (.inr (.inr (.inr h4)))]
    simp only [h4, decide_false, Bool.not_false]
    exact hj
theorem cAdd_inv {l : List cross_Row} (h : CI l) (s b : ByteArray) (n : Int) : CI (cAdd l s b n).2 := by
  have hb := amt_bd (s := s) (b := b) h.amt
  unfold cAdd
  split
  · exact h
  split
  · exact h
  split
  · exact h
  · rename_i h1 h2 h3
    have hM : Mny (amt s b l + n) := Classical.byContradiction fun hh => h2 (.inr hh)
    have h0 : ¬ amt s b l + n < 0 := fun hh => h2 (.inl hh)
    rw [Mny_def] at hM
    have hr : ∀ x ∈ rest s b l, 1 ≤ x.Amount ∧ x.Amount ≤ 100000000000 := fun x hx => h.amt x (List.mem_filter.1 hx).1
    refine ⟨?_, by show (nxt _ _ _ _).length ≤ 8; omega, ?_⟩
    · show Srt xlt (nxt _ _ _ _)
      unfold nxt
      split
      · exact rest_srt h.srt s b
      · exact ins_srt xord (rest_srt h.srt s b) rest_no
    · show ∀ x ∈ nxt _ _ _ _, _
      unfold nxt
      split
      · exact hr
      · intro x hx
        rcases ins_mem.1 hx with rfl | hx
        · simp only; omega
        · exact hr x hx
end Go.Proofs.Ytfhekejaobmacaa
