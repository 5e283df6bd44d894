/- The plain law of CrossPlays. No program in it. -/
import Derived.Test.YtfhekejaobmacaaAL3
set_option linter.unusedVariables false
set_option linter.unusedSimpArgs false
namespace Go.Proofs.Ytfhekejaobmacaa
open Go

theorem within_ok (v n : Int) (h1 : 1 ≤ n) (h2 : n ≤ 1000000000000) : ∃ k, scutagekeep_Within v n = some k ∧ 0 ≤ k ∧ k < n := by
  unfold scutagekeep_Within scutagekeep_Within.j1
  have hlt : Int.tmod v n < n := Int.tmod_lt_of_pos v (by omega)
  have hgt : -n < Int.tmod v n := by
    have := Int.tmod_lt_of_pos (-v) (b := n) (by omega)
    rw [Int.neg_tmod] at this; omega
  rw [if_neg (by simp; omega), gd_true (by omega)]
  by_cases h : Int.tmod v n < 0
  · refine ⟨Int.tmod v n + n, ?_, by omega, by omega⟩
    rw [if_pos (by simpa using h), w64_id (by omega) (by omega)]
  · refine ⟨Int.tmod v n, ?_, by omega, by omega⟩
    rw [if_neg (by simpa using h)]
theorem amount_ok (n : Int) : ∃ k, scutageplay_Amount n = some k := by
  unfold scutageplay_Amount
  obtain ⟨a, ha, _⟩ := within_ok (w64 (Int.tdiv n 23)) 5 (by omega) (by omega)
  obtain ⟨b, hb, _⟩ := within_ok (w64 (Int.tdiv n 23)) 200000000001 (by omega) (by omega)
  obtain ⟨c, hc, _⟩ := within_ok n 4001 (by omega) (by omega)
  rw [ha, hb, hc]
  simp only [Option.bind_some]
  split
  · exact ⟨_, rfl⟩
  split
  · exact ⟨_, rfl⟩
  split
  · exact ⟨_, rfl⟩
  split <;> exact ⟨_, rfl⟩
theorem rate_ok (n : Int) : ∃ k, scutageplay_Rate n = some k := by
  unfold scutageplay_Rate
  obtain ⟨a, ha, a0, a1⟩ := within_ok n 10 (by omega) (by omega)
  rw [ha]
  split
  · exact ⟨_, rfl⟩
  · rw [Option.bind_some, gd_true ⟨a0, a1⟩]; exact ⟨_, rfl⟩
theorem wakes_ok : scutagelaw24_wakes = some true := by decide +kernel

/-! ### the document's -/
theorem rmoney_ok (n : Int) : scutageref01_Money n = some (decide (Mny n)) := by
  unfold scutageref01_Money scutageref01_Money.j1
  by_cases h : n ≥ -100000000000
  · rw [if_pos (by simpa using h)]; congr 1; rw [decide_eq_decide, Mny_def]; omega
  · rw [if_neg (by simpa using h)]; congr 1; symm; rw [decide_eq_false_iff_not, Mny_def]; omega
def toP (x : cross_Row) : scutageref19_Pair := ⟨x.Seller, x.Buyer, x.Amount⟩
def lastA (s b : ByteArray) (v : Int) : List cross_Row → Int
  | [] => v
  | x :: l => lastA s b (if xk s b x = true then x.Amount else v) l
theorem ref1 (s b : ByteArray) : ∀ (ys : List cross_Row) (i v : Int), scutageref19_Cross_Add.l1 s b (ys.map toP) (i, v) = some (lastA s b v ys)
  | [], i, v => rfl
  | y :: ys, i, v => by
    rw [List.map_cons, scutageref19_Cross_Add.l1, str_eq, str_eq]
    have e : lastA s b v (y :: ys) = lastA s b (if xk s b y = true then y.Amount else v) ys := rfl
    show (if decide (y.Seller = s) = true then scutageref19_Cross_Add.j9 _ i (toP y) v (decide (y.Buyer = b)) else scutageref19_Cross_Add.j9 _ i (toP y) v false) = _
    rw [e, ← ref1 s b ys (i + 1)]
    by_cases h1 : y.Seller = s
    · rw [if_pos (by simpa using h1)]
      by_cases h2 : y.Buyer = b
      · have : xk s b y = true := xk_t.2 ⟨h1, h2⟩
        rw [if_pos this, scutageref19_Cross_Add.j9, if_pos (by simpa using h2)]; rfl
      · have : ¬ xk s b y = true := fun h => h2 (xk_t.1 h).2
        rw [if_neg this, scutageref19_Cross_Add.j9, if_neg (by simpa using h2)]; rfl
    · have : ¬ xk s b y = true := fun h => h1 (xk_t.1 h).1
      rw [if_neg (by simpa using h1), if_neg this, scutageref19_Cross_Add.j9, if_neg (by simp)]; rfl
theorem lastA_none {s b : ByteArray} : ∀ {l : List cross_Row} {v : Int}, (∀ x ∈ l, xk s b x = false) → lastA s b v l = v
  | [], v, _ => rfl
  | x :: l, v, h => by
    rw [lastA, if_neg (by simp [h x (by simp)]), lastA_none fun z hz => h z (List.mem_cons_of_mem _ hz)]
theorem lastA_app {s b : ByteArray} {B : List cross_Row} : ∀ {A : List cross_Row} {v : Int}, (∀ x ∈ A, xk s b x = false) → lastA s b v (A ++ B) = lastA s b v B
  | [], v, _ => rfl
  | x :: A, v, h => by
    rw [List.cons_append, lastA, if_neg (by simp [h x (by simp)]), lastA_app fun z hz => h z (List.mem_cons_of_mem _ hz)]
theorem lastA_amt {s b : ByteArray} {l : List cross_Row} (h : Srt xlt l) : lastA s b 0 l = amt s b l := by
  rcases idx_cases (xk s b) l 0 with ⟨A, x, B, rfl, hx, hA, _⟩ | ⟨hA, _⟩
  · rw [amt_mid hx hA, lastA_app hA, lastA, if_pos hx, lastA_none (xkey_other h hx).2]
  · rw [lastA_none hA, amt_none hA]
theorem ref2s (s b : ByteArray) (n v m : Int) (hm : w64 (n + v) = m) (y : cross_Row) (ys : List scutageref19_Pair) (i : Int) (out : List scutageref19_Pair) (q : Bool) (hl : out.length ≤ 1000) :
    scutageref19_Cross_Add.l2 s b n v (toP y :: ys) (i, out, q) =
      if xk s b y = true then scutageref19_Cross_Add.l2 s b n v ys (i + 1, out, q)
      else if q = false ∧ xlt ⟨s, b, m⟩ y = true then scutageref19_Cross_Add.l2 s b n v ys (i + 1, out ++ [⟨s, b, m⟩] ++ [toP y], true)
      else scutageref19_Cross_Add.l2 s b n v ys (i + 1, out ++ [toP y], q) := by
  rw [scutageref19_Cross_Add.l2, str_eq, str_eq]
  show (if decide (y.Seller = s) = true then scutageref19_Cross_Add.j5 _ i out q (toP y) s b n v (decide (y.Buyer = b)) else scutageref19_Cross_Add.j5 _ i out q (toP y) s b n v false) = _
  have j6 : ∀ (out : List scutageref19_Pair) (q : Bool), out.length ≤ 1001 → scutageref19_Cross_Add.j6 (toP y) (scutageref19_Cross_Add.l2 s b n v ys) i out q = scutageref19_Cross_Add.l2 s b n v ys (i + 1, out ++ [toP y], q) := by
    intro out q hl
    rw [scutageref19_Cross_Add.j6, gd_true (fit_small (by simp; omega)), scutageref19_Cross_Add.j4]
  have j7f : scutageref19_Cross_Add.j7 out s b n v (toP y) (scutageref19_Cross_Add.l2 s b n v ys) i q false = scutageref19_Cross_Add.l2 s b n v ys (i + 1, out ++ [toP y], q) := by
    rw [scutageref19_Cross_Add.j7, if_neg (by simp), j6 _ _ (by omega)]
  have j7t : scutageref19_Cross_Add.j7 out s b n v (toP y) (scutageref19_Cross_Add.l2 s b n v ys) i q true = scutageref19_Cross_Add.l2 s b n v ys (i + 1, out ++ [⟨s, b, m⟩] ++ [toP y], true) := by
    rw [scutageref19_Cross_Add.j7, if_pos rfl, gd_true (fit_small (by simp; omega)), hm, j6 _ _ (by simp; omega)]
  have j5 : ∀ q2 : Bool, q2 = xk s b y → scutageref19_Cross_Add.j5 (scutageref19_Cross_Add.l2 s b n v ys) i out q (toP y) s b n v q2 = 
      if xk s b y = true then scutageref19_Cross_Add.l2 s b n v ys (i + 1, out, q)
      else if q = false ∧ xlt ⟨s, b, m⟩ y = true then scutageref19_Cross_Add.l2 s b n v ys (i + 1, out ++ [⟨s, b, m⟩] ++ [toP y], true)
      else scutageref19_Cross_Add.l2 s b n v ys (i + 1, out ++ [toP y], q) := by
    intro q2 hq
    rw [scutageref19_Cross_Add.j5, hq]
    by_cases hk : xk s b y = true
    · rw [if_pos hk, if_pos hk, scutageref19_Cross_Add.j4]
    · rw [if_neg hk, if_neg hk, str_gt, str_gt, str_eq]
      cases q with
      | true => rw [if_neg (by simp), if_neg (by simp)]; exact j7f
      | false =>
        rw [if_pos (by simp)]
        show (if slt s y.Seller = true then _ else if decide (y.Seller = s) = true then scutageref19_Cross_Add.j7 out s b n v (toP y) _ i false (slt b y.Buyer) else _) = _
        by_cases h1 : slt s y.Seller = true
        · have : xlt (⟨s, b, m⟩ : cross_Row) y = true := xlt_t.2 (.inl h1)
          rw [if_pos h1, if_pos ⟨rfl, this⟩]; exact j7t
        · rw [if_neg h1]
          by_cases h2 : y.Seller = s
          · rw [if_pos (by simpa using h2)]
            by_cases h3 : slt b y.Buyer = true
            · have : xlt (⟨s, b, m⟩ : cross_Row) y = true := xlt_t.2 (.inr ⟨h2.symm, h3⟩)
              rw [h3, if_pos ⟨rfl, this⟩]; exact j7t
            · have : ¬ xlt (⟨s, b, m⟩ : cross_Row) y = true := fun h => by
                rcases xlt_t.1 h with h | h
                · exact h1 h
                · exact h3 h.2
              have h3' : slt b y.Buyer = false := by simpa using h3
              rw [h3', if_neg (fun h => this h.2)]; exact j7f
          · have : ¬ xlt (⟨s, b, m⟩ : cross_Row) y = true := fun h => by
              rcases xlt_t.1 h with h | h
              · exact h1 h
              · exact h2 h.1.symm
            rw [if_neg (by simpa using h2), if_neg (fun h => this h.2)]; exact j7f
  by_cases h1 : y.Seller = s
  · rw [if_pos (by simpa using h1)]; exact j5 _ (by simp [xk, h1])
  · rw [if_neg (by simpa using h1)]; exact j5 _ (by simp [xk, h1])
theorem rest_cons (s b : ByteArray) (y : cross_Row) (ys : List cross_Row) : rest s b (y :: ys) = if xk s b y = true then rest s b ys else y :: rest s b ys := by
  unfold rest
  rw [List.filter_cons]
  by_cases h : xk s b y = true <;> simp [h]
theorem ref2d (s b : ByteArray) (n v m : Int) (hm : w64 (n + v) = m) : ∀ (ys : List cross_Row) (i : Int) (out : List scutageref19_Pair), out.length + ys.length ≤ 1000 →
    scutageref19_Cross_Add.l2 s b n v (ys.map toP) (i, out, true) = some (true, out ++ (rest s b ys).map toP)
  | [], i, out, _ => by simp [scutageref19_Cross_Add.l2, rest]
  | y :: ys, i, out, hl => by
    simp only [List.length_cons] at hl
    rw [List.map_cons, ref2s s b n v m hm y _ i out true (by omega), rest_cons]
    by_cases hk : xk s b y = true
    · rw [if_pos hk, if_pos hk, ref2d s b n v m hm ys _ _ (by omega)]
    · rw [if_neg hk, if_neg hk, if_neg (by simp), ref2d s b n v m hm ys _ _ (by simp; omega)]
      simp
theorem ref2 (s b : ByteArray) (n v m : Int) (hm : w64 (n + v) = m) : ∀ (ys : List cross_Row) (i : Int) (out : List scutageref19_Pair), out.length + ys.length ≤ 900 →
    ∃ q o, scutageref19_Cross_Add.l2 s b n v (ys.map toP) (i, out, false) = some (q, o) ∧ (if q = true then o else o ++ [⟨s, b, m⟩]) = out ++ (ins xlt ⟨s, b, m⟩ (rest s b ys)).map toP ∧ o.length ≤ out.length + ys.length + 1
  | [], i, out, _ => ⟨false, out, by simp [scutageref19_Cross_Add.l2], by simp [rest, ins, toP], by simp⟩
  | y :: ys, i, out, hl => by
    simp only [List.length_cons] at hl
    rw [List.map_cons, ref2s s b n v m hm y _ i out false (by omega), rest_cons]
    by_cases hk : xk s b y = true
    · rw [if_pos hk, if_pos hk]
      obtain ⟨q, o, h1, h2, h3⟩ := ref2 s b n v m hm ys (i + 1) out (by omega)
      exact ⟨q, o, h1, h2, by simp; omega⟩
    · rw [if_neg hk, if_neg hk]
      by_cases hx : xlt (⟨s, b, m⟩ : cross_Row) y = true
      · rw [if_pos ⟨rfl, hx⟩, ref2d s b n v m hm ys _ _ (by simp; omega)]
        have hr : (rest s b ys).length ≤ ys.length := List.length_filter_le _ _
        refine ⟨true, _, rfl, ?_, by simp; omega⟩
        rw [if_pos rfl, ins, if_pos hx]
        simp [toP]
      · rw [if_neg (fun h => hx h.2)]
        obtain ⟨q, o, h1, h2, h3⟩ := ref2 s b n v m hm ys (i + 1) (out ++ [toP y]) (by simp; omega)
        refine ⟨q, o, h1, ?_, by simp at h3 ⊢; omega⟩
        rw [h2, ins, if_neg hx]; simp
theorem rAdd_ok {l : List cross_Row} (h : CI l) (s b : ByteArray) (n : Int) : scutageref19_Cross_Add ⟨l.map toP⟩ s b n = some ((cAdd l s b n).1, ⟨(cAdd l s b n).2.map toP⟩) := by
  have hlen := h.len
  have hj : scutageref19_Cross_Add.j1 ⟨l.map toP⟩ s b n true = some (1, ⟨l.map toP⟩) := by unfold scutageref19_Cross_Add.j1; rw [if_pos rfl]
  have e1 : ∀ a : ByteArray, ((a.toList == ((⟨#[]⟩ : ByteArray)).toList) = true) = (a = emp) := fun a => by rw [str_eq]; simp [emp]
  have e2 : ((s.toList == b.toList) = true) = (s = b) := by rw [str_eq]; simp
  unfold scutageref19_Cross_Add cAdd
  by_cases h1 : s = emp
  · rw [if_pos (by rw [e1]; exact h1), if_pos (.inl h1)]; exact hj
  rw [if_neg (by rw [e1]; exact h1)]
  by_cases h2 : b = emp
  · rw [if_pos (by rw [e1]; exact h2), if_pos (.inr (.inl h2))]; exact hj
  rw [if_neg (by rw [e1]; exact h2)]
  by_cases h3 : s = b
  · rw [if_pos (by rw [e2]; exact h3), if_pos (.inr (.inr (.inl h3)))]; exact hj
  rw [if_neg (by rw [e2]; exact h3), rmoney_ok, Option.bind_some]
  by_cases h4 : Mny n
  · rw [if_neg (fun hh => hh.elim h1 fun hh => hh.elim h2 fun hh => hh.elim h3 fun hh => hh h4)]
    have h4' := h4; rw [Mny_def] at h4'
    simp only [h4, decide_true, Bool.not_true]
    unfold scutageref19_Cross_Add.j1
    rw [if_neg (by simp)]
    show (scutageref19_Cross_Add.l1 s b (l.map toP) (0, 0)).bind _ = _
    rw [ref1, lastA_amt h.srt, Option.bind_some]
    have hb := amt_bd (s := s) (b := b) h.amt
    rw [Int.add_comm (amt s b l) n]
    unfold nxt
    generalize hm : amt s b l = a at hb ⊢
    have hw : w64 (n + a) = n + a := w64_id (by omega) (by omega)
    rw [hw]
    have k6 : scutageref19_Cross_Add.j2 ⟨l.map toP⟩ s b n a true = some (6, ⟨l.map toP⟩) := by unfold scutageref19_Cross_Add.j2; rw [if_pos rfl]
    by_cases hn : n + a < 0
    · rw [if_pos (by simpa using hn), if_pos (.inl hn)]; exact k6
    rw [if_neg (by simpa using hn), rmoney_ok, Option.bind_some]
    by_cases hM : Mny (n + a)
    · rw [if_neg (fun hh => hh.elim hn fun hh => hh hM)]
      simp only [hM, decide_true, Bool.not_true]
      unfold scutageref19_Cross_Add.j2
      rw [if_neg (by simp), hw]
      have hrl : (rest s b l).length ≤ l.length := List.length_filter_le _ _
      have k3 : ∀ S : List cross_Row, scutageref19_Cross_Add.j3 ⟨l.map toP⟩ (S.map toP) = some ((if S.length > 8 then (5, l) else (0, S)).1, ⟨(if S.length > 8 then ((5 : Int), l) else (0, S)).2.map toP⟩) := by
        intro S
        unfold scutageref19_Cross_Add.j3
        by_cases h8 : S.length > 8
        · rw [if_pos (by simp; omega), if_pos h8]
        · rw [if_neg (by simp; omega), if_neg h8]
      show (scutageref19_Cross_Add.l2 s b n a (l.map toP) (0, [], n + a == 0)).bind _ = _
      by_cases hz : n + a = 0
      · have : (n + a == 0) = true := by simpa using hz
        rw [this, ref2d s b n a (n + a) hw l 0 [] (by simp; omega), Option.bind_some, if_pos hz, List.nil_append]
        show (if (!true) = true then _ else scutageref19_Cross_Add.j3 _ ((rest s b l).map toP)) = _
        rw [if_neg (by simp)]
        exact k3 _
      · have : (n + a == 0) = false := by simpa using hz
        obtain ⟨q, o, g1, g2, g3⟩ := ref2 s b n a (n + a) hw l 0 [] (by simp; omega)
        rw [this, g1, Option.bind_some, if_neg hz]
        simp only [List.nil_append, List.length_nil, Nat.zero_add] at g2 g3
        show (if (!q) = true then gd _ (scutageref19_Cross_Add.j3 _ (o ++ [⟨s, b, n + a⟩])) else scutageref19_Cross_Add.j3 _ o) = _
        cases q with
        | true =>
          rw [if_pos rfl] at g2
          rw [if_neg (by simp), g2]; exact k3 _
        | false =>
          rw [if_neg (by simp)] at g2
          rw [if_pos (by simp), gd_true (fit_small (by simp; omega)), g2]; exact k3 _
    · rw [if_pos (.inr hM)]
      simp only [hM, decide_false, Bool.not_false]
      exact k6
  · rw [if_pos (.inr (.inr (.inr h4)))]
    simp only [h4, decide_false, Bool.not_false]
    exact hj

/-! ### the asset -/
def RR (n : Int) : Prop := 0 ≤ n ∧ n ≤ 1000000
instance (n : Int) : Decidable (RR n) := inferInstanceAs (Decidable (_ ∧ _))
theorem RR_def {n : Int} : RR n ↔ 0 ≤ n ∧ n ≤ 1000000 := Iff.rfl
theorem rright_ok (n : Int) : rate_Right n = some (decide (RR n)) := by
  unfold rate_Right rate_Right.j1
  by_cases h : n ≥ 0
  · rw [if_pos (by simpa using h)]; congr 1; rw [decide_eq_decide, RR_def]; omega
  · rw [if_neg (by simpa using h)]; congr 1; symm; rw [decide_eq_false_iff_not, RR_def]; omega
theorem rright2_ok (n : Int) : scutageref01_Right n = some (decide (RR n)) := by
  unfold scutageref01_Right scutageref01_Right.j1
  by_cases h : n ≥ 0
  · rw [if_pos (by simpa using h)]; congr 1; rw [decide_eq_decide, RR_def]; omega
  · rw [if_neg (by simpa using h)]; congr 1; symm; rw [decide_eq_false_iff_not, RR_def]; omega
theorem share_ok {n : Int} (r : Int) (h : 1 ≤ n ∧ n ≤ 100000000000) : scutageref09_Share n r = if RR r then some (V n r, 0) else some (0, 1) := by
  unfold scutageref09_Share
  rw [if_neg (by simp; omega), if_neg (by simp; omega), rright2_ok, Option.bind_some]
  by_cases hr : RR r
  · rw [if_pos hr]
    simp only [hr, decide_true, Bool.not_true]
    rw [RR_def] at hr
    rw [scutageref09_Share.j1, if_neg (by simp), part_ok n r (by omega) hr.1 (by omega)]; rfl
  · rw [if_neg hr]
    simp only [hr, decide_false, Bool.not_false]
    rw [scutageref09_Share.j1, if_pos rfl]
def assets (rates : List Int) : List cross_Row → Int → Int → Option Int
  | [], _, v => some v
  | x :: l, i, v => if RR (rd rates i) then assets rates l (i + 1) (w64 (v + V x.Amount (rd rates i))) else none
theorem asset1 (rates : List Int) : ∀ (ys : List cross_Row) (n : Nat) (v : Int), n + ys.length ≤ rates.length → (∀ x ∈ ys, 1 ≤ x.Amount ∧ x.Amount ≤ 100000000000) →
    cross_Asset.l1 rates ys ((n : Int), v) = match assets rates ys n v with | some r => some (.inr r) | none => some (.inl (0, 1))
  | [], n, v, _, _ => rfl
  | y :: ys, n, v, hl, hb => by
    simp only [List.length_cons] at hl
    have hy := hb y (by simp)
    have hm : Mny y.Amount := by rw [Mny_def]; omega
    rw [cross_Asset.l1, gd_true (by omega), rright_ok, Option.bind_some, assets]
    by_cases hr : RR (rd rates n)
    · rw [if_neg (by simp [hr]), if_neg (by simp; omega), money_ok, Option.bind_some, if_pos hr]
      simp only [hm, decide_true, Bool.not_true]
      rw [RR_def] at hr
      rw [cross_Asset.j1, if_neg (by simp), gd_true (by omega), rateOf_ok _ _ (by omega) (by omega) hr.1 (by omega), Option.bind_some]
      have := asset1 rates ys (n + 1) (w64 (v + V y.Amount (rd rates n))) (by omega) fun x hx => hb x (List.mem_cons_of_mem _ hx)
      exact this
    · rw [if_pos (by simp [hr]), if_neg hr, cross_Asset.j1, if_pos rfl]
theorem asset2 (rates : List Int) : ∀ (ys : List cross_Row) (n : Nat) (v : Int), n + ys.length ≤ rates.length → (∀ x ∈ ys, 1 ≤ x.Amount ∧ x.Amount ≤ 100000000000) →
    scutageref19_Asset.l1 rates (ys.map toP) ((n : Int), v) = match assets rates ys n v with | some r => some (.inr r) | none => some (.inl (0, 1))
  | [], n, v, _, _ => rfl
  | y :: ys, n, v, hl, hb => by
    simp only [List.length_cons] at hl
    have hy := hb y (by simp)
    rw [List.map_cons, scutageref19_Asset.l1, gd_true (by omega), show (toP y).Amount = y.Amount from rfl, share_ok _ hy, assets]
    by_cases hr : RR (rd rates n)
    · rw [if_pos hr, if_pos hr, Option.bind_some]
      have := asset2 rates ys (n + 1) (w64 (v + V y.Amount (rd rates n))) (by omega) fun x hx => hb x (List.mem_cons_of_mem _ hx)
      exact this
    · rw [if_neg hr, if_neg hr, Option.bind_some]; rfl
theorem asset_eq {l : List cross_Row} (h : CI l) (rates : List Int) : ∃ a b, cross_Asset l rates = some (a, b) ∧ scutageref19_Asset (l.map toP) rates = some (a, b) := by
  unfold cross_Asset scutageref19_Asset
  by_cases hl : rates.length = l.length
  · rw [if_neg (by simp [hl]), if_neg (by simp [hl])]
    have e1 := asset1 rates l 0 0 (by omega) h.amt
    have e2 := asset2 rates l 0 0 (by omega) h.amt
    have e1' : cross_Asset.l1 rates l (0, 0) = _ := e1
    have e2' : scutageref19_Asset.l1 rates (l.map toP) (0, 0) = _ := e2
    rw [e1', e2']
    cases assets rates l ((0 : Nat) : Int) 0 with
    | none => exact ⟨0, 1, rfl, rfl⟩
    | some r =>
      show ∃ a b, (rate_Money r).bind _ = _ ∧ (scutageref01_Money r).bind _ = _
      rw [money_ok, rmoney_ok, Option.bind_some]
      by_cases hm : Mny r
      · rw [if_neg (by simp [hm])]; exact ⟨r, 0, rfl, rfl⟩
      · rw [if_pos (by simp [hm])]; exact ⟨0, 6, rfl, rfl⟩
  · rw [if_pos (by simp; omega), if_pos (by simp; omega)]
    exact ⟨0, 1, rfl, rfl⟩

/-! ### the whole -/
theorem plays_j3 {xs : List cross_Row} (h : CI xs) (a b n v : Int) (rec_ : (List cross_Row × List scutageref19_Pair × Int) → Option (Bool ⊕ (List cross_Row × List scutageref19_Pair))) :
    ∃ xs', CI xs' ∧ scutagelaw24_CrossPlays.j3 xs a b n (xs.map toP) rec_ v = rec_ (xs', xs'.map toP, w64 (v + 1)) := by
  unfold scutagelaw24_CrossPlays.j3
  simp only [cAdd_ok h, rAdd_ok h, Option.bind_some]
  exact ⟨_, cAdd_inv h _ _ _, if_neg (by simp)⟩
theorem plays_j2 {xs : List cross_Row} (h : CI xs) (a b n v : Int) (rec_ : (List cross_Row × List scutageref19_Pair × Int) → Option (Bool ⊕ (List cross_Row × List scutageref19_Pair))) :
    ∃ xs', CI xs' ∧ scutagelaw24_CrossPlays.j2 v xs a b (xs.map toP) rec_ n = rec_ (xs', xs'.map toP, w64 (v + 1)) := by
  unfold scutagelaw24_CrossPlays.j2
  split
  · have hc : cross_Cross_Clone ⟨xs⟩ = some ⟨xs⟩ := by
      rw [cross_Cross_Clone]
      show (cross_Cross_Rows ⟨xs⟩).bind _ = _
      rw [rows_ok (by have := h.len; omega)]; rfl
    rw [hc, Option.bind_some]
    show ∃ xs', CI xs' ∧ (cross_Cross_Add ⟨xs⟩ _ _ _).bind _ = _
    rw [cAdd_ok h, Option.bind_some]
    exact plays_j3 h a b n v rec_
  · exact plays_j3 h a b n v rec_
theorem plays_loop (l : List scutagelaw24_Act) : ∀ (fuel : Nat) (xs : List cross_Row) (v : Int), CI xs → 0 ≤ v → v ≤ 24 → (24 - v).toNat < fuel → ∃ xs', CI xs' ∧ scutagelaw24_CrossPlays.l1 l fuel (xs, xs.map toP, v) = some (.inr (xs', xs'.map toP))
  | 0, xs, v, _, _, _, hf => by omega
  | fuel + 1, xs, v, h, h0, h1, hf => by
    rw [scutagelaw24_CrossPlays.l1]
    have stop : ∃ xs', CI xs' ∧ scutagelaw24_CrossPlays.j1 v l xs (xs.map toP) (scutagelaw24_CrossPlays.l1 l fuel) false = some (.inr (xs', xs'.map toP)) := ⟨xs, h, by rw [scutagelaw24_CrossPlays.j1, if_neg (by simp)]⟩
    by_cases hl : v < (l.length : Int)
    · rw [if_pos (by simpa using hl)]
      by_cases h2 : v < 24
      · obtain ⟨a, ha, a0, a1⟩ := within_ok (rd l v).Seller 31 (by omega) (by omega)
        obtain ⟨b, hb, b0, b1⟩ := within_ok (rd l v).Buyer 31 (by omega) (by omega)
        obtain ⟨n, hn⟩ := amount_ok (rd l v).f_N
        have e1 : Int.tmod a 6 = a % 6 := tmod_pos a0
        have e2 : Int.tmod b 6 = b % 6 := tmod_pos b0
        have hd : decide (v < 24) = true := by simpa using h2
        rw [hd, scutagelaw24_CrossPlays.j1, if_pos rfl, gd_true ⟨h0, hl⟩, ha, Option.bind_some, gd_true (by rw [e1]; simp; omega), hb, Option.bind_some, gd_true (by rw [e2]; simp; omega), hn, Option.bind_some]
        have go : ∀ n, ∃ xs', CI xs' ∧ scutagelaw24_CrossPlays.j2 v xs a b (xs.map toP) (scutagelaw24_CrossPlays.l1 l fuel) n = some (.inr (xs', xs'.map toP)) := by
          intro n
          obtain ⟨xs', h', e⟩ := plays_j2 h a b n v (scutagelaw24_CrossPlays.l1 l fuel)
          obtain ⟨xs2, h2', e'⟩ := plays_loop l fuel xs' (v + 1) h' (by omega) (by omega) (by omega)
          exact ⟨xs2, h2', by rw [e, w64_id (by omega) (by omega), e']⟩
        split
        · exact go _
        · exact go _
      · have hd : decide (v < 24) = false := by simpa using h2
        rw [hd]; exact stop
    · rw [if_neg (by simpa using hl)]; exact stop
theorem rates_loop (R : List cross_Row) (hR : R.length ≤ 8) (rates : List Int) : ∀ (ys dn : List cross_Row) (xs : List Int), R = dn ++ ys → xs.length = dn.length → ∃ xs' : List Int, xs'.length ≤ 8 ∧ scutagelaw24_CrossPlays.l2 (R.map toP) rates ys ((dn.length : Int), xs) = some (.inr xs')
  | [], dn, xs, e, hl => ⟨xs, by rw [e] at hR; simp at hR; omega, rfl⟩
  | y :: ys, dn, xs, e, hl => by
    have hlen : R.length = dn.length + (ys.length + 1) := by rw [e]; simp
    have hr : rd (R.map toP) (dn.length : Int) = toP y := by
      have := rd_mid (dn.map toP) (ys.map toP) (toP y)
      rw [List.length_map] at this
      rw [e]; simpa using this
    have go : ∀ k : Int, ∃ xs' : List Int, xs'.length ≤ 8 ∧ scutagelaw24_CrossPlays.j6 xs (scutagelaw24_CrossPlays.l2 (R.map toP) rates ys) (dn.length : Int) k = some (.inr xs') := by
      intro k
      obtain ⟨q, hq⟩ := rate_ok k
      obtain ⟨xs', h1, h2⟩ := rates_loop R hR rates ys (dn ++ [y]) (xs ++ [q]) (by rw [e]; simp) (by simp [hl])
      rw [scutagelaw24_CrossPlays.j6, hq, Option.bind_some, gd_true (fit_small (by simp; omega))]
      refine ⟨xs', h1, ?_⟩
      have e1 : (((dn ++ [y]).length : Nat) : Int) = (dn.length : Int) + 1 := by simp
      rw [← h2, e1]
    rw [scutagelaw24_CrossPlays.l2, gd_true (by simp; omega), hr, if_neg (by simp [toP])]
    by_cases h : (dn.length : Int) < (rates.length : Int)
    · rw [if_pos (by simpa using h), gd_true ⟨by omega, h⟩]; exact go _
    · rw [if_neg (by simpa using h)]; exact go _
theorem CrossPlays_true (l : List scutagelaw24_Act) (rates : List Int) (more : Int) : scutagelaw24_CrossPlays l rates more = some true := by
  obtain ⟨xs, h, e⟩ := plays_loop l FUEL [] 0 .nil (by omega) (by omega) (by simp only [FUEL]; omega)
  rw [scutagelaw24_CrossPlays]
  show (scutagelaw24_CrossPlays.l1 l FUEL ([], [], 0)).bind _ = _
  have e' : scutagelaw24_CrossPlays.l1 l FUEL ([], [], 0) = some (.inr (xs, xs.map toP)) := e
  rw [e', Option.bind_some]
  show (cross_Cross_Rows ⟨xs⟩).bind _ = _
  rw [rows_ok (by have := h.len; omega), Option.bind_some, if_neg (by simp)]
  obtain ⟨rs, r1, r2⟩ := rates_loop xs h.len rates xs [] [] rfl rfl
  have r2' : scutagelaw24_CrossPlays.l2 (xs.map toP) rates xs (0, []) = some (.inr rs) := r2
  rw [r2', Option.bind_some]
  have go : ∀ rs, scutagelaw24_CrossPlays.j4 xs (xs.map toP) rs = some true := by
    intro rs
    obtain ⟨a, b, h1, h2⟩ := asset_eq h rs
    rw [scutagelaw24_CrossPlays.j4, h1, Option.bind_some, h2]
    show (if (a == a) = true then (if (b == b) = true then _ else _) else _) = _
    rw [if_pos (by simp), if_pos (by simp), wakes_ok]; rfl
  show (if _ then gd _ _ else _) = _
  split
  · rw [gd_true (fit_small (by simp; omega))]; exact go _
  · exact go _
end Go.Proofs.Ytfhekejaobmacaa
