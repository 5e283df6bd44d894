/- The plain law of FxTells: what the printed functions come to. No program in it. -/
import Derived.Test.YtfoefkihcnenaaaEM
set_option linter.unusedVariables false
set_option linter.unusedSimpArgs false
namespace Go.Proofs.Ytfoefkihcnenaaa
open Go

theorem within_ok (v n : Int) (h1 : 1 ≤ n) (h2 : n ≤ 1000000000000) : ∃ k, scutagekeep_Within v n = some k ∧ 0 ≤ k ∧ k < n := by
  unfold scutagekeep_Within scutagekeep_Within.j1
  have hlt : Int.tmod v n < n := Int.tmod_lt_of_pos v (by omega)
  have hgt : -n < Int.tmod v n := by
    have := Int.tmod_lt_of_pos (-v) (b := n) (by omega)
    rw [Int.neg_tmod] at this; omega
  rw [if_neg (by simp; omega), gd_true (by omega)]
  by_cases h : Int.tmod v n < 0
  · refine ⟨Int.tmod v n + n, ?_, by omega, by omega⟩
    rw [if_pos (by simpa using h), w64_id (by omega) (by omega)]
  · refine ⟨Int.tmod v n, ?_, by omega, by omega⟩
    rw [if_neg (by simpa using h)]
theorem amount_ok (n : Int) : ∃ k, scutageplay_Amount n = some k := by
  unfold scutageplay_Amount
  obtain ⟨a, ha, _⟩ := within_ok (w64 (Int.tdiv n 23)) 5 (by omega) (by omega)
  obtain ⟨b, hb, _⟩ := within_ok (w64 (Int.tdiv n 23)) 200000000001 (by omega) (by omega)
  obtain ⟨c, hc, _⟩ := within_ok n 4001 (by omega) (by omega)
  rw [ha, hb, hc]
  simp only [Option.bind_some]
  split
  · exact ⟨_, rfl⟩
  split
  · exact ⟨_, rfl⟩
  split
  · exact ⟨_, rfl⟩
  split <;> exact ⟨_, rfl⟩
theorem items_loop (ks am : List Int) (most : Int) (hm : most ≤ 100) : ∀ (fuel : Nat) (xs : List api_Item) (v : Int), (xs.length : Int) = v → v ≤ most → (most - v).toNat < fuel → (∀ x ∈ xs, 0 ≤ x.Kind ∧ x.Kind < 9) →
    ∃ ys, scutagelaw25_items.l1 ks am most fuel (xs, v) = some ys ∧ (ys.length : Int) ≤ most ∧ ∀ x ∈ ys, 0 ≤ x.Kind ∧ x.Kind < 9
  | 0, xs, v, _, _, h, _ => by omega
  | fuel + 1, xs, v, hl, hv, hf, hk => by
    rw [scutagelaw25_items.l1]
    have stop : ∃ ys, (some xs : Option (List api_Item)) = some ys ∧ (ys.length : Int) ≤ most ∧ ∀ x ∈ ys, 0 ≤ x.Kind ∧ x.Kind < 9 := ⟨xs, rfl, by omega, hk⟩
    unfold scutagelaw25_items.j1
    by_cases h1 : v < (ks.length : Int)
    · rw [if_pos (by simpa using h1)]
      by_cases h2 : v < (am.length : Int)
      · rw [if_pos (by simpa using h2)]
        by_cases h3 : v < most
        · rw [if_pos (by simpa using h3), gd_true (by omega)]
          obtain ⟨k, hk1, hk2, hk3⟩ := within_ok (rd ks v) 9 (by omega) (by omega)
          obtain ⟨a, ha⟩ := amount_ok (rd am v)
          rw [hk1, Option.bind_some, gd_true (by omega), ha, Option.bind_some, gd_true (fit_small (by simp; omega)), w64_id (by omega) (by omega)]
          refine items_loop ks am most hm fuel _ _ (by simp; omega) (by omega) (by omega) fun x hx => ?_
          rcases List.mem_append.1 hx with hx | hx
          · exact hk x hx
          · simp at hx; subst hx; exact ⟨hk2, hk3⟩
        · rw [if_neg (by simpa using h3)]; exact stop
      · rw [if_neg (by simpa using h2), if_neg (by simp)]; exact stop
    · rw [if_neg (by simpa using h1), if_neg (by simp)]; exact stop
theorem items_ok (ks am : List Int) (most : Int) (h0 : 0 ≤ most) (hm : most ≤ 100) : ∃ ys, scutagelaw25_items ks am most = some ys ∧ (ys.length : Int) ≤ most ∧ ∀ x ∈ ys, 0 ≤ x.Kind ∧ x.Kind < 9 := by
  obtain ⟨ys, h, h2⟩ := items_loop ks am most hm FUEL [] 0 rfl h0 (by simp only [FUEL]; omega) (by simp)
  exact ⟨ys, by rw [scutagelaw25_items, h]; rfl, h2⟩
theorem copy_ok (l : List api_Item) (h : l.length ≤ 1000) : scutagekeep_Copy_api_Item l = some l := by
  rw [scutagekeep_Copy_api_Item, gd_true (fit_small (by simp; omega))]; rfl
theorem same_loop (a : List api_Item) (ha : a.length ≤ 1000) : ∀ (fuel : Nat) (v : Int), 0 ≤ v → (a.length - v).toNat < fuel → scutagekeep_Same_api_Item.l1 a a fuel v = some (.inr ())
  | 0, v, _, h => by omega
  | fuel + 1, v, h0, hf => by
    rw [scutagekeep_Same_api_Item.l1]
    by_cases h1 : v < (a.length : Int)
    · rw [if_pos (by simpa using h1), gd_true ⟨h0, h1⟩, gd_true ⟨h0, h1⟩, if_neg (by simp), w64_id (by omega) (by omega)]
      exact same_loop a ha fuel _ (by omega) (by omega)
    · rw [if_neg (by simpa using h1)]
theorem same_self (a : List api_Item) (ha : a.length ≤ 1000) : scutagekeep_Same_api_Item a a = some true := by
  rw [scutagekeep_Same_api_Item, if_neg (by simp), same_loop a ha FUEL 0 (by omega) (by simp only [FUEL]; omega)]; rfl

/-! ### conversion -/
def far (n : Int) : Prop := n < -400000000000 ∨ n > 400000000000
def V (n r : Int) : Int := if 0 ≤ n then (2 * (n * r) + 1000000) / 2000000 else -((2 * (-(n * r)) + 1000000) / 2000000)
theorem prod_bound {n r : Int} (hn : 0 ≤ n) (hn2 : n ≤ 400000000000) (hr : 0 ≤ r) (hr2 : r ≤ 10000000) : 0 ≤ n * r ∧ n * r ≤ 4000000000000000000 := by
  constructor
  · exact Int.mul_nonneg hn hr
  · calc n * r ≤ 400000000000 * r := Int.mul_le_mul_of_nonneg_right hn2 hr
      _ ≤ 400000000000 * 10000000 := Int.mul_le_mul_of_nonneg_left hr2 (by omega)
      _ = 4000000000000000000 := by decide
theorem V_bound {n r : Int} (hn : ¬ far n) (hr : 0 ≤ r) (hr2 : r ≤ 10000000) : -4000000000001 ≤ V n r ∧ V n r ≤ 4000000000001 := by
  unfold far at hn
  unfold V
  split
  · have := prod_bound (n := n) (r := r) (by omega) (by omega) hr hr2; omega
  · have := prod_bound (n := -n) (r := r) (by omega) (by omega) hr hr2
    rw [Int.neg_mul] at this; omega
theorem tdiv_pos {a b : Int} (ha : 0 ≤ a) : Int.tdiv a b = a / b := Int.tdiv_eq_ediv_of_nonneg ha
theorem tmod_pos {a b : Int} (ha : 0 ≤ a) : Int.tmod a b = a % b := Int.tmod_eq_emod_of_nonneg ha
theorem rateOf_ok (n r : Int) (hr : 1 ≤ r) (hr2 : r ≤ 10000000) : rate_Of n r = if n < -400000000000 ∨ n > 400000000000 then some (0, false) else some (V n r, true) := by
  unfold rate_Of
  by_cases h1 : n < -400000000000
  · rw [if_pos (by simpa using h1), if_pos (.inl h1)]; rfl
  rw [if_neg (by simpa using h1)]
  by_cases h2 : n > 400000000000
  · rw [if_pos (by simpa using h2), if_pos (.inr h2)]; rfl
  rw [if_neg (by simpa using h2), if_neg (by simp; omega), if_neg (by omega)]
  unfold rate_Of.j1
  rw [if_neg (by simp; omega)]
  by_cases h3 : n < 0
  · rw [if_pos (by simpa using h3)]
    obtain ⟨p0, p1⟩ := prod_bound (n := -n) (r := r) (by omega) (by omega) (by omega) hr2
    rw [Int.neg_mul] at p0 p1
    have e : 2 * n * r = 2 * (n * r) := Int.mul_assoc _ _ _
    rw [w64_id (x := 2 * n) (by omega) (by omega), e, w64_id (x := 2 * (n * r)) (by omega) (by omega), w64_id (x := 2 * (n * r) - 1000000) (by omega) (by omega)]
    have e2 : Int.tdiv (2 * (n * r) - 1000000) 2000000 = -((2 * (-(n * r)) + 1000000) / 2000000) := by
      have : 2 * (n * r) - 1000000 = -(2 * (-(n * r)) + 1000000) := by omega
      rw [this, Int.neg_tdiv, tdiv_pos (by omega)]
    rw [e2, w64_id (by omega) (by omega)]
    simp only [V]
    rw [if_neg (by omega)]
  · rw [if_neg (by simpa using h3)]
    obtain ⟨p0, p1⟩ := prod_bound (n := n) (r := r) (by omega) (by omega) (by omega) hr2
    have e : 2 * n * r = 2 * (n * r) := Int.mul_assoc _ _ _
    rw [w64_id (x := 2 * n) (by omega) (by omega), e, w64_id (x := 2 * (n * r)) (by omega) (by omega), w64_id (x := 2 * (n * r) + 1000000) (by omega) (by omega)]
    rw [tdiv_pos (by omega), w64_id (by omega) (by omega)]
    simp only [V]
    rw [if_pos (by omega)]
theorem ofCore (n r : Int) (h0 : 0 ≤ n) (h1 : n ≤ 400000000000) (hr : 1 ≤ r) (hr2 : r ≤ 10000000) :
    (if (decide (w64 (2 * Int.tmod (w64 (n * r)) 1000000) ≥ 1000000)) = true then some (w64 (w64 (Int.tdiv (w64 (n * r)) 1000000) + 1), true) else some (w64 (Int.tdiv (w64 (n * r)) 1000000), true)) = some (V n r, true) := by
  obtain ⟨p0, p1⟩ := prod_bound (n := n) (r := r) h0 h1 (by omega) hr2
  rw [w64_id (x := n * r) (by omega) (by omega), tdiv_pos p0, tmod_pos p0]
  have m0 := Int.emod_nonneg (n * r) (b := 1000000) (by omega)
  have m1 := Int.emod_lt_of_pos (n * r) (b := 1000000) (by omega)
  rw [w64_id (x := 2 * (n * r % 1000000)) (by omega) (by omega), w64_id (x := n * r / 1000000) (by omega) (by omega), w64_id (x := n * r / 1000000 + 1) (by omega) (by omega)]
  simp only [V]
  rw [if_pos h0]
  split
  · rename_i h; simp at h; congr 2; omega
  · rename_i h; simp at h; congr 2; omega
theorem ofr1_ok (n r : Int) (h0 : 0 ≤ n) (h1 : n ≤ 400000000000) (hr : 1 ≤ r) (hr2 : r ≤ 10000000) : scutageref01_Of_r1 n r = some (V n r, true) := by
  unfold scutageref01_Of_r1
  rw [if_neg (by simp; omega), if_neg (by simp; omega), if_neg (by simp; omega)]
  unfold scutageref01_Of_r1.j1 scutageref01_Of_r1.j2
  rw [if_neg (by simp; omega), if_neg (by simp; omega)]
  exact ofCore n r h0 h1 hr hr2
theorem of_ok (n r : Int) (hn : ¬ far n) (hr : 1 ≤ r) (hr2 : r ≤ 10000000) : scutageref01_Of n r = some (V n r, true) := by
  unfold far at hn
  unfold scutageref01_Of
  rw [if_neg (by simp; omega), if_neg (by simp; omega), if_neg (by simp; omega)]
  unfold scutageref01_Of.j1 scutageref01_Of.j2
  rw [if_neg (by simp; omega)]
  by_cases h3 : n < 0
  · rw [if_pos (by simpa using h3), w64_id (by omega) (by omega), ofr1_ok (0 - n) r (by omega) (by omega) hr hr2, Option.bind_some]
    have hb := V_bound (n := 0 - n) (r := r) (by unfold far; omega) (by omega) hr2
    show some (w64 (0 - V (0 - n) r), true) = _
    rw [w64_id (by omega) (by omega)]
    simp only [V]
    rw [if_pos (by omega), if_neg (by omega), show (0 - n) * r = -(n * r) by rw [Int.zero_sub, Int.neg_mul]]
    congr 2; omega
  · rw [if_neg (by simpa using h3)]
    exact ofCore n r (by omega) (by omega) hr hr2
theorem part_ok (n r : Int) (hn : ¬ far n) (hr : 1 ≤ r) (hr2 : r ≤ 10000000) : scutageref01_Part n r = some (V n r) := by
  rw [scutageref01_Part, of_ok n r hn hr hr2]; rfl
def near1 (x : api_Item) : Bool := decide (-400000000000 ≤ x.Amount ∧ x.Amount ≤ 400000000000)
def sumA : List api_Item → Int
  | [] => 0
  | x :: l => x.Amount + sumA l
def sumV (r : Int) : List api_Item → Int
  | [] => 0
  | x :: l => V x.Amount r + sumV r l
def conv (r : Int) (x : api_Item) : api_Item := ⟨x.Kind, V x.Amount r⟩
theorem sumA_bound : ∀ (l : List api_Item), l.all near1 = true → -400000000000 * (l.length : Int) ≤ sumA l ∧ sumA l ≤ 400000000000 * (l.length : Int)
  | [], _ => by simp [sumA]
  | x :: l, h => by
    simp only [List.all_cons, Bool.and_eq_true, near1, decide_eq_true_eq] at h
    have := sumA_bound l h.2
    simp only [sumA, List.length_cons]
    omega
theorem near_ok (n : Int) : fx_near n = some (decide (-400000000000 ≤ n ∧ n ≤ 400000000000)) := by
  unfold fx_near fx_near.j1
  by_cases h : -400000000000 ≤ n <;> by_cases h2 : n ≤ 400000000000 <;> simp [h, h2]
theorem far_ok (n : Int) : scutageref19_far n = some (!decide (-400000000000 ≤ n ∧ n ≤ 400000000000)) := by
  unfold scutageref19_far scutageref19_far.j1
  by_cases h : n < -400000000000 <;> by_cases h2 : n > 400000000000
  · omega
  · rw [if_pos (by simpa using h)]; have : ¬ (-400000000000 ≤ n ∧ n ≤ 400000000000) := by omega
    rw [decide_eq_false this]; rfl
  · rw [if_neg (by simpa using h)]; have : ¬ (-400000000000 ≤ n ∧ n ≤ 400000000000) := by omega
    rw [decide_eq_false this, decide_eq_true h2]; rfl
  · rw [if_neg (by simpa using h)]; have : (-400000000000 ≤ n ∧ n ≤ 400000000000) := by omega
    rw [decide_eq_true this, decide_eq_false h2]; rfl
theorem conv_loop (r : Int) (hr : 1 ≤ r) (hr2 : r ≤ 10000000) : ∀ (ys : List api_Item) (i s v : Int) (xs : List api_Item), xs.length + ys.length ≤ 100 →
    (-400000000000 * (xs.length : Int) ≤ s ∧ s ≤ 400000000000 * (xs.length : Int)) → (-4000000000001 * (xs.length : Int) ≤ v ∧ v ≤ 4000000000001 * (xs.length : Int)) →
    fx_Convert.l1 r ys (i, s, v, xs) = if ys.all near1 = true then some (.inr (s + sumA ys, xs ++ ys.map (conv r), v + sumV r ys)) else some (.inl ([], 0, 1))
  | [], i, s, v, xs, _, _, _ => by simp [fx_Convert.l1, sumA, sumV]
  | y :: ys, i, s, v, xs, hl, hs, hv => by
    rw [fx_Convert.l1, near_ok, Option.bind_some]
    simp only [List.length_cons] at hl
    by_cases hn : near1 y = true
    · have hn' : -400000000000 ≤ y.Amount ∧ y.Amount ≤ 400000000000 := by simpa [near1] using hn
      have hvb := V_bound (n := y.Amount) (r := r) (by unfold far; omega) (by omega) hr2
      rw [if_neg (by simpa using hn'), rateOf_ok _ _ hr hr2, if_neg (by omega), Option.bind_some]
      show gd _ _ = _
      rw [gd_true (fit_small (by simp; omega)), w64_id (by omega) (by omega), w64_id (by omega) (by omega)]
      rw [conv_loop r hr hr2 ys _ _ _ _ (by simp; omega) (by simp; omega) (by simp; omega)]
      simp only [List.all_cons, hn, Bool.true_and, sumA, sumV, List.map_cons, List.append_assoc, List.singleton_append, Int.add_assoc, conv]
    · have hn' : ¬ (-400000000000 ≤ y.Amount ∧ y.Amount ≤ 400000000000) := by simpa [near1] using hn
      rw [if_pos (by simp; omega)]
      have : near1 y = false := by simpa using hn
      simp [this]
theorem ref_loop1 : ∀ (ys : List api_Item) (i s : Int) (n : Nat), n + ys.length ≤ 100 → (-400000000000 * (n : Int) ≤ s ∧ s ≤ 400000000000 * (n : Int)) →
    scutageref19_Convert.l1 ys (i, s) = if ys.all near1 = true then some (.inr (s + sumA ys)) else some (.inl ([], 0, 1))
  | [], i, s, n, _, _ => by simp [scutageref19_Convert.l1, sumA]
  | y :: ys, i, s, n, hl, hs => by
    rw [scutageref19_Convert.l1, far_ok, Option.bind_some]
    simp only [List.length_cons] at hl
    by_cases hn : near1 y = true
    · have hn' : -400000000000 ≤ y.Amount ∧ y.Amount ≤ 400000000000 := by simpa [near1] using hn
      rw [if_neg (by simpa using hn'), w64_id (by omega) (by omega), ref_loop1 ys _ _ (n + 1) (by omega) (by omega)]
      simp only [List.all_cons, hn, Bool.true_and, sumA, Int.add_assoc]
    · have hn' : ¬ (-400000000000 ≤ y.Amount ∧ y.Amount ≤ 400000000000) := by simpa [near1] using hn
      rw [if_pos (by simp; omega)]
      have : near1 y = false := by simpa using hn
      simp [this]
theorem ref_loop2 (r : Int) (hr : 1 ≤ r) (hr2 : r ≤ 10000000) : ∀ (ys : List api_Item) (i v : Int) (xs : List api_Item), xs.length + ys.length ≤ 100 → ys.all near1 = true →
    (-4000000000001 * (xs.length + 1 : Int) ≤ v ∧ v ≤ 4000000000001 * (xs.length + 1 : Int)) →
    scutageref19_Convert.l2 r ys (i, xs, v) = some (xs ++ ys.map (conv r), v - sumV r ys)
  | [], i, v, xs, _, _, _ => by simp [scutageref19_Convert.l2, sumV]
  | y :: ys, i, v, xs, hl, ha, hv => by
    simp only [List.length_cons] at hl
    simp only [List.all_cons, Bool.and_eq_true] at ha
    have hn' : -400000000000 ≤ y.Amount ∧ y.Amount ≤ 400000000000 := by simpa [near1] using ha.1
    have hvb := V_bound (n := y.Amount) (r := r) (by unfold far; omega) (by omega) hr2
    rw [scutageref19_Convert.l2, part_ok _ _ (by unfold far; omega) hr hr2, Option.bind_some, gd_true (fit_small (by simp; omega)), w64_id (by omega) (by omega)]
    rw [ref_loop2 r hr hr2 ys _ _ _ (by simp; omega) ha.2 (by simp; omega)]
    simp only [sumV, List.map_cons, List.append_assoc, List.singleton_append, conv]
    congr 2; omega
theorem convert_eq (l : List api_Item) (r : Int) : ∃ a b c, fx_Convert l r = some (a, b, c) ∧ scutageref19_Convert l r = some (a, b, c) ∧ a.length ≤ 20 := by
  unfold fx_Convert scutageref19_Convert
  by_cases h1 : r < 1
  · have e_ := decide_eq_true h1
    rw [if_pos e_, if_pos e_]
    exact ⟨[], 0, 1, rfl, rfl, by simp⟩
  have e_h1 : ¬ decide (r < 1) = true := by simpa using h1
  rw [if_neg e_h1, if_neg e_h1]
  by_cases h2 : r > 10000000
  · have e_ := decide_eq_true h2
    rw [if_pos e_, if_pos e_]
    exact ⟨[], 0, 1, rfl, rfl, by simp⟩
  have e_h2 : ¬ decide (r > 10000000) = true := by simpa using h2
  rw [if_neg e_h2, if_neg e_h2]
  unfold fx_Convert.j1 scutageref19_Convert.j1
  by_cases h3 : (l.length : Int) > 20
  · have e_ := decide_eq_true h3
    rw [if_pos e_, if_pos e_]
    exact ⟨[], 0, 1, rfl, rfl, by simp⟩
  have e_h3 : ¬ decide ((l.length : Int) > 20) = true := by simpa using h3
  rw [if_neg e_h3, if_neg e_h3]
  rw [conv_loop r (by omega) (by omega) l 0 0 0 [] (by simp; omega) (by simp) (by simp), ref_loop1 l 0 0 0 (by omega) (by simp)]
  by_cases ha : l.all near1 = true
  · rw [if_pos ha, if_pos ha, Option.bind_some, Option.bind_some]
    show ∃ a b c, (rate_Of (0 + sumA l) r).bind _ = _ ∧ (scutageref19_far (0 + sumA l)).bind _ = _ ∧ _
    rw [Int.zero_add, rateOf_ok _ _ (by omega) (by omega), far_ok, Option.bind_some]
    by_cases hf : sumA l < -400000000000 ∨ sumA l > 400000000000
    · rw [if_pos hf, if_pos (by simp; omega)]
      exact ⟨[], 0, 1, rfl, rfl, by simp⟩
    · rw [if_neg hf, if_neg (by simp; omega), part_ok _ _ hf (by omega) (by omega)]
      simp only [Option.bind_some]
      have hvb := V_bound (n := sumA l) (r := r) hf (by omega) (by omega)
      rw [ref_loop2 r (by omega) (by omega) l 0 _ [] (by simp; omega) ha (by simp; omega)]
      have hsv : ∀ (q : List api_Item), q.all near1 = true → -4000000000001 * (q.length : Int) ≤ sumV r q ∧ sumV r q ≤ 4000000000001 * (q.length : Int) := by
        intro q
        induction q with
        | nil => intro _; simp [sumV]
        | cons x q ih =>
          intro hq
          simp only [List.all_cons, Bool.and_eq_true] at hq
          have hn' : -400000000000 ≤ x.Amount ∧ x.Amount ≤ 400000000000 := by simpa [near1] using hq.1
          have := V_bound (n := x.Amount) (r := r) (by unfold far; omega) (by omega) (by omega)
          have := ih hq.2
          simp only [sumV, List.length_cons]; omega
      have hb := hsv l ha
      refine ⟨l.map (conv r), V (sumA l) r - sumV r l, 0, ?_, rfl, by simp; omega⟩
      show (if (!true) = true then _ else some ([] ++ l.map (conv r), w64 (V (sumA l) r - (0 + sumV r l)), (0 : Int))) = _
      rw [if_neg (by simp), Int.zero_add, w64_id (by omega) (by omega)]
      rfl
  · rw [if_neg ha, if_neg ha]
    exact ⟨[], 0, 1, rfl, rfl, by simp⟩
theorem wakes_ok : scutagelaw25_wakes = some true := by decide +kernel
end Go.Proofs.Ytfoefkihcnenaaa
