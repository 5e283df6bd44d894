/- The plain law of StorePlays, fourth part: the whole. No program in it. -/
import Derived.Test.YtdhekpodgemneaaPL3
import Derived.Test.YtdhekpodgemneaaPL0
set_option linter.unusedVariables false
set_option linter.unusedSimpArgs false
set_option maxRecDepth 100000
namespace Go.Proofs.Ytdhekpodgemneaa
open Go

theorem within_ok (v n : Int) (h1 : 1 ≤ n) (h2 : n ≤ 1000000000000) : ∃ k, scutagekeep_Within v n = some k ∧ 0 ≤ k ∧ k < n := by
  unfold scutagekeep_Within scutagekeep_Within.j1
  have hlt : Int.tmod v n < n := Int.tmod_lt_of_pos v (by omega)
  have hgt : -n < Int.tmod v n := by
    have := Int.tmod_lt_of_pos (-v) (b := n) (by omega)
    rw [Int.neg_tmod] at this; omega
  rw [if_neg (by simp; omega), gd_true (by omega)]
  by_cases h : Int.tmod v n < 0
  · refine ⟨Int.tmod v n + n, ?_, by omega, by omega⟩
    rw [if_pos (by simpa using h), w64_id (by omega) (by omega)]
  · refine ⟨Int.tmod v n, ?_, by omega, by omega⟩
    rw [if_neg (by simpa using h)]
theorem amount_ok (n : Int) : ∃ k, scutageplay_Amount n = some k := by
  unfold scutageplay_Amount
  obtain ⟨a, ha, _⟩ := within_ok (w64 (Int.tdiv n 23)) 5 (by omega) (by omega)
  obtain ⟨b, hb, _⟩ := within_ok (w64 (Int.tdiv n 23)) 200000000001 (by omega) (by omega)
  obtain ⟨c, hc, _⟩ := within_ok n 4001 (by omega) (by omega)
  rw [ha, hb, hc]
  simp only [Option.bind_some]
  split
  · exact ⟨_, rfl⟩
  split
  · exact ⟨_, rfl⟩
  split
  · exact ⟨_, rfl⟩
  split <;> exact ⟨_, rfl⟩
theorem wakes_ok : scutagelaw07_wakes = some true := by decide +kernel

/-! ### both posts -/
theorem period_ok (p : Int) : period_Right p = some (decide (0 ≤ p ∧ p ≤ 399)) := by
  unfold period_Right period_Right.j1
  by_cases h : p ≥ 0
  · rw [if_pos (by simpa using h)]; congr 1; rw [decide_eq_decide]; omega
  · rw [if_neg (by simpa using h)]; congr 1; symm; rw [decide_eq_false_iff_not]; omega
theorem rperiod_ok (p : Int) : scutageref01_Period p = some (decide (0 ≤ p ∧ p ≤ 399)) := by
  unfold scutageref01_Period scutageref01_Period.j1
  by_cases h : p ≥ 0
  · rw [if_pos (by simpa using h)]; congr 1; rw [decide_eq_decide]; omega
  · rw [if_neg (by simpa using h)]; congr 1; symm; rw [decide_eq_false_iff_not]; omega
theorem args (s : store_Store) (r : scutageref01_Store) (e : ByteArray) (p k o : Int) (l : List api_Line) : ∃ q, store_Store_Post s e p k o l = store_Store_Post.j1 s e p k o l q ∧ scutageref01_Store_Post r e p k o l = scutageref01_Store_Post.j1 r k o l e p q ∧ (q = false → p ≤ 399 ∧ ((k = 1 ∧ o = 0) ∨ k = 2)) := by
  unfold store_Store_Post scutageref01_Store_Post
  rw [str_eq, period_ok, rperiod_ok, Option.bind_some, Option.bind_some]
  by_cases he : e = ⟨#[]⟩
  · rw [if_pos (by simpa using he), if_pos (by simpa using he)]; exact ⟨true, rfl, rfl, fun h => by cases h⟩
  by_cases hp : 0 ≤ p ∧ p ≤ 399
  · by_cases h1 : k = 1
    · rw [if_neg (by simpa using he), if_neg (by simp [hp]), if_neg (by simp [h1]), if_pos (by simp [h1]), if_neg (by simpa using he), if_neg (by simp [hp]), if_neg (by simp [h1]), if_pos (by simp [h1])]
      exact ⟨o != 0, rfl, rfl, fun h => ⟨hp.2, .inl ⟨h1, by simpa using h⟩⟩⟩
    · by_cases h2 : k = 2
      · rw [if_neg (by simpa using he), if_neg (by simp [hp]), if_pos (by simp [h1]), if_neg (by simp [h2]), if_neg (by simp [h2]), if_neg (by simpa using he), if_neg (by simp [hp]), if_pos (by simp [h1]), if_neg (by simp [h2]), if_neg (by simp [h2])]
        exact ⟨false, rfl, rfl, fun h => ⟨hp.2, .inr h2⟩⟩
      · rw [if_neg (by simpa using he), if_neg (by simp [hp]), if_pos (by simp [h1]), if_pos (by simp [h2]), if_neg (by simpa using he), if_neg (by simp [hp]), if_pos (by simp [h1]), if_pos (by simp [h2])]
        exact ⟨true, rfl, rfl, fun h => by cases h⟩
  · rw [if_neg (by simpa using he), if_pos (by simp only [hp, decide_false, Bool.not_false]), if_neg (by simpa using he), if_pos (by simp only [hp, decide_false, Bool.not_false])]
    exact ⟨true, rfl, rfl, fun h => by cases h⟩
theorem fin_SI {js : List api_Journal} (h : SI js) {e : ByteArray} {p k o : Int} {l : List api_Line} (hc : chk l = true) (hp : p ≤ 399) (hk : (k = 1 ∧ o = 0) ∨ k = 2) : SI (fin js e p k o l).2.2 ∧ (fin js e p k o l).2.2.length ≤ js.length + 1 := by
  unfold fin
  by_cases ho : ov js e l = true
  · rw [if_pos ho]
    refine ⟨⟨fun j hj => ?_, fun i j hj => ?_, fun e' a => ?_⟩, by simp⟩
    · rcases List.mem_append.1 hj with hj | hj
      · exact h.g j hj
      · simp only [List.mem_singleton] at hj
        subst hj
        exact ⟨hc, hk⟩
    · by_cases hi : i < js.length
      · rw [List.getElem?_append_left hi] at hj
        exact h.sq i j hj
      · rw [List.getElem?_append_right (by omega)] at hj
        have hlt := (List.getElem?_eq_some_iff.1 hj).1
        simp only [List.length_cons, List.length_nil] at hlt
        have : i - js.length = 0 := by omega
        rw [this] at hj
        simp only [List.getElem?_cons_zero, Option.some.injEq] at hj
        subst hj
        show (js.length : Int) + 1 = _
        omega
    · rw [bal_append, bal, bal, Int.add_zero]
      by_cases hq : inq e' 399 ⟨(js.length : Int) + 1, e, p, k, o, l⟩ = true
      · rw [if_pos hq]
        have he : e = e' := by
          simp only [inq, Bool.and_eq_true, decide_eq_true_eq] at hq; exact hq.1
        subst he
        show Mny (bal e a 399 js + sa a l)
        by_cases hx : ∃ x ∈ l, x.Account = a
        · obtain ⟨x, hx, rfl⟩ := hx
          rw [sa_lok (chk_lok hc) x hx]
          have := List.all_eq_true.1 ho x hx
          simpa using this
        · rw [sa_zero fun x hx' he => hx ⟨x, hx', he⟩, Int.add_zero]; exact h.bd e a
      · rw [if_neg hq, Int.add_zero]; exact h.bd e' a
  · rw [if_neg ho]; exact ⟨h, by simp⟩
theorem both {js : List api_Journal} (h : SI js) (hl : js.length ≤ 50) (e : ByteArray) (p k o : Int) (l : List api_Line) : ∃ n er js', store_Store_Post ⟨js⟩ e p k o l = some (n, er, ⟨js'⟩) ∧ scutageref01_Store_Post ⟨js⟩ e p k o l = some (n, er, ⟨js'⟩) ∧ SI js' ∧ js'.length ≤ js.length + 1 := by
  obtain ⟨q, h1, h2, h3⟩ := args ⟨js⟩ ⟨js⟩ e p k o l
  rw [h1, h2]
  cases q with
  | true =>
    refine ⟨0, 1, js, ?_, ?_, h, by omega⟩
    · unfold store_Store_Post.j1; rw [if_pos rfl]
    · unfold scutageref01_Store_Post.j1; rw [if_pos rfl]
  | false =>
    obtain ⟨hp, hk⟩ := h3 rfl
    rw [post_j1 h (by omega), rpost_j1 h (by omega)]
    refine ⟨_, _, _, rfl, rfl, ?_⟩
    unfold ps
    by_cases hle : le js e p k o l = 0
    · rw [if_pos hle]; exact fin_SI h (le_chk hle) hp hk
    · rw [if_neg hle]; exact ⟨h, by simp⟩
theorem journals_loop : ∀ (ys xs : List api_Journal) (i : Int), (∀ j ∈ ys, JG j) → xs.length + ys.length ≤ 1000 → store_Store_Journals.l1 ys (i, xs) = some (xs ++ ys)
  | [], xs, _, _, _ => by simp [store_Store_Journals.l1]
  | y :: ys, xs, i, h, hl => by
    simp only [List.length_cons] at hl
    rw [store_Store_Journals.l1, own_ok (by have := (h y (by simp)).len; omega), Option.bind_some, gd_true (fit_small (by simp; omega)), journals_loop ys _ _ (fun j hj => h j (List.mem_cons_of_mem _ hj)) (by simp; omega)]
    simp
theorem journals_ok {js : List api_Journal} (h : SI js) (hl : js.length ≤ 100) : store_Store_Journals ⟨js⟩ = some js := by
  unfold store_Store_Journals
  show (store_Store_Journals.l1 js (0, [])).bind _ = _
  rw [journals_loop js [] 0 h.g (by simp; omega)]
  rfl
theorem jsame_loop (R : List api_Journal) (hR : ∀ j ∈ R, JG j) : ∀ ys dn : List api_Journal, R = dn ++ ys → scutagelaw07_Journals.l1 R ys (dn.length : Int) = some (.inr ())
  | [], _, _ => rfl
  | y :: ys, dn, e => by
    have hlen : R.length = dn.length + (ys.length + 1) := by rw [e]; simp
    have hr : rd R (dn.length : Int) = y := by rw [e]; exact rd_mid dn ys y
    have hy := (hR y (by rw [e]; simp)).len
    have ih := jsame_loop R hR ys (dn ++ [y]) (by rw [e]; simp)
    have e1 : (((dn ++ [y]).length : Nat) : Int) = (dn.length : Int) + 1 := by simp
    rw [e1] at ih
    rw [scutagelaw07_Journals.l1, gd_true (by omega), hr, if_neg (by simp), if_neg (by simp), if_neg (by simp), if_neg (by simp), if_neg (by simp), same_api_Line y.Lines (by omega), Option.bind_some]
    unfold scutagelaw07_Journals.j1
    rw [if_neg (by simp)]
    exact ih
theorem jsame_ok {js : List api_Journal} (h : SI js) : scutagelaw07_Journals js js = some true := by
  unfold scutagelaw07_Journals
  have := jsame_loop js h.g js [] rfl
  have this' : scutagelaw07_Journals.l1 js js 0 = some (.inr ()) := this
  rw [if_neg (by simp), this']; rfl

/-! ### lines that are played -/
def Sml (l : List api_Line) : Prop := ∀ x ∈ l, -1000000 ≤ x.Amount ∧ x.Amount ≤ 1000000
theorem Sml.mny {l : List api_Line} (h : Sml l) : ∀ x ∈ l, Mny x.Amount := fun x hx => by
  have := h x hx
  rw [Mny_def]; omega
theorem sa_small (a : Int) : ∀ {l : List api_Line}, Sml l → -1000000 * l.length ≤ sa a l ∧ sa a l ≤ 1000000 * l.length
  | [], _ => by simp [sa]
  | x :: l, h => by
    have h1 := sa_small a (l := l) fun y hy => h y (by simp [hy])
    have h2 := h x (by simp)
    rw [sa]
    simp only [List.length_cons]
    split <;> omega
theorem right_loop (as ns : List Int) : ∀ (fuel : Nat) (xs : List api_Line) (v : Int), 0 ≤ v → v ≤ 12 → (xs.length : Int) ≤ v → Sml xs → (12 - v).toNat < fuel → ∃ xs', scutageplay_Right.l1 as ns fuel (xs, v) = some xs' ∧ xs'.length ≤ 12 ∧ Sml xs'
  | 0, _, _, _, _, _, _, h => by omega
  | fuel + 1, xs, v, h0, h1, hl, hs, hf => by
    rw [scutageplay_Right.l1]
    have stop : ∃ xs', scutageplay_Right.j1 v ns as xs (scutageplay_Right.l1 as ns fuel) false = some xs' ∧ xs'.length ≤ 12 ∧ Sml xs' := ⟨xs, by unfold scutageplay_Right.j1; rw [if_neg (by simp)], by omega, hs⟩
    by_cases ha : v < (as.length : Int)
    · rw [if_pos (by simpa using ha)]
      by_cases hn : v < (ns.length : Int)
      · rw [if_pos (by simpa using hn)]
        by_cases h12 : v < 12
        · obtain ⟨m, hm⟩ := amount_ok (rd ns v)
          have go : ∀ w, ∃ xs', scutageplay_Right.j2 v as xs (scutageplay_Right.l1 as ns fuel) w = some xs' ∧ xs'.length ≤ 12 ∧ Sml xs' := fun w => by
            unfold scutageplay_Right.j2
            obtain ⟨y, hy, y0, y1⟩ := within_ok (rd as v) 7 (by omega) (by omega)
            rw [gd_true ⟨h0, ha⟩, hy, Option.bind_some, gd_true (fit_small (by simp; omega)), w64_id (x := v + 1) (by omega) (by omega)]
            refine right_loop as ns fuel _ (v + 1) (by omega) (by omega) (by simp; omega) (fun x hx => ?_) (by omega)
            rcases List.mem_append.1 hx with hx | hx
            · exact hs x hx
            · simp only [List.mem_singleton] at hx
              subst hx
              have h2 : Int.tmod w 1000000 < 1000000 := Int.tmod_lt_of_pos w (by omega)
              have h3 : -1000000 < Int.tmod w 1000000 := by
                have := Int.tmod_lt_of_pos (-w) (b := 1000000) (by omega)
                rw [Int.neg_tmod] at this; omega
              exact ⟨by show -1000000 ≤ Int.tmod w 1000000; omega, by show Int.tmod w 1000000 ≤ 1000000; omega⟩
          rw [show decide (v < 12) = true by simpa using h12]
          unfold scutageplay_Right.j1
          rw [if_pos rfl, gd_true ⟨h0, hn⟩, hm, Option.bind_some, rmoney_ok, Option.bind_some]
          split
          · exact go _
          · exact go _
        · rw [show decide (v < 12) = false by simpa using h12]; exact stop
      · rw [if_neg (by simpa using hn)]; exact stop
    · rw [if_neg (by simpa using ha)]; exact stop
theorem right_sum : ∀ (l : List api_Line) (i v : Int) (c : Nat), (∀ x ∈ l, Mny x.Amount) → c + l.length ≤ 1000 → -100000000000 * c ≤ v → v ≤ 100000000000 * c → scutageplay_Right.l2 l (i, v) = some (v + sm l)
  | [], _, v, _, _, _, _, _ => by simp [scutageplay_Right.l2, sm]
  | y :: ys, i, v, c, h, hc, h1, h2 => by
    simp only [List.length_cons] at hc
    have hy := h y (by simp)
    rw [Mny_def] at hy
    rw [scutageplay_Right.l2, sm, w64_id (by omega) (by omega), right_sum ys _ _ (c + 1) (fun x hx => h x (by simp [hx])) (by omega) (by omega) (by omega)]
    congr 1; omega
theorem sm_bd {B : Int} (hB : 0 ≤ B) : ∀ l : List api_Line, (∀ x ∈ l, -B ≤ x.Amount ∧ x.Amount ≤ B) → l.length ≤ 7 → -(7 * B) ≤ sm l ∧ sm l ≤ 7 * B := by
  have key : ∀ (l : List api_Line) (c : Nat), (∀ x ∈ l, -B ≤ x.Amount ∧ x.Amount ≤ B) → l.length ≤ c → -(c * B) ≤ sm l ∧ sm l ≤ c * B := by
    intro l
    induction l with
    | nil =>
      intro c _ _
      have : 0 ≤ (c : Int) * B := Int.mul_nonneg (by omega) hB
      rw [sm]; omega
    | cons x l ih =>
      intro c h hc
      simp only [List.length_cons] at hc
      obtain ⟨d, rfl⟩ : ∃ d, c = d + 1 := ⟨c - 1, by omega⟩
      have h1 := ih d (fun y hy => h y (by simp [hy])) (by omega)
      have h2 := h x (by simp)
      have : ((d + 1 : Nat) : Int) * B = d * B + B := by rw [Int.natCast_add, Int.add_mul]; simp
      rw [this, sm]; omega
  intro l h hl
  have := key l 7 h hl
  simpa using this
theorem mrg_len (l : List api_Line) : (mrg l).length ≤ 7 := mg_len l ac7
theorem pright_ok (as ns : List Int) : ∃ l, scutageplay_Right as ns = some l ∧ l.length ≤ 7 := by
  unfold scutageplay_Right
  obtain ⟨xs, h1, h2, h3⟩ := right_loop as ns FUEL [] 0 (by omega) (by omega) (by simp) (fun x hx => by simp at hx) (by simp only [FUEL]; omega)
  rw [h1, Option.bind_some, merge_ok h3.mny (by omega), Option.bind_some]
  have hb : ∀ x ∈ mrg xs, -12000000 ≤ x.Amount ∧ x.Amount ≤ 12000000 := fun x hx => by
    obtain ⟨_, _, h6⟩ := mg_mem.1 hx
    have := sa_small x.Account h3
    rw [h6]; omega
  have hm : ∀ x ∈ mrg xs, Mny x.Amount := fun x hx => by
    have := hb x hx
    rw [Mny_def]; omega
  have hl := mrg_len xs
  have hs := sm_bd (B := 12000000) (by omega) (mrg xs) hb hl
  rw [right_sum _ 0 0 0 hm (by omega) (by omega) (by omega), Option.bind_some, gd_true (fit_small (by simp; omega)), Int.zero_add, w64_id (by omega) (by omega), merge_ok (fun x hx => by
    rcases List.mem_append.1 hx with hx | hx
    · exact hm x hx
    · simp only [List.mem_singleton] at hx
      subst hx
      rw [Mny_def]
      show -100000000000 ≤ 0 - sm (mrg xs) ∧ 0 - sm (mrg xs) ≤ 100000000000
      omega) (by simp; omega)]
  exact ⟨_, rfl, mrg_len _⟩
theorem raw_loop (as ns : List Int) : ∀ (fuel : Nat) (xs : List api_Line) (v : Int), 0 ≤ v → v ≤ 44 → (xs.length : Int) ≤ v → (44 - v).toNat < fuel → ∃ xs', scutagelaw06_Some.l1 as ns fuel (xs, v) = some xs'
  | 0, _, _, _, _, _, h => by omega
  | fuel + 1, xs, v, h0, h1, hl, hf => by
    rw [scutagelaw06_Some.l1]
    have stop : ∃ xs', scutagelaw06_Some.j1 v as ns xs (scutagelaw06_Some.l1 as ns fuel) false = some xs' := ⟨xs, by unfold scutagelaw06_Some.j1; rw [if_neg (by simp)]⟩
    by_cases ha : v < (as.length : Int)
    · rw [if_pos (by simpa using ha)]
      by_cases hn : v < (ns.length : Int)
      · rw [if_pos (by simpa using hn)]
        by_cases h44 : v < 44
        · obtain ⟨m, hm⟩ := amount_ok (rd ns v)
          obtain ⟨y, hy, y0, y1⟩ := within_ok (rd as v) 10 (by omega) (by omega)
          rw [show decide (v < 44) = true by simpa using h44]
          unfold scutagelaw06_Some.j1
          rw [if_pos rfl, gd_true ⟨h0, ha⟩, hy, Option.bind_some, gd_true ⟨h0, hn⟩, hm, Option.bind_some, gd_true (fit_small (by simp; omega)), w64_id (x := v + 1) (by omega) (by omega)]
          exact raw_loop as ns fuel _ (v + 1) (by omega) (by omega) (by simp; omega) (by omega)
        · rw [show decide (v < 44) = false by simpa using h44]; exact stop
      · rw [if_neg (by simpa using hn)]; exact stop
    · rw [if_neg (by simpa using ha)]; exact stop
theorem some_ok (as ns : List Int) (at_ what : Int) (raw : Bool) : ∃ l, scutagelaw06_Some as ns at_ what raw = some l := by
  unfold scutagelaw06_Some
  cases raw with
  | true =>
    obtain ⟨xs, h⟩ := raw_loop as ns FUEL [] 0 (by omega) (by omega) (by simp) (by simp only [FUEL]; omega)
    rw [if_pos rfl, h]; exact ⟨_, rfl⟩
  | false =>
    obtain ⟨l, hl, h7⟩ := pright_ok as ns
    rw [if_neg (by simp), hl, Option.bind_some]
    by_cases h0 : l.length = 0
    · rw [if_pos (by simp [h0])]; exact ⟨_, rfl⟩
    · obtain ⟨k, hk, k0, k1⟩ := within_ok at_ (l.length : Int) (by omega) (by omega)
      obtain ⟨y, hy, y0, y1⟩ := within_ok what 12 (by omega) (by omega)
      rw [if_neg (by simpa using h0), hk, Option.bind_some, hy, Option.bind_some]
      have hj : ∀ x, ∃ z, scutagelaw06_Some.j2 x = some z := fun x => ⟨x, rfl⟩
      have hw : w64 (k + 1) = k + 1 := w64_id (by omega) (by omega)
      by_cases c0 : (y == 0) = true
      · rw [if_pos c0, gd_true ⟨k0, k1⟩]; exact hj _
      rw [if_neg c0]
      by_cases c1 : (y == 1) = true
      · obtain ⟨z, hz, _⟩ := within_ok (w64 (Int.tdiv what 12)) 10 (by omega) (by omega)
        rw [if_pos c1, hz, Option.bind_some, gd_true ⟨k0, k1⟩]; exact hj _
      rw [if_neg c1]
      by_cases c2 : (y == 2) = true
      · rw [if_pos c2, gd_true ⟨k0, k1⟩, gd_true (fit_small (by simp; omega))]; exact hj _
      rw [if_neg c2]
      by_cases c3 : (y == 3) = true
      · rw [if_pos c3, gd_true (by omega), hw, gd_true (by omega), gd_true (fit_small (by unfold sb; simp; omega))]; exact hj _
      rw [if_neg c3]
      by_cases c4 : (y == 4) = true
      · rw [if_pos c4, gd_true ⟨k0, k1⟩, gd_true (by omega), gd_true (by simp; omega)]; exact hj _
      rw [if_neg c4]
      by_cases c5 : (y == 5) = true
      · rw [if_pos c5, gd_true ⟨k0, k1⟩]; exact hj _
      rw [if_neg c5]; exact hj _

/-! ### the plays -/
theorem plays_j4 {js : List api_Journal} (h : SI js) (hl : js.length ≤ 50) (e : ByteArray) (p k o : Int) (l : List api_Line) (rec_ : (List api_Journal × List api_Journal × Int) → Option (Bool ⊕ (List api_Journal × List api_Journal))) (v : Int) :
    ∃ js', SI js' ∧ js'.length ≤ js.length + 1 ∧ scutagelaw07_StorePlays.j4 js e p k o l js rec_ v = rec_ (js', js', w64 (v + 1)) := by
  obtain ⟨n, er, js', h1, h2, h3, h4⟩ := both h hl e p k o l
  refine ⟨js', h3, h4, ?_⟩
  unfold scutagelaw07_StorePlays.j4 scutagelaw07_StorePlays.j5
  rw [h1, Option.bind_some]
  show (scutageref01_Store_Post ⟨js⟩ e p k o l).bind _ = _
  rw [h2, Option.bind_some]
  show (if (n != n) = true then _ else if (er != er) = true then _ else _) = _
  rw [if_neg (by simp), if_neg (by simp)]
theorem plays_j3 {js : List api_Journal} (h : SI js) (hl : js.length ≤ 40) (e : ByteArray) (p k o : Int) (l : List api_Line) (rec_ : (List api_Journal × List api_Journal × Int) → Option (Bool ⊕ (List api_Journal × List api_Journal))) (v : Int) :
    ∃ js', SI js' ∧ js'.length ≤ js.length + 1 ∧ scutagelaw07_StorePlays.j3 v js js rec_ e p l k o = rec_ (js', js', w64 (v + 1)) := by
  unfold scutagelaw07_StorePlays.j3
  by_cases hv : (v == 7) = true
  · rw [if_pos hv]
    have hc : store_Store_Clone ⟨js⟩ = some ⟨js⟩ := by
      unfold store_Store_Clone
      show (store_Store_Journals ⟨js⟩).bind _ = _
      rw [journals_ok h (by omega)]; rfl
    rw [hc, Option.bind_some]
    obtain ⟨n, er, js', h1, _⟩ := both h (by omega) (⟨#[97]⟩ : ByteArray) 0 1 0 [(⟨1, 5⟩ : api_Line), (⟨2, -5⟩ : api_Line)]
    have h1' : store_Store_Post ⟨(⟨js⟩ : store_Store).f_l⟩ (⟨#[97]⟩ : ByteArray) 0 1 0 [(⟨1, 5⟩ : api_Line), (⟨2, -5⟩ : api_Line)] = _ := h1
    rw [h1', Option.bind_some]
    exact plays_j4 h (by omega) e p k o l rec_ v
  · rw [if_neg hv]; exact plays_j4 h (by omega) e p k o l rec_ v
theorem plays_j6 {js : List api_Journal} (h : SI js) (hl : js.length ≤ 40) (o : Int) (y v p : Int) (l : List api_Line) (rec_ : (List api_Journal × List api_Journal × Int) → Option (Bool ⊕ (List api_Journal × List api_Journal))) (q : Bool) (hq : q = true → 1 ≤ o ∧ o ≤ (js.length : Int)) :
    ∃ js', SI js' ∧ js'.length ≤ js.length + 1 ∧ scutagelaw07_StorePlays.j6 o js v js rec_ y p l q = rec_ (js', js', w64 (v + 1)) := by
  unfold scutagelaw07_StorePlays.j6
  cases q with
  | true =>
    have ho := hq rfl
    have hw : w64 (o - 1) = o - 1 := w64_id (by omega) (by omega)
    have hg := (h.g _ (jn_mem ho)).len
    rw [if_pos rfl, hw, gd_true (by omega)]
    show ∃ js', SI js' ∧ js'.length ≤ js.length + 1 ∧ (scutageref01_Reverse (jn js o).Lines).bind _ = _
    rw [rrev_ok (by omega), Option.bind_some]
    exact plays_j3 h hl _ _ _ _ _ _ _
  | false => rw [if_neg (by simp)]; exact plays_j3 h hl _ _ _ _ _ _ _
theorem plays_j2 {js : List api_Journal} (h : SI js) (hl : js.length ≤ 40) (l : List scutagelaw07_Act) (v y p : Int) (rec_ : (List api_Journal × List api_Journal × Int) → Option (Bool ⊕ (List api_Journal × List api_Journal))) :
    ∃ js', SI js' ∧ js'.length ≤ js.length + 1 ∧ scutagelaw07_StorePlays.j2 l v js js rec_ y p = rec_ (js', js', w64 (v + 1)) := by
  unfold scutagelaw07_StorePlays.j2
  obtain ⟨ls, h1⟩ := some_ok (rd l v).Accounts (rd l v).Amounts (rd l v).At (rd l v).What (Int.tmod (rd l v).What 19 == 18)
  obtain ⟨k, h2, _⟩ := within_ok (rd l v).Kind 6 (by omega) (by omega)
  have hw : w64 ((js.length : Int) + 2) = (js.length : Int) + 2 := w64_id (by omega) (by omega)
  obtain ⟨o, h3, o0, o1⟩ := within_ok (rd l v).Of ((js.length : Int) + 2) (by omega) (by omega)
  rw [h1, Option.bind_some, h2, Option.bind_some, hw, h3]
  by_cases hk : (k == 0) = true
  · rw [if_pos hk, Option.bind_some]
    by_cases ho : o > 0
    · rw [if_pos (by simpa using ho)]
      by_cases ho2 : o ≤ (js.length : Int)
      · rw [if_pos (by simpa using ho2)]; exact plays_j6 h hl _ _ _ _ _ _ _ fun _ => by omega
      · rw [if_neg (by simpa using ho2)]; exact plays_j6 h hl _ _ _ _ _ _ _ fun hh => by cases hh
    · rw [if_neg (by simpa using ho)]; exact plays_j6 h hl _ _ _ _ _ _ _ fun hh => by cases hh
  · rw [if_neg hk]
    split
    · exact plays_j3 h hl _ _ _ _ _ _ _
    · exact plays_j3 h hl _ _ _ _ _ _ _
theorem plays_loop (l : List scutagelaw07_Act) : ∀ (fuel : Nat) (js : List api_Journal) (v : Int), SI js → 0 ≤ v → v ≤ 16 → (js.length : Int) ≤ v → (16 - v).toNat < fuel → ∃ js', SI js' ∧ js'.length ≤ 16 ∧ scutagelaw07_StorePlays.l1 l fuel (js, js, v) = some (.inr (js', js'))
  | 0, _, _, _, _, _, _, h => by omega
  | fuel + 1, js, v, h, h0, h1, hl, hf => by
    rw [scutagelaw07_StorePlays.l1]
    have stop : ∃ js', SI js' ∧ js'.length ≤ 16 ∧ scutagelaw07_StorePlays.j1 v l js js (scutagelaw07_StorePlays.l1 l fuel) false = some (.inr (js', js')) := ⟨js, h, by omega, by unfold scutagelaw07_StorePlays.j1; rw [if_neg (by simp)]⟩
    by_cases hv : v < (l.length : Int)
    · rw [if_pos (by simpa using hv)]
      by_cases h16 : v < 16
      · rw [show decide (v < 16) = true by simpa using h16]
        unfold scutagelaw07_StorePlays.j1
        obtain ⟨y, hy, y0, y1⟩ := within_ok (rd l v).Entity 13 (by omega) (by omega)
        obtain ⟨p, hp, p0, p1⟩ := within_ok (rd l v).Period 5 (by omega) (by omega)
        have ht : Int.tmod y 3 = y % 3 := Int.tmod_eq_emod_of_nonneg y0
        rw [if_pos rfl, gd_true ⟨h0, hv⟩, hy, Option.bind_some, gd_true (by rw [ht]; simp; omega), hp, Option.bind_some]
        have go : ∀ p, ∃ js', SI js' ∧ js'.length ≤ 16 ∧ scutagelaw07_StorePlays.j2 l v js js (scutagelaw07_StorePlays.l1 l fuel) y p = some (.inr (js', js')) := fun p => by
          obtain ⟨js', a1, a2, a3⟩ := plays_j2 h (by omega) l v y p (scutagelaw07_StorePlays.l1 l fuel)
          obtain ⟨js2, b1, b2, b3⟩ := plays_loop l fuel js' (v + 1) a1 (by omega) (by omega) (by omega) (by omega)
          exact ⟨js2, b1, b2, by rw [a3, w64_id (by omega) (by omega), b3]⟩
        split
        · exact go _
        · exact go _
      · rw [show decide (v < 16) = false by simpa using h16]; exact stop
    · rw [if_neg (by simpa using hv)]; exact stop
theorem last4 {js : List api_Journal} (h : SI js) (hl : js.length ≤ 100) (i p : Int) : ∀ (fuel : Nat) (a : Int), 0 ≤ a → a ≤ 9 → (9 - a).toNat < fuel → scutagelaw07_StorePlays.l4 js i p js fuel a = some (.inr ())
  | 0, _, _, _, h => by omega
  | fuel + 1, a, h0, h1, hf => by
    rw [scutagelaw07_StorePlays.l4]
    by_cases ha : a < 9
    · rw [if_pos (by simpa using ha), balance_ok h.g hl, Option.bind_some, rbalance_ok h.g hl, Option.bind_some, if_neg (by simp), w64_id (by omega) (by omega)]
      exact last4 h hl i p fuel (a + 1) (by omega) (by omega) (by omega)
    · rw [if_neg (by simpa using ha)]
theorem last3 {js : List api_Journal} (h : SI js) (hl : js.length ≤ 100) (p : Int) : ∀ (fuel : Nat) (i : Int), 0 ≤ i → i ≤ 3 → (3 - i).toNat < fuel → scutagelaw07_StorePlays.l3 js p js fuel i = some (.inr ())
  | 0, _, _, _, h => by omega
  | fuel + 1, i, h0, h1, hf => by
    rw [scutagelaw07_StorePlays.l3]
    by_cases hi : i < 3
    · have hm := mrg_len (al (rd [(⟨#[97]⟩ : ByteArray), (⟨#[98]⟩ : ByteArray), (⟨#[120]⟩ : ByteArray)] i) p js)
      rw [if_pos (by simpa using hi), gd_true (by simp; omega), trial_ok h.g hl, Option.bind_some, rtrial_ok h.g hl, Option.bind_some, same_api_Line _ (by omega), Option.bind_some, if_neg (by simp), last4 h hl i p FUEL 0 (by omega) (by omega) (by simp only [FUEL]; omega), Option.bind_some, w64_id (by omega) (by omega)]
      exact last3 h hl p fuel (i + 1) (by omega) (by omega) (by omega)
    · rw [if_neg (by simpa using hi)]
theorem last2 {js : List api_Journal} (h : SI js) (hl : js.length ≤ 100) : ∀ (fuel : Nat) (p : Int), -1 ≤ p → p ≤ 6 → (6 - p).toNat < fuel → scutagelaw07_StorePlays.l2 js js fuel p = some (.inr ())
  | 0, _, _, _, h => by omega
  | fuel + 1, p, h0, h1, hf => by
    rw [scutagelaw07_StorePlays.l2]
    by_cases hp : p < 6
    · rw [if_pos (by simpa using hp), last3 h hl p FUEL 0 (by omega) (by omega) (by simp only [FUEL]; omega), Option.bind_some, w64_id (by omega) (by omega)]
      exact last2 h hl fuel (p + 1) (by omega) (by omega) (by omega)
    · rw [if_neg (by simpa using hp)]
theorem StorePlays_true (l : List scutagelaw07_Act) : scutagelaw07_StorePlays l = some true := by
  obtain ⟨js, h, hl, e⟩ := plays_loop l FUEL [] 0 SI.nil (by omega) (by omega) (by simp) (by simp only [FUEL]; omega)
  unfold scutagelaw07_StorePlays store_New
  rw [Option.bind_some]
  show (scutagelaw07_StorePlays.l1 l FUEL ([], [], 0)).bind _ = _
  rw [e, Option.bind_some]
  show (store_Store_Journals ⟨js⟩).bind _ = _
  rw [journals_ok h (by omega), Option.bind_some, jsame_ok h, Option.bind_some, if_neg (by simp), last2 h (by omega) FUEL (-1) (by omega) (by omega) (by simp only [FUEL]; omega), Option.bind_some, wakes_ok]
  rfl
end Go.Proofs.Ytdhekpodgemneaa
