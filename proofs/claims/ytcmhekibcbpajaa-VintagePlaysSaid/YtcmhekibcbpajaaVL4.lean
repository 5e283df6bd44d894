/- What the document's losses come to. No program in it. -/
import Derived.Test.YtcmhekibcbpajaaVL2
set_option linter.unusedVariables false
set_option linter.unusedSimpArgs false
namespace Go.Proofs.Ytcmhekibcbpajaa
open Go

theorem ryear_ok (y : Int) : scutageref09_Year y = some (decide (0 ≤ y ∧ y ≤ 99)) := by
  unfold scutageref09_Year scutageref09_Year.j1
  by_cases h : y ≥ 0
  · rw [if_pos (by simpa using h)]; congr 1; rw [decide_eq_decide]; omega
  · rw [if_neg (by simpa using h)]; congr 1; symm; rw [decide_eq_false_iff_not]; omega
theorem rleft_loop : ∀ (ys : List api_Vintage) (i v : Int), 0 ≤ v → v + vsum ys ≤ 1000000000000 → (∀ y ∈ ys, 1 ≤ y.Left) → scutageref09_Losses_Left.l1 ys (i, v) = some (v + vsum ys)
  | [], i, v, _, _, _ => by simp [scutageref09_Losses_Left.l1, vsum]
  | y :: ys, i, v, h0, h1, hp => by
    have hy := hp y (by simp)
    have hn := vsum_nn fun q hq => hp q (List.mem_cons_of_mem _ hq)
    simp only [vsum] at h1
    rw [scutageref09_Losses_Left.l1, w64_id (by omega) (by omega), rleft_loop ys _ _ (by omega) (by omega) fun q hq => hp q (List.mem_cons_of_mem _ hq)]
    simp only [vsum]; congr 1; omega
theorem rleft_ok {l : List api_Vintage} (h : VI l) : scutageref09_Losses_Left ⟨l⟩ = some (vsum l) := by
  have := h.sum
  rw [scutageref09_Losses_Left, rleft_loop l 0 0 (by omega) (by omega) h.pos, Option.bind_some, Int.zero_add]

/-! ### Add -/
theorem radd_step (o e n : Int) (y : api_Vintage) (ys : List api_Vintage) (i : Int) (out : List api_Vintage) (q : Bool) (hl : out.length ≤ 1000) :
    scutageref09_Losses_Add.l1 o n e (y :: ys) (i, out, q) =
      if vkey o e y = true then scutageref09_Losses_Add.l1 o n e ys (i + 1, out ++ [⟨y.Origin, y.Expiry, w64 (y.Left + n)⟩], true)
      else if q = false ∧ vlt ⟨o, e, n⟩ y = true then scutageref09_Losses_Add.l1 o n e ys (i + 1, out ++ [⟨o, e, n⟩] ++ [y], true)
      else scutageref09_Losses_Add.l1 o n e ys (i + 1, out ++ [y], q) := by
  have j3 : ∀ (out : List api_Vintage) (q : Bool) (v : Int), out.length ≤ 1001 → scutageref09_Losses_Add.j3 y (scutageref09_Losses_Add.l1 o n e ys) i out q v = scutageref09_Losses_Add.l1 o n e ys (i + 1, out ++ [⟨y.Origin, y.Expiry, v⟩], q) := by
    intro out q v hl
    rw [scutageref09_Losses_Add.j3, gd_true (fit_small (by simp; omega))]
  have j5f : scutageref09_Losses_Add.j5 out o e n y (scutageref09_Losses_Add.l1 o n e ys) i q false = scutageref09_Losses_Add.l1 o n e ys (i + 1, out ++ [y], q) := by
    rw [scutageref09_Losses_Add.j5, if_neg (by simp), j3 _ _ _ (by omega)]
  have j5t : scutageref09_Losses_Add.j5 out o e n y (scutageref09_Losses_Add.l1 o n e ys) i q true = scutageref09_Losses_Add.l1 o n e ys (i + 1, out ++ [⟨o, e, n⟩] ++ [y], true) := by
    rw [scutageref09_Losses_Add.j5, if_pos rfl, gd_true (fit_small (by simp; omega)), j3 _ _ _ (by simp; omega)]
  have j4 : ∀ q2 : Bool, q2 = vkey o e y → scutageref09_Losses_Add.j4 y (scutageref09_Losses_Add.l1 o n e ys) i out n q e o q2 =
      if vkey o e y = true then scutageref09_Losses_Add.l1 o n e ys (i + 1, out ++ [⟨y.Origin, y.Expiry, w64 (y.Left + n)⟩], true)
      else if q = false ∧ vlt ⟨o, e, n⟩ y = true then scutageref09_Losses_Add.l1 o n e ys (i + 1, out ++ [⟨o, e, n⟩] ++ [y], true)
      else scutageref09_Losses_Add.l1 o n e ys (i + 1, out ++ [y], q) := by
    intro q2 hq
    rw [scutageref09_Losses_Add.j4, hq]
    by_cases hk : vkey o e y = true
    · rw [if_pos hk, if_pos hk, j3 _ _ _ (by omega)]
    · rw [if_neg hk, if_neg hk]
      cases q with
      | true => rw [if_neg (by simp), if_neg (by simp)]; exact j5f
      | false =>
        rw [if_pos (by simp)]
        by_cases h1 : y.Expiry > e
        · have : vlt (⟨o, e, n⟩ : api_Vintage) y = true := vlt_t.2 (.inl h1)
          rw [if_pos (by simpa using h1), if_pos ⟨rfl, this⟩]; exact j5t
        · rw [if_neg (by simpa using h1)]
          by_cases h2 : y.Expiry = e
          · rw [if_pos (by simpa using h2)]
            by_cases h3 : y.Origin > o
            · have : vlt (⟨o, e, n⟩ : api_Vintage) y = true := vlt_t.2 (.inr ⟨h2.symm, h3⟩)
              rw [decide_eq_true h3, if_pos ⟨rfl, this⟩]; exact j5t
            · have : ¬ vlt (⟨o, e, n⟩ : api_Vintage) y = true := fun h => by
                rw [vlt_t] at h; simp only at h; omega
              rw [decide_eq_false h3, if_neg (fun h => this h.2)]; exact j5f
          · have : ¬ vlt (⟨o, e, n⟩ : api_Vintage) y = true := fun h => by
              rw [vlt_t] at h; simp only at h; omega
            rw [if_neg (by simpa using h2), if_neg (fun h => this h.2)]; exact j5f
  rw [scutageref09_Losses_Add.l1]
  by_cases h1 : y.Origin = o
  · rw [if_pos (by simpa using h1)]; exact j4 _ (by rw [Bool.eq_iff_iff]; simp [vkey, h1])
  · rw [if_neg (by simpa using h1)]; exact j4 _ (by simp [vkey, h1])
theorem radd_done (o e n : Int) : ∀ (ys : List api_Vintage) (i : Int) (out : List api_Vintage), out.length + ys.length ≤ 1000 → (∀ v ∈ ys, vkey o e v = false) → scutageref09_Losses_Add.l1 o n e ys (i, out, true) = some (true, out ++ ys)
  | [], i, out, _, _ => by simp [scutageref09_Losses_Add.l1]
  | y :: ys, i, out, hl, hk => by
    simp only [List.length_cons] at hl
    rw [radd_step o e n y ys i out true (by omega), if_neg (by simp [hk y (by simp)]), if_neg (by simp), radd_done o e n ys _ _ (by simp; omega) fun v hv => hk v (List.mem_cons_of_mem _ hv)]
    simp
theorem radd_new (o e n : Int) : ∀ (ys : List api_Vintage) (i : Int) (out : List api_Vintage), out.length + ys.length ≤ 900 → (∀ v ∈ ys, vkey o e v = false) →
    ∃ q r, scutageref09_Losses_Add.l1 o n e ys (i, out, false) = some (q, r) ∧ (if q = true then r else r ++ [⟨o, e, n⟩]) = out ++ ins vlt ⟨o, e, n⟩ ys ∧ r.length ≤ out.length + ys.length + 1
  | [], i, out, _, _ => ⟨false, out, by simp [scutageref09_Losses_Add.l1], by simp [ins], by simp⟩
  | y :: ys, i, out, hl, hk => by
    simp only [List.length_cons] at hl
    have hk' : ∀ v ∈ ys, vkey o e v = false := fun v hv => hk v (List.mem_cons_of_mem _ hv)
    rw [radd_step o e n y ys i out false (by omega), if_neg (by simp [hk y (by simp)])]
    by_cases hx : vlt (⟨o, e, n⟩ : api_Vintage) y = true
    · rw [if_pos ⟨rfl, hx⟩, radd_done o e n ys _ _ (by simp; omega) hk']
      refine ⟨true, _, rfl, ?_, by simp; omega⟩
      rw [if_pos rfl, ins, if_pos hx]; simp
    · rw [if_neg (fun h => hx h.2)]
      obtain ⟨q, r, h1, h2, h3⟩ := radd_new o e n ys (i + 1) (out ++ [y]) (by simp; omega) hk'
      refine ⟨q, r, h1, ?_, by simp at h3 ⊢; omega⟩
      rw [h2, ins, if_neg hx]; simp
theorem radd_key (o e n : Int) (x : api_Vintage) (hx : vkey o e x = true) (B : List api_Vintage) (hB : ∀ v ∈ B, vkey o e v = false) : ∀ (A : List api_Vintage) (i : Int) (out : List api_Vintage), out.length + A.length + B.length ≤ 900 → (∀ v ∈ A, vkey o e v = false ∧ vlt v x = true) →
    scutageref09_Losses_Add.l1 o n e (A ++ x :: B) (i, out, false) = some (true, out ++ (A ++ ⟨x.Origin, x.Expiry, w64 (x.Left + n)⟩ :: B))
  | [], i, out, hl, _ => by
    rw [List.nil_append, radd_step o e n x B i out false (by simp at hl; omega), if_pos hx, radd_done o e n B _ _ (by simp at hl ⊢; omega) hB]
    simp
  | y :: A, i, out, hl, hA => by
    simp only [List.length_cons] at hl
    have hy := hA y (by simp)
    have hn : vlt (⟨o, e, n⟩ : api_Vintage) y = false := by
      have h2 := hy.2
      rw [vkey_t] at hx
      rw [vlt_t] at h2; rw [vlt_f]; simp only; omega
    rw [List.cons_append, radd_step o e n y _ i out false (by omega), if_neg (by simp [hy.1]), if_neg (by simp [hn]), radd_key o e n x hx B hB A _ _ (by simp; omega) fun v hv => hA v (List.mem_cons_of_mem _ hv)]
    simp
theorem rvAdd_ok {l : List api_Vintage} (h : VI l) (o e n : Int) : scutageref09_Losses_Add ⟨l⟩ o e n = some ((vAdd l o e n).1, ⟨(vAdd l o e n).2⟩) := by
  have hs := h.sum
  have hn := vsum_nn h.pos
  have hlen := h.len
  have hj : scutageref09_Losses_Add.j1 ⟨l⟩ n o e true = some (1, ⟨l⟩) := by unfold scutageref09_Losses_Add.j1; rw [if_pos rfl]
  unfold scutageref09_Losses_Add vAdd
  rw [ryear_ok, Option.bind_some]
  by_cases hR : VR o e ∧ 1 ≤ n ∧ n ≤ 100000000000
  · have hV := hR.1
    rw [VR_def] at hV
    rw [if_neg (by simp; omega), if_neg (by simp; omega), if_neg (by simp; omega), if_neg (by simp; omega), if_neg (not_not_intro hR), decide_eq_false (show ¬ n > 100000000000 by omega)]
    unfold scutageref09_Losses_Add.j1
    rw [if_neg (by simp)]
    show (scutageref09_Losses_Left ⟨l⟩).bind _ = _
    rw [rleft_ok h, Option.bind_some, w64_id (by omega) (by omega)]
    by_cases hO : vsum l + n > 100000000000
    · rw [if_pos (by simpa using hO), if_pos hO]
    · rw [if_neg (by simpa using hO), if_neg hO]
      show (scutageref09_Losses_Add.l1 o n e l (0, [], false)).bind _ = _
      rcases idx_cases (vkey o e) l 0 with ⟨A, x, B, rfl, hx, hA, hr⟩ | ⟨hA, hr⟩
      · have hB := (key_other h.srt hx).2
        have hxs : vsum (A ++ x :: B) = vsum A + (x.Left + vsum B) := by rw [vsum_app]; rfl
        have hxn := h.pos x (by simp)
        have hAn := vsum_nn (l := A) fun v hv => h.pos v (by simp [hv])
        have hBn := vsum_nn (l := B) fun v hv => h.pos v (by simp [hv])
        rw [radd_key o e n x hx B hB A 0 [] (by simp at hlen ⊢; omega) fun v hv => ⟨hA v hv, (List.pairwise_append.1 h.srt).2.2 v hv x (by simp)⟩, Option.bind_some, if_pos (by simp [hx]), List.nil_append, w64_id (by omega) (by omega)]
        show (if (!true) = true then _ else scutageref09_Losses_Add.j2 _ _) = _
        rw [if_neg (by simp), scutageref09_Losses_Add.j2, if_neg (by simp at hlen ⊢; omega)]
        rw [List.map_append, List.map_cons, vput_none hA, vput_none hB, vput, if_pos hx]
      · have hany : ¬ l.any (vkey o e) = true := by
          simp only [List.any_eq_true, not_exists, not_and]
          intro v hv; simp [hA v hv]
        rw [if_neg hany]
        obtain ⟨q, r, g1, g2, g3⟩ := radd_new o e n l 0 [] (by simp; omega) hA
        simp only [List.nil_append, List.length_nil, Nat.zero_add] at g2 g3
        rw [g1, Option.bind_some]
        have k2 : scutageref09_Losses_Add.j2 ⟨l⟩ (ins vlt ⟨o, e, n⟩ l) = some ((if l.length ≥ 12 then (5, l) else (0, ins vlt ⟨o, e, n⟩ l)).1, ⟨(if l.length ≥ 12 then ((5 : Int), l) else (0, ins vlt ⟨o, e, n⟩ l)).2⟩) := by
          unfold scutageref09_Losses_Add.j2
          rw [ins_len]
          by_cases hL : l.length ≥ 12
          · rw [if_pos (by simp; omega), if_pos hL]
          · rw [if_neg (by simp; omega), if_neg hL]
        show (if (!q) = true then gd _ (scutageref09_Losses_Add.j2 _ (r ++ [⟨o, e, n⟩])) else scutageref09_Losses_Add.j2 _ r) = _
        cases q with
        | true =>
          rw [if_pos rfl] at g2
          rw [if_neg (by simp), g2]; exact k2
        | false =>
          rw [if_neg (by simp)] at g2
          rw [if_pos (by simp), gd_true (fit_small (by simp; omega)), g2]; exact k2
  · rw [if_pos hR]
    by_cases h0 : 0 ≤ o ∧ o ≤ 99
    · rw [if_neg (by simp [h0])]
      by_cases h1 : e < o
      · rw [if_pos (by simpa using h1)]; exact hj
      rw [if_neg (by simpa using h1)]
      by_cases h2 : e > 198
      · rw [if_pos (by simpa using h2)]; exact hj
      rw [if_neg (by simpa using h2)]
      by_cases h3 : n < 1
      · rw [if_pos (by simpa using h3)]; exact hj
      have h4 : n > 100000000000 := by
        apply Classical.byContradiction
        intro h4
        exact hR ⟨by rw [VR_def]; omega, by omega, by omega⟩
      rw [if_neg (by simpa using h3), decide_eq_true h4]; exact hj
    · rw [if_pos (by simp; omega)]; exact hj

/-! ### Expire, Take -/
theorem rexp_loop (year : Int) : ∀ (ys : List api_Vintage) (i g : Int) (out : List api_Vintage), 0 ≤ g → g + vsum ys ≤ 1000000000000 → (∀ y ∈ ys, 1 ≤ y.Left) → out.length + ys.length ≤ 1000 →
    scutageref09_Losses_Expire.l1 year ys (i, g, out) = some (g + vGone ys year, out ++ vStay ys year)
  | [], i, g, out, _, _, _, _ => by simp [scutageref09_Losses_Expire.l1, vGone, vStay, vsum]
  | y :: ys, i, g, out, h0, h1, hp, hl => by
    have hy := hp y (by simp)
    have hn := vsum_nn (l := ys) fun v hv => hp v (List.mem_cons_of_mem _ hv)
    simp only [vsum] at h1
    simp only [List.length_cons] at hl
    have hp' : ∀ v ∈ ys, 1 ≤ v.Left := fun v hv => hp v (List.mem_cons_of_mem _ hv)
    rw [scutageref09_Losses_Expire.l1]
    by_cases hv : y.Expiry < year
    · have ho : over year y = true := by simpa [over] using hv
      rw [if_pos (by simpa using hv), scutageref09_Losses_Expire.j1, w64_id (by omega) (by omega), rexp_loop year ys _ _ _ (by omega) (by omega) hp' (by omega)]
      simp only [vGone, vStay, List.filter_cons, ho, if_true, vsum, Bool.not_true, Bool.false_eq_true, if_false]
      congr 2; omega
    · have ho : over year y = false := by simpa [over] using hv
      rw [if_neg (by simpa using hv), gd_true (fit_small (by simp; omega)), scutageref09_Losses_Expire.j1, rexp_loop year ys _ _ _ (by omega) (by omega) hp' (by simp; omega)]
      simp only [vGone, vStay, List.filter_cons, ho, Bool.not_false, if_true, Bool.false_eq_true, if_false, List.append_assoc, List.singleton_append]
theorem rexpire_ok {l : List api_Vintage} (h : VI l) (year : Int) : scutageref09_Losses_Expire ⟨l⟩ year = some (vGone l year, ⟨vStay l year⟩) := by
  have := h.sum; have := h.len
  rw [scutageref09_Losses_Expire, rexp_loop year l 0 0 [] (by omega) (by omega) h.pos (by simp; omega), Option.bind_some, Int.zero_add]; rfl
theorem rtake_loop (L : List api_Vintage) (used : List Int) : ∀ (us D : List Int) (ys : List api_Vintage) (out : List api_Vintage), used = D ++ us → us.length = ys.length → out.length + ys.length ≤ 1000 → (∀ v ∈ ys, 1 ≤ v.Left ∧ v.Left ≤ 1000000000000) →
    scutageref09_Losses_Take.l1 used ⟨L⟩ ys ((D.length : Int), out) = if tk ys us = true then some (.inr (out ++ (tkd ys us).filter fun v => !decide (v.Left = 0))) else some (.inl (1, ⟨L⟩))
  | [], D, ys, out, _, hl, _, _ => by
    have : ys = [] := List.eq_nil_of_length_eq_zero (by simpa using hl.symm)
    subst this; simp [scutageref09_Losses_Take.l1, tk, tkd]
  | u :: us, D, [], out, _, hl, _, _ => by simp at hl
  | u :: us, D, y :: ys, out, hu, hl, hb, hp => by
    simp only [List.length_cons] at hl hb
    have hy := hp y (by simp)
    have r : rd used (D.length : Int) = u := by rw [hu]; exact rd_mid D us u
    have hlen : (used.length : Int) = D.length + (us.length + 1) := by rw [hu]; simp
    have rec_ := fun out hb => rtake_loop L used us (D ++ [u]) ys out (by rw [hu]; simp) (by omega) hb fun v hv => hp v (List.mem_cons_of_mem _ hv)
    rw [show (((D ++ [u]).length : Nat) : Int) = (D.length : Int) + 1 by simp] at rec_
    rw [scutageref09_Losses_Take.l1, gd_true ⟨by omega, by omega⟩, r]
    by_cases h0 : u < 0
    · have : ¬ (0 ≤ u ∧ u ≤ y.Left) := by omega
      rw [if_pos (by simpa using h0), scutageref09_Losses_Take.j2, if_pos rfl, tk]; simp [this]
    · rw [if_neg (by simpa using h0), scutageref09_Losses_Take.j2, tk]
      by_cases h1 : u > y.Left
      · have : ¬ (0 ≤ u ∧ u ≤ y.Left) := by omega
        rw [if_pos (by simpa using h1)]; simp [this]
      · have hok : 0 ≤ u ∧ u ≤ y.Left := by omega
        rw [if_neg (by simpa using h1), gd_true ⟨by omega, by omega⟩, r, w64_id (by omega) (by omega), tkd, List.filter_cons]
        by_cases h2 : y.Left - u > 0
        · rw [if_pos (by simpa using h2), gd_true (fit_small (by simp; omega)), scutageref09_Losses_Take.j1, rec_ _ (by simp; omega), if_pos (show (!decide (y.Left - u = 0)) = true by simp; omega)]
          simp [hok]
        · rw [if_neg (by simpa using h2), scutageref09_Losses_Take.j1, rec_ _ (by omega), if_neg (show ¬ (!decide (y.Left - u = 0)) = true by simp; omega)]
          simp [hok]
theorem rtake_ok {l : List api_Vintage} (h : VI l) (used : List Int) : scutageref09_Losses_Take ⟨l⟩ used = some ((vTake l used).1, ⟨(vTake l used).2⟩) := by
  have hs := h.sum; have hlen := h.len
  unfold scutageref09_Losses_Take vTake
  by_cases hl : used.length = l.length
  · rw [if_neg (by simp; omega)]
    have h1 : scutageref09_Losses_Take.l1 used ⟨l⟩ l (0, []) = _ := rtake_loop l used used [] l [] rfl hl (by simp; omega) fun v hv => ⟨h.pos v hv, by have := vsum_mem h.pos v hv; omega⟩
    show (scutageref09_Losses_Take.l1 used ⟨l⟩ l (0, [])).bind _ = _
    rw [h1]
    by_cases ht : tk l used = true
    · rw [if_pos ht, Option.bind_some, if_neg (by simp [hl, ht]), List.nil_append]
    · rw [if_neg ht, Option.bind_some, if_pos (.inr (by simpa using ht))]
  · rw [if_pos (by simp; omega), if_pos (.inl hl)]
end Go.Proofs.Ytcmhekibcbpajaa
