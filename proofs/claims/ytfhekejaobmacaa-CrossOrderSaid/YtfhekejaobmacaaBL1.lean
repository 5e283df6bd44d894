/- What the printed functions of package slices come to, for slices of cross_Row. No program in it. -/
import Derived.Test.YtfhekejaobmacaaBM
import Derived.Test.YtfhekejaobmacaaCore10
set_option linter.unusedVariables false
set_option linter.unusedSimpArgs false
namespace Go.Proofs.Ytfhekejaobmacaa
open Go

section
variable {lt : cross_Row → cross_Row → Bool} {cmp : (cross_Row × cross_Row) → Option Int}
theorem ins_loop_cross_Row (o : Ord lt) (hc : ∀ x y, ∃ r, cmp (x, y) = some r ∧ decide (r < 0) = lt x y) : ∀ (fuel : Nat) (A B : List cross_Row) (x : cross_Row), A.length < fuel → A.length + B.length ≤ 1000 → Le lt A →
    ∃ A1 A2, A = A1 ++ A2 ∧ slices_insertionSortCmpFunc_cross_Row.l2 0 cmp fuel (A ++ x :: B, (A.length : Int)) = some (A1 ++ x :: (A2 ++ B)) ∧ (∀ z ∈ A1, lt x z = false) ∧ ∀ z ∈ A2, lt x z = true
  | 0, A, B, x, h, _, _ => by omega
  | fuel + 1, A, B, x, hf, hl, hA => by
    rcases List.eq_nil_or_concat A with rfl | ⟨A', z, rfl⟩
    · refine ⟨[], [], rfl, ?_, by simp, by simp⟩
      rw [slices_insertionSortCmpFunc_cross_Row.l2, if_neg (by simp), slices_insertionSortCmpFunc_cross_Row.j1, if_neg (by simp)]; rfl
    · rw [List.concat_eq_append] at *
      simp only [List.length_append, List.length_singleton] at hf hl
      have e0 : ((A' ++ [z]).length : Int) = (A'.length : Int) + 1 := by simp
      have e1 : (A' ++ [z]) ++ x :: B = A' ++ z :: x :: B := by simp
      have hv : w64 ((A'.length : Int) + 1 - 1) = (A'.length : Int) := by rw [w64_id (by omega) (by omega)]; omega
      have r1 : rd (A' ++ z :: x :: B) ((A'.length : Int) + 1) = x := by
        have := rd_mid (A' ++ [z]) B x
        rw [e0] at this; rw [← e1]; exact this
      have r2 : rd (A' ++ z :: x :: B) (A'.length : Int) = z := rd_mid A' (x :: B) z
      obtain ⟨r, hr, hlt⟩ := hc x z
      rw [slices_insertionSortCmpFunc_cross_Row.l2, e0, e1, if_pos (by simp <;> omega), gd_true (by simp <;> omega), hv, gd_true (by simp <;> omega), r1, r2, hr, Option.bind_some, hlt]
      by_cases h : lt x z = true
      · have s1 : (A' ++ z :: x :: B).set (Int.toNat ((A'.length : Int) + 1)) z = A' ++ z :: z :: B := by
          have := set_mid (A' ++ [z]) B x z
          rw [e0] at this; rw [← e1, this]; simp
        have s2 : (A' ++ z :: z :: B).set (Int.toNat (A'.length : Int)) x = A' ++ x :: z :: B := set_mid A' (z :: B) z x
        rw [h, slices_insertionSortCmpFunc_cross_Row.j1, if_pos rfl, hv, gd_true (by simp; omega), gd_true (by simp; omega), r1, r2, s1, gd_true (by simp; omega), s2]
        have hA' : Le lt A' := (List.pairwise_append.1 hA).1
        obtain ⟨A1, A2, h1, h2, h3, h4⟩ := ins_loop_cross_Row o hc fuel A' (z :: B) x (by omega) (by simp; omega) hA'
        refine ⟨A1, A2 ++ [z], by rw [h1, List.append_assoc], ?_, h3, fun q hq => ?_⟩
        · rw [h2]; simp
        · rcases List.mem_append.1 hq with hq | hq
          · exact h4 q hq
          · simp at hq; subst hq; exact h
      · have h' : lt x z = false := by simpa using h
        refine ⟨A' ++ [z], [], by simp, ?_, fun q hq => ?_, by simp⟩
        · rw [h', slices_insertionSortCmpFunc_cross_Row.j1, if_neg (by simp)]; simp
        · rcases List.mem_append.1 hq with hq | hq
          · exact o.neg x z q h' ((List.pairwise_append.1 hA).2.2 q hq z (by simp))
          · simp at hq; subst hq; exact h'
theorem sort_loop_cross_Row (o : Ord lt) (hc : ∀ x y, ∃ r, cmp (x, y) = some r ∧ decide (r < 0) = lt x y) : ∀ (Q P : List cross_Row) (fuel : Nat), Q.length < fuel → P.length + Q.length ≤ 1000 → Le lt P →
    ∃ S, slices_insertionSortCmpFunc_cross_Row.l1 ((P ++ Q).length : Int) 0 cmp fuel (P ++ Q, (P.length : Int)) = some S ∧ S.Perm (P ++ Q) ∧ Le lt S
  | [], P, 0, h, _, _ => by simp at h
  | q :: Q, P, 0, h, _, _ => by simp at h
  | [], P, fuel + 1, _, _, hP => by
    refine ⟨P, ?_, by simp, hP⟩
    rw [slices_insertionSortCmpFunc_cross_Row.l1, if_neg (by simp)]; simp
  | q :: Q, P, fuel + 1, hf, hl, hP => by
    simp only [List.length_cons] at hf hl
    obtain ⟨A1, A2, h1, h2, h3, h4⟩ := ins_loop_cross_Row o hc FUEL P Q q (by simp only [FUEL]; omega) (by omega) hP
    have hP2 : Le lt (A1 ++ q :: A2) := by
      rw [h1] at hP
      obtain ⟨g1, g2, g3⟩ := List.pairwise_append.1 hP
      refine List.pairwise_append.2 ⟨g1, List.pairwise_cons.2 ⟨fun z hz => o.asymm (h4 z hz), g2⟩, fun a ha b hb => ?_⟩
      rcases List.mem_cons.1 hb with rfl | hb
      · exact h3 a ha
      · exact g3 a ha b hb
    have hlen : (A1 ++ q :: A2).length = P.length + 1 := by rw [h1]; simp; omega
    obtain ⟨S, k1, k2, k3⟩ := sort_loop_cross_Row o hc Q (A1 ++ q :: A2) fuel (by omega) (by omega) hP2
    have hperm : (A1 ++ q :: A2 ++ Q).Perm (P ++ q :: Q) := by
      rw [h1]
      have a1 : (A1 ++ q :: A2 ++ Q).Perm (q :: (A1 ++ A2 ++ Q)) := by
        simp only [List.append_assoc, List.cons_append]; exact List.perm_middle
      exact a1.trans List.perm_middle.symm
    refine ⟨S, ?_, k2.trans hperm, k3⟩
    rw [slices_insertionSortCmpFunc_cross_Row.l1, if_pos (by simp; omega), h2, Option.bind_some, w64_id (by omega) (by omega)]
    have e : A1 ++ q :: (A2 ++ Q) = (A1 ++ q :: A2) ++ Q := by simp
    rw [e, ← hperm.length_eq, show ((P.length : Int) + 1) = ((A1 ++ q :: A2).length : Int) by rw [hlen]; simp]
    exact k1
theorem isort_cross_Row (o : Ord lt) (hc : ∀ x y, ∃ r, cmp (x, y) = some r ∧ decide (r < 0) = lt x y) (L : List cross_Row) (h : L.length ≤ 1000) : ∃ S, slices_insertionSortCmpFunc_cross_Row L 0 (L.length : Int) cmp = some S ∧ S.Perm L ∧ Le lt S := by
  unfold slices_insertionSortCmpFunc_cross_Row
  rw [show w64 (0 + 1) = 1 from by decide]
  cases L with
  | nil => exact ⟨[], by rw [show FUEL = 4611686018427387903 + 1 from rfl, slices_insertionSortCmpFunc_cross_Row.l1, if_neg (by simp)]; rfl, List.Perm.refl _, List.Pairwise.nil⟩
  | cons x L =>
    obtain ⟨S, h1, h2, h3⟩ := sort_loop_cross_Row o hc L [x] FUEL (by simp at h; simp only [FUEL]; omega) (by simp at h ⊢; omega) (List.pairwise_singleton _ _)
    exact ⟨S, by
      have h1' : slices_insertionSortCmpFunc_cross_Row.l1 ((x :: L).length : Int) 0 cmp FUEL (x :: L, 1) = some S := h1
      rw [h1']; rfl, h2, h3⟩
set_option maxRecDepth 100000 in
theorem bits_cross_Row (n : Nat) (h : n < 256) : ∃ r, math_bits_Len (IntKind.u64.wrap (n : Int)) = some r := by
  have e1 : IntKind.u64.wrap (n : Int) = (n : Int) := by simp [IntKind.wrap, IntKind.min, IntKind.max, IntKind.signed, IntKind.bits]; omega
  have e2 : IntKind.u8.wrap (n : Int) = (n : Int) := by simp [IntKind.wrap, IntKind.min, IntKind.max, IntKind.signed, IntKind.bits]; omega
  rw [e1, math_bits_Len, math_bits_Len64, if_neg (by simp; omega), if_neg (by simp; omega), if_neg (by simp; omega), e2]
  rw [gd_true ⟨by omega, by
    have hn : (n : Int) < 256 := by omega
    exact hn⟩]
  exact ⟨_, rfl⟩
theorem sortFunc_cross_Row (o : Ord lt) (hc : ∀ x y, ∃ r, cmp (x, y) = some r ∧ decide (r < 0) = lt x y) (L : List cross_Row) (h : L.length ≤ 12) : ∃ S, slices_SortFunc_cross_Row L cmp = some S ∧ S.Perm L ∧ Le lt S := by
  obtain ⟨r, hr⟩ := bits_cross_Row L.length (by omega)
  obtain ⟨S, h1, h2, h3⟩ := isort_cross_Row o hc L (by omega)
  refine ⟨S, ?_, h2, h3⟩
  rw [slices_SortFunc_cross_Row, hr, Option.bind_some, slices_pdqsortCmpFunc_cross_Row, show FUEL = 4611686018427387903 + 1 from rfl, slices_pdqsortCmpFunc_cross_Row.l1, w64_id (by omega) (by omega), if_pos (by simp; omega), h1]
  rfl
end
theorem indexl_cross_Row {f : cross_Row → Option Bool} {p : cross_Row → Bool} : ∀ (ys : List cross_Row) (i : Int), (∀ x ∈ ys, f x = some (p x)) →
    slices_IndexFunc_cross_Row.l1 f ys i = if idx p ys i = -1 ∧ (∀ z ∈ ys, p z = false) then some (.inr ()) else some (.inl (idx p ys i))
  | [], i, _ => by simp [slices_IndexFunc_cross_Row.l1, idx]
  | y :: ys, i, h => by
    rw [slices_IndexFunc_cross_Row.l1, h y (by simp), Option.bind_some]
    by_cases hy : p y = true
    · rw [if_pos hy, if_neg (by simp [hy]), idx, if_pos hy]
    · rw [if_neg hy, indexl_cross_Row ys _ (fun x hx => h x (List.mem_cons_of_mem _ hx)), idx, if_neg hy]
      simp [show p y = false by simpa using hy]
theorem index_cross_Row {f : cross_Row → Option Bool} {p : cross_Row → Bool} (l : List cross_Row) (h : ∀ x ∈ l, f x = some (p x)) : slices_IndexFunc_cross_Row l f = some (idx p l 0) := by
  rw [slices_IndexFunc_cross_Row, indexl_cross_Row l 0 h]
  by_cases hn : idx p l 0 = -1 ∧ ∀ z ∈ l, p z = false
  · rw [if_pos hn, hn.1]; rfl
  · rw [if_neg hn]; rfl
theorem deletel_cross_Row {f : cross_Row → Option Bool} {p : cross_Row → Bool} (s : List cross_Row) (hs : s.length ≤ 1000) : ∀ (fuel : Nat) (F M R : List cross_Row), (∀ x ∈ R, f x = some (p x)) → M ≠ [] → F.length + M.length + R.length = s.length → R.length < fuel →
    ∃ M', slices_DeleteFunc_cross_Row.l1 s f fuel (F ++ M ++ R, (F.length : Int), (F.length : Int) + (M.length : Int)) = some (((F ++ R.filter fun x => !p x).length : Int), (F ++ R.filter fun x => !p x) ++ M') ∧ (F ++ R.filter fun x => !p x).length + M'.length = s.length
  | 0, F, M, R, _, _, _, h => by omega
  | fuel + 1, F, M, [], hf, hM, hl, hfu => by
    simp only [List.length_nil] at hl
    refine ⟨M, ?_, by simp; omega⟩
    rw [slices_DeleteFunc_cross_Row.l1, if_neg (by simp; omega)]; simp
  | fuel + 1, F, [], x :: R, _, h, _, _ => absurd rfl h
  | fuel + 1, F, m :: M, x :: R, hf, hM, hl, hfu => by
    simp only [List.length_cons] at hl hfu
    have r1 : rd (F ++ m :: M ++ x :: R) ((F.length : Int) + ((m :: M).length : Int)) = x := by
      have e : (F.length : Int) + ((m :: M).length : Int) = ((F ++ m :: M).length : Int) := by simp
      rw [e]; exact rd_mid (F ++ m :: M) R x
    have hx := hf x (by simp)
    rw [slices_DeleteFunc_cross_Row.l1, if_pos (by simp; omega), gd_true (by simp; omega), r1, hx, Option.bind_some]
    by_cases hp : p x = true
    · rw [if_neg (by simp [hp]), slices_DeleteFunc_cross_Row.j1, w64_id (by simp; omega) (by simp; omega)]
      obtain ⟨M', h1, h2⟩ := deletel_cross_Row s hs fuel F (m :: M ++ [x]) R (fun y hy => hf y (List.mem_cons_of_mem _ hy)) (by simp) (by simp; omega) (by omega)
      refine ⟨M', ?_, ?_⟩
      · have e : (F ++ m :: M ++ x :: R, (F.length : Int), (F.length : Int) + ((m :: M).length : Int) + 1) = (F ++ (m :: M ++ [x]) ++ R, (F.length : Int), (F.length : Int) + ((m :: M ++ [x]).length : Int)) := by
          simp; omega
        rw [e, h1]; simp [List.filter_cons, hp]
      · simpa [List.filter_cons, hp] using h2
    · have hp' : p x = false := by simpa using hp
      have s1 : (F ++ m :: M ++ x :: R).set (Int.toNat (F.length : Int)) x = (F ++ [x]) ++ (M ++ [x]) ++ R := by
        rw [List.append_assoc, List.cons_append, set_mid]; simp
      rw [if_pos (by simp [hp']), gd_true (by simp; omega), slices_DeleteFunc_cross_Row.j1, s1, w64_id (by omega) (by omega), w64_id (by simp; omega) (by simp; omega)]
      obtain ⟨M', h1, h2⟩ := deletel_cross_Row s hs fuel (F ++ [x]) (M ++ [x]) R (fun y hy => hf y (List.mem_cons_of_mem _ hy)) (by simp) (by simp; omega) (by omega)
      refine ⟨M', ?_, ?_⟩
      · have e : ((F ++ [x]) ++ (M ++ [x]) ++ R, (F.length : Int) + 1, (F.length : Int) + ((m :: M).length : Int) + 1) = ((F ++ [x]) ++ (M ++ [x]) ++ R, ((F ++ [x]).length : Int), ((F ++ [x]).length : Int) + ((M ++ [x]).length : Int)) := by
          simp; omega
        rw [e, h1]; simp [List.filter_cons, hp']
      · simpa [List.filter_cons, hp'] using h2
theorem delete_cross_Row {f : cross_Row → Option Bool} {p : cross_Row → Bool} (s : List cross_Row) (hs : s.length ≤ 1000) (h : ∀ x ∈ s, f x = some (p x)) : slices_DeleteFunc_cross_Row s f = some (s.filter fun x => !p x) := by
  rw [slices_DeleteFunc_cross_Row, index_cross_Row s h, Option.bind_some]
  rcases idx_cases p s 0 with ⟨A, x, B, e, hx, hA, hr⟩ | ⟨hA, hr⟩
  · rw [hr, Int.zero_add, if_neg (by simp <;> omega)]
    subst e
    obtain ⟨M', h1, h2⟩ := deletel_cross_Row (A ++ x :: B) hs FUEL A [x] B (fun y hy => h y (by simp [hy])) (by simp) (by simp; omega) (by simp at hs; simp only [FUEL]; omega)
    rw [List.append_assoc, List.singleton_append] at h1
    have e1 : w64 ((A.length : Int) + 1) = (A.length : Int) + (([x] : List cross_Row).length : Int) := by
      simp at hs; rw [w64_id (by omega) (by omega)]; simp
    rw [e1, h1, Option.bind_some]
    have hlen : ((A ++ B.filter fun x => !p x).length : Int) ≤ (((A ++ B.filter fun x => !p x) ++ M').length : Int) := by rw [List.length_append (as := A ++ B.filter fun x => !p x)]; omega
    have hc : (clr ((A ++ B.filter fun x => !p x) ++ M') ((A ++ B.filter fun x => !p x).length : Int) (⟨(⟨#[]⟩ : ByteArray), (⟨#[]⟩ : ByteArray), 0⟩ : cross_Row)).length = ((A ++ B.filter fun x => !p x) ++ M').length := clr_len hlen
    show gd _ (gd _ _) = _
    rw [gd_true ⟨by omega, hlen, by omega⟩, gd_true ⟨by omega, by omega, by rw [hc]; exact hlen⟩]
    have e2 : sb (clr ((A ++ B.filter fun x => !p x) ++ M') ((A ++ B.filter fun x => !p x).length : Int) (⟨(⟨#[]⟩ : ByteArray), (⟨#[]⟩ : ByteArray), 0⟩ : cross_Row)) (0 : Int) ((A ++ B.filter fun x => !p x).length : Int) = A ++ B.filter fun x => !p x := by
      simp only [clr, Int.toNat_natCast, List.take_left']
      exact sb_app _ _
    rw [e2, List.filter_append, List.filter_cons, filter_none hA, hx]; rfl
  · rw [hr, if_pos (by simp), filter_none hA]
theorem clone_cross_Row (l : List cross_Row) (h : l.length ≤ 100000) : slices_Clone_cross_Row l = some l := by
  rw [slices_Clone_cross_Row, gd_true (fit_small (by simp; omega))]; rfl
theorem samel_cross_Row (a : List cross_Row) (ha : a.length ≤ 100000) : ∀ (fuel : Nat) (v : Int), 0 ≤ v → (a.length - v).toNat < fuel → scutagekeep_Same_cross_Row.l1 a a fuel v = some (.inr ())
  | 0, v, _, h => by omega
  | fuel + 1, v, h0, hf => by
    rw [scutagekeep_Same_cross_Row.l1]
    by_cases h1 : v < (a.length : Int)
    · rw [if_pos (by simpa using h1), gd_true ⟨h0, h1⟩, gd_true ⟨h0, h1⟩, if_neg (by simp), w64_id (by omega) (by omega)]
      exact samel_cross_Row a ha fuel _ (by omega) (by omega)
    · rw [if_neg (by simpa using h1)]
theorem same_cross_Row (a : List cross_Row) (ha : a.length ≤ 100000) : scutagekeep_Same_cross_Row a a = some true := by
  rw [scutagekeep_Same_cross_Row, if_neg (by simp), samel_cross_Row a ha FUEL 0 (by omega) (by simp only [FUEL]; omega)]; rfl
end Go.Proofs.Ytfhekejaobmacaa
