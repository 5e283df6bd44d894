/- The plain law of FxTells: sorting, and the whole. No program in it. -/
import Derived.Test.YtfoefkihcnenaaaEN
set_option linter.unusedVariables false
set_option linter.unusedSimpArgs false
namespace Go.Proofs.Ytfoefkihcnenaaa
open Go

def cm : (api_Item × api_Item) → Option Int := fun x => fx_Add_c2 x.1 x.2
theorem cm_ok (x y : api_Item) : cm (x, y) = some (if x.Kind < y.Kind then -1 else if x.Kind > y.Kind then 1 else 0) := by
  simp only [cm, fx_Add_c2, cmp_Compare_int, cmp_isNaN_int, Option.bind_some]
  rw [if_neg (by simp), if_neg (by simp)]
  by_cases h : x.Kind < y.Kind
  · simp [h]
  · by_cases h2 : x.Kind > y.Kind <;> simp [h, h2]
def Le (S : List api_Item) : Prop := S.Pairwise (fun a b => a.Kind ≤ b.Kind)
theorem ins_loop : ∀ (fuel : Nat) (A B : List api_Item) (x : api_Item), A.length < fuel → A.length + B.length ≤ 1000 → Le A →
    ∃ A1 A2, A = A1 ++ A2 ∧ slices_insertionSortCmpFunc_api_Item.l2 0 cm fuel (A ++ x :: B, (A.length : Int)) = some (A1 ++ x :: (A2 ++ B)) ∧ (∀ z ∈ A1, z.Kind ≤ x.Kind) ∧ ∀ z ∈ A2, x.Kind < z.Kind
  | 0, A, B, x, h, _, _ => by omega
  | fuel + 1, A, B, x, hf, hl, hA => by
    rcases List.eq_nil_or_concat A with rfl | ⟨A', z, rfl⟩
    · refine ⟨[], [], rfl, ?_, by simp, by simp⟩
      rw [slices_insertionSortCmpFunc_api_Item.l2, if_neg (by simp), slices_insertionSortCmpFunc_api_Item.j1, if_neg (by simp)]; rfl
    · rw [List.concat_eq_append] at *
      simp only [List.length_append, List.length_singleton] at hf hl
      have e0 : ((A' ++ [z]).length : Int) = (A'.length : Int) + 1 := by simp
      have e1 : (A' ++ [z]) ++ x :: B = A' ++ z :: x :: B := by simp
      have hv : w64 ((A'.length : Int) + 1 - 1) = (A'.length : Int) := by rw [w64_id (by omega) (by omega)]; omega
      have r1 : rd (A' ++ z :: x :: B) ((A'.length : Int) + 1) = x := by
        have := rd_mid (A' ++ [z]) B x
        rw [e0] at this; rw [← e1]; exact this
      have r2 : rd (A' ++ z :: x :: B) (A'.length : Int) = z := rd_mid A' (x :: B) z
      rw [slices_insertionSortCmpFunc_api_Item.l2, e0, e1, if_pos (by simp <;> omega), gd_true (by simp <;> omega), hv, gd_true (by simp <;> omega), r1, r2, cm_ok, Option.bind_some]
      by_cases h : x.Kind < z.Kind
      · have s1 : (A' ++ z :: x :: B).set (Int.toNat ((A'.length : Int) + 1)) z = A' ++ z :: z :: B := by
          have := set_mid (A' ++ [z]) B x z
          rw [e0] at this; rw [← e1, this]; simp
        have s2 : (A' ++ z :: z :: B).set (Int.toNat (A'.length : Int)) x = A' ++ x :: z :: B := set_mid A' (z :: B) z x
        rw [if_pos h, slices_insertionSortCmpFunc_api_Item.j1, if_pos (by simp), hv, gd_true (by simp; omega), gd_true (by simp; omega), r1, r2, s1, gd_true (by simp; omega), s2]
        have hA' : Le A' := (List.pairwise_append.1 hA).1
        obtain ⟨A1, A2, h1, h2, h3, h4⟩ := ins_loop fuel A' (z :: B) x (by omega) (by simp; omega) hA'
        refine ⟨A1, A2 ++ [z], by rw [h1, List.append_assoc], ?_, h3, fun q hq => ?_⟩
        · rw [h2]; simp
        · rcases List.mem_append.1 hq with hq | hq
          · exact h4 q hq
          · simp at hq; subst hq; exact h
      · refine ⟨A' ++ [z], [], by simp, ?_, fun q hq => ?_, by simp⟩
        · rw [if_neg h, slices_insertionSortCmpFunc_api_Item.j1, if_neg (by split <;> simp)]; simp
        · rcases List.mem_append.1 hq with hq | hq
          · have := (List.pairwise_append.1 hA).2.2 q hq z (by simp); omega
          · simp at hq; subst hq; omega
theorem sort_loop : ∀ (Q P : List api_Item) (fuel : Nat), Q.length < fuel → P.length + Q.length ≤ 1000 → Le P →
    ∃ S, slices_insertionSortCmpFunc_api_Item.l1 ((P ++ Q).length : Int) 0 cm fuel (P ++ Q, (P.length : Int)) = some S ∧ S.Perm (P ++ Q) ∧ Le S
  | [], P, 0, h, _, _ => by simp at h
  | q :: Q, P, 0, h, _, _ => by simp at h
  | [], P, fuel + 1, _, _, hP => by
    refine ⟨P, ?_, by simp, hP⟩
    rw [slices_insertionSortCmpFunc_api_Item.l1, if_neg (by simp)]; simp
  | q :: Q, P, fuel + 1, hf, hl, hP => by
    simp only [List.length_cons] at hf hl
    obtain ⟨A1, A2, h1, h2, h3, h4⟩ := ins_loop FUEL P Q q (by simp only [FUEL]; omega) (by omega) hP
    have hP2 : Le (A1 ++ q :: A2) := by
      rw [h1] at hP
      obtain ⟨g1, g2, g3⟩ := List.pairwise_append.1 hP
      refine List.pairwise_append.2 ⟨g1, List.pairwise_cons.2 ⟨fun z hz => by have := h4 z hz; omega, g2⟩, fun a ha b hb => ?_⟩
      rcases List.mem_cons.1 hb with rfl | hb
      · exact h3 a ha
      · exact g3 a ha b hb
    have hlen : (A1 ++ q :: A2).length = P.length + 1 := by rw [h1]; simp; omega
    obtain ⟨S, k1, k2, k3⟩ := sort_loop Q (A1 ++ q :: A2) fuel (by omega) (by omega) hP2
    have hperm : (A1 ++ q :: A2 ++ Q).Perm (P ++ q :: Q) := by
      rw [h1]
      have a1 : (A1 ++ q :: A2 ++ Q).Perm (q :: (A1 ++ A2 ++ Q)) := by
        simp only [List.append_assoc, List.cons_append]; exact List.perm_middle
      exact a1.trans List.perm_middle.symm
    refine ⟨S, ?_, k2.trans hperm, k3⟩
    rw [slices_insertionSortCmpFunc_api_Item.l1, if_pos (by simp; omega), h2, Option.bind_some, w64_id (by omega) (by omega)]
    have e : A1 ++ q :: (A2 ++ Q) = (A1 ++ q :: A2) ++ Q := by simp
    rw [e, ← hperm.length_eq, show ((P.length : Int) + 1) = ((A1 ++ q :: A2).length : Int) by rw [hlen]; simp]
    exact k1
theorem isort_ok (L : List api_Item) (h : L.length ≤ 1000) : ∃ S, slices_insertionSortCmpFunc_api_Item L 0 (L.length : Int) cm = some S ∧ S.Perm L ∧ Le S := by
  unfold slices_insertionSortCmpFunc_api_Item
  rw [show w64 (0 + 1) = 1 from by decide]
  cases L with
  | nil => exact ⟨[], by rw [show FUEL = 4611686018427387903 + 1 from rfl, slices_insertionSortCmpFunc_api_Item.l1, if_neg (by simp)]; rfl, List.Perm.refl _, List.Pairwise.nil⟩
  | cons x L =>
    obtain ⟨S, h1, h2, h3⟩ := sort_loop L [x] FUEL (by simp at h; simp only [FUEL]; omega) (by simp at h ⊢; omega) (List.pairwise_singleton _ _)
    exact ⟨S, by
      have h1' : slices_insertionSortCmpFunc_api_Item.l1 ((x :: L).length : Int) 0 cm FUEL (x :: L, 1) = some S := h1
      rw [h1']; rfl, h2, h3⟩
set_option maxRecDepth 100000 in
theorem bits_ok (n : Nat) (h : n < 256) : ∃ r, math_bits_Len (IntKind.u64.wrap (n : Int)) = some r := by
  have e1 : IntKind.u64.wrap (n : Int) = (n : Int) := by simp [IntKind.wrap, IntKind.min, IntKind.max, IntKind.signed, IntKind.bits]; omega
  have e2 : IntKind.u8.wrap (n : Int) = (n : Int) := by simp [IntKind.wrap, IntKind.min, IntKind.max, IntKind.signed, IntKind.bits]; omega
  rw [e1, math_bits_Len, math_bits_Len64, if_neg (by simp; omega), if_neg (by simp; omega), if_neg (by simp; omega), e2]
  rw [gd_true ⟨by omega, by
    have hn : (n : Int) < 256 := by omega
    exact hn⟩]
  exact ⟨_, rfl⟩
theorem sortFunc_ok (L : List api_Item) (h : L.length ≤ 12) : ∃ S, slices_SortFunc_api_Item L (fun x => fx_Add_c2 x.1 x.2) = some S ∧ S.Perm L ∧ Le S := by
  obtain ⟨r, hr⟩ := bits_ok L.length (by omega)
  obtain ⟨S, h1, h2, h3⟩ := isort_ok L (by omega)
  refine ⟨S, ?_, h2, h3⟩
  have h1' : slices_insertionSortCmpFunc_api_Item L 0 (L.length : Int) (fun x => fx_Add_c2 x.1 x.2) = some S := h1
  rw [slices_SortFunc_api_Item, hr, Option.bind_some, slices_pdqsortCmpFunc_api_Item, show FUEL = 4611686018427387903 + 1 from rfl, slices_pdqsortCmpFunc_api_Item.l1, w64_id (by omega) (by omega), if_pos (by simp; omega), h1']
  rfl
theorem sorted_eq : ∀ {S R : List api_Item}, Le S → Srt R → S.Perm R → S = R
  | [], R, _, _, p => by rw [List.nil_perm.1 p]
  | s :: S, [], _, _, p => by have := p.length_eq; simp at this
  | s :: S, r :: R, hS, hR, p => by
    have hs : s ∈ r :: R := p.mem_iff.1 (by simp)
    have hr : r ∈ s :: S := p.mem_iff.2 (by simp)
    have e : s = r := by
      refine hR.dst.eq hs (by simp) ?_
      rcases List.mem_cons.1 hs with h | h
      · rw [h]
      · rcases List.mem_cons.1 hr with h2 | h2
        · rw [h2]
        · have := (List.pairwise_cons.1 hR).1 s h
          have := (List.pairwise_cons.1 hS).1 r h2
          omega
    subst e
    rw [sorted_eq (List.pairwise_cons.1 hS).2 (List.pairwise_cons.1 hR).2 ((List.perm_cons s).1 p)]
theorem grow_ok (n : Int) (h0 : 0 ≤ n) (h1 : n ≤ 1000) : slices_Grow_api_Item_nil0 n = some [] := by
  unfold slices_Grow_api_Item_nil0 slices_Grow_api_Item_nil0.j1
  rw [if_neg (by simp; omega), Int.sub_zero, w64_id (by omega) (by omega)]
  by_cases h : n > 0
  · rw [if_pos (by simpa using h), gd_true ⟨h0, fit_small (by omega)⟩, gd_true (by simp; omega)]
    simp [sb]
  · rw [if_neg (by simpa using h)]
theorem concat_ok (a b : List api_Item) (ha : a.length ≤ 100) (hb : b.length ≤ 100) : slices_Concat_api_Item_elems0 a b = some (a ++ b) := by
  unfold slices_Concat_api_Item_elems0
  rw [Int.zero_add, w64_id (x := (a.length : Int)) (by omega) (by omega), w64_id (by omega) (by omega), if_neg (by simp), if_neg (by simp; omega), grow_ok _ (by omega) (by omega), Option.bind_some, gd_true (fit_small (by simp; omega)), gd_true (fit_small (by simp; omega))]
  rfl
theorem add_eq (a b : List api_Item) (ha : a.length ≤ 50) (hb : b.length ≤ 50) (h1 : Bnd 1 a) (h2 : Bnd 1 b) : ∃ R, fx_Add a b = some R ∧ scutageref19_AddItems a b = some R ∧ R.length ≤ 9 ∧ Srt R ∧ Bnd (a.length + b.length) R := by
  obtain ⟨L, R, p, hs, hbd, g1, g2⟩ := add_loop (a ++ b) 0 [] [] 0 0 (by simp; omega) (fun x hx => by
    rcases List.mem_append.1 hx with h | h
    · exact h1 x h
    · exact h2 x h) (List.Perm.refl _) List.Pairwise.nil (by intro x hx; cases hx)
  have hlen : (R.length : Int) ≤ 9 - 0 := hs.len (fun x hx => (hbd x hx).2) (by omega)
  have hl2 := p.length_eq
  obtain ⟨S, k1, k2, k3⟩ := sortFunc_ok L (by omega)
  have e := sorted_eq k3 hs (k2.trans p)
  subst e
  refine ⟨S, ?_, ?_, by omega, hs, by simpa using hbd⟩
  · rw [fx_Add, concat_ok a b (by omega) (by omega), Option.bind_some, g1, Option.bind_some, k1]; rfl
  · rw [scutageref19_AddItems, gd_true (fit_small (by simp; omega)), gd_true (fit_small (by simp; omega)), List.nil_append, g2]; rfl
theorem md_bnd (l : List api_Item) (h : ∀ x ∈ l, 0 ≤ x.Kind ∧ x.Kind < 9) : Bnd 1 (l.map md) := by
  intro x hx
  obtain ⟨y, hy, rfl⟩ := List.mem_map.1 hx
  have := md_bound y
  have := h y hy
  simp only [md] at *
  omega
theorem tells_j2 (a b : List api_Item) (ha : a.length ≤ 22) (hb : b.length ≤ 22) (h1 : ∀ x ∈ a, 0 ≤ x.Kind ∧ x.Kind < 9) (h2 : ∀ x ∈ b, 0 ≤ x.Kind ∧ x.Kind < 9) : scutagelaw25_FxTells.j2 a b false = some true := by
  have m1 := md_loop1 a []
  have m2 := md_loop2 b []
  simp only [List.length_nil, List.nil_append] at m1 m2
  obtain ⟨R, r1, r2, r3, _⟩ := add_eq (a.map md) (b.map md) (by simp; omega) (by simp; omega) (md_bnd a h1) (md_bnd b h2)
  rw [scutagelaw25_FxTells.j2, if_neg (by simp)]
  have m1' : scutagelaw25_FxTells.l1 a (0, a) = some (a.map md) := m1
  have m2' : scutagelaw25_FxTells.l2 b (0, b) = some (b.map md) := m2
  rw [m1', Option.bind_some, m2', Option.bind_some, r1, Option.bind_some, r2, Option.bind_some, same_self R (by omega), Option.bind_some, if_pos rfl, wakes_ok]
  rfl
theorem tells_j1 (a b : List api_Item) (r : Int) (ha : a.length ≤ 22) (hb : b.length ≤ 22) (h1 : ∀ x ∈ a, 0 ≤ x.Kind ∧ x.Kind < 9) (h2 : ∀ x ∈ b, 0 ≤ x.Kind ∧ x.Kind < 9) : scutagelaw25_FxTells.j1 a b r = some true := by
  obtain ⟨l, d, e, c1, c2, c3⟩ := convert_eq a r
  rw [scutagelaw25_FxTells.j1, copy_ok a (by omega), Option.bind_some, c1, c2]
  simp only [Option.bind_some]
  show (scutagekeep_Same_api_Item l l).bind _ = _
  rw [same_self l (by omega), Option.bind_some, if_neg (by simp), if_neg (by simp), if_neg (by simp), same_self a (by omega), Option.bind_some]
  exact tells_j2 a b ha hb h1 h2
theorem FxTells_true (kinds amounts other : List Int) (rate : Int) (raw : Bool) : scutagelaw25_FxTells kinds amounts other rate raw = some true := by
  obtain ⟨a, a1, a2, a3⟩ := items_ok kinds amounts 22 (by omega) (by omega)
  obtain ⟨b, b1, b2, b3⟩ := items_ok other amounts 9 (by omega) (by omega)
  rw [scutagelaw25_FxTells, a1, Option.bind_some, b1, Option.bind_some]
  cases raw
  · rw [if_pos (show (!false) = true from rfl)]
    obtain ⟨k, k1, _⟩ := within_ok rate 20000000 (by omega) (by omega)
    rw [k1, Option.bind_some]
    exact tells_j1 a b _ (by omega) (by omega) a3 b3
  · rw [if_neg (by simp)]
    exact tells_j1 a b _ (by omega) (by omega) a3 b3
end Go.Proofs.Ytfoefkihcnenaaa
