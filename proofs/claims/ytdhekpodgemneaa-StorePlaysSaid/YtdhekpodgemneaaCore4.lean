/- Rows: slices that are owned, and slices that are read; append and its kin. No program in it. -/
import Derived.Test.YtdhekpodgemneaaCore3
set_option linter.unusedVariables false
set_option linter.unusedSimpArgs false
namespace Go.Proofs.Ytdhekpodgemneaa
open Go Go.RowKit

/-- how the elements of a slice stand in memory -/
structure Kn (α : Type) where
  ty : TypeId
  sz : Nat
  enc : α → List Value
  len : ∀ x, (enc x).length = sz
  pos : 0 < sz
  one : ∀ x, (enc x).all (·.oneCell') = true
def Kn.flat {α : Type} (K : Kn α) (xs : List α) : List Value := xs.flatMap K.enc
section
variable {α : Type} {K : Kn α} {xs ys : List α}
theorem Kn.flat_len (K : Kn α) (xs : List α) : (K.flat xs).length = xs.length * K.sz := by
  induction xs with
  | nil => simp [Kn.flat]
  | cons x xs ih =>
    have : K.flat (x :: xs) = K.enc x ++ K.flat xs := rfl
    rw [this, List.length_append, ih, K.len]
    simp [Nat.add_mul]; omega
theorem Kn.flat_append (K : Kn α) (xs ys : List α) : K.flat (xs ++ ys) = K.flat xs ++ K.flat ys := by simp [Kn.flat]
theorem Kn.flat_cons (K : Kn α) (x : α) (xs : List α) : K.flat (x :: xs) = K.enc x ++ K.flat xs := rfl
theorem Kn.flat_get (K : Kn α) : ∀ (xs : List α) (j : Nat) (x : α) (f : Nat) (u : Value), xs[j]? = some x → (K.enc x)[f]? = some u → (K.flat xs)[j * K.sz + f]? = some u
  | [], j, x, f, u, h, _ => by simp at h
  | y :: ys, 0, x, f, u, h, hu => by
    simp at h; subst h
    rw [Kn.flat_cons, Nat.zero_mul, Nat.zero_add, List.getElem?_append_left (List.getElem?_eq_some_iff.1 hu).1]
    exact hu
  | y :: ys, j + 1, x, f, u, h, hu => by
    have ih := Kn.flat_get K ys j x f u (by simpa using h) hu
    rw [Kn.flat_cons, List.getElem?_append_right (by rw [K.len, Nat.add_mul]; omega), K.len]
    rw [show (j + 1) * K.sz + f - K.sz = j * K.sz + f by rw [Nat.add_mul]; omega]
    exact ih
theorem Kn.flat_one (K : Kn α) (xs : List α) : ∀ u ∈ K.flat xs, u.oneCell' = true := by
  intro u hu
  obtain ⟨x, _, hx⟩ := List.mem_flatMap.1 hu
  exact List.all_eq_true.1 (K.one x) u hx
theorem Kn.flat_take (K : Kn α) (xs : List α) (h : Nat) : K.flat (xs.take h) = (K.flat xs).take (h * K.sz) := by
  induction xs generalizing h with
  | nil => simp [Kn.flat]
  | cons x xs ih =>
    cases h with
    | zero => simp [Kn.flat]
    | succ h =>
      rw [List.take_succ_cons, Kn.flat_cons, Kn.flat_cons, ih, List.take_append, K.len]
      rw [List.take_of_length_le (l := K.enc x) (by rw [K.len, Nat.add_mul]; omega)]
      rw [show (h + 1) * K.sz - K.sz = h * K.sz by rw [Nat.add_mul]; omega]
theorem Kn.flat_drop (K : Kn α) (xs : List α) (h : Nat) : K.flat (xs.drop h) = (K.flat xs).drop (h * K.sz) := by
  induction xs generalizing h with
  | nil => simp [Kn.flat]
  | cons x xs ih =>
    cases h with
    | zero => simp
    | succ h =>
      rw [List.drop_succ_cons, Kn.flat_cons, ih, List.drop_append, K.len]
      rw [List.drop_of_length_le (l := K.enc x) (by rw [K.len, Nat.add_mul]; omega), List.nil_append]
      rw [show (h + 1) * K.sz - K.sz = h * K.sz by rw [Nat.add_mul]; omega]
theorem Kn.flat_set (K : Kn α) : ∀ (xs : List α) (j : Nat) (x x' : α) (f : Nat) (u : Value), xs[j]? = some x → f < K.sz → K.enc x' = (K.enc x).set f u → K.flat (xs.set j x') = (K.flat xs).set (j * K.sz + f) u
  | [], j, x, x', f, u, h, _, _ => by simp at h
  | y :: ys, 0, x, x', f, u, h, hf, he => by
    simp at h; subst h
    rw [List.set_cons_zero, Kn.flat_cons, Kn.flat_cons, he, Nat.zero_mul, Nat.zero_add, List.set_append_left _ _ (by rw [K.len]; exact hf)]
  | y :: ys, j + 1, x, x', f, u, h, hf, he => by
    have ih := Kn.flat_set K ys j x x' f u (by simpa using h) hf he
    rw [List.set_cons_succ, Kn.flat_cons, Kn.flat_cons, ih, List.set_append_right _ _ (by rw [K.len, Nat.add_mul]; omega), K.len]
    congr 2
    rw [Nat.add_mul]; omega
theorem Kn.flat_setA (K : Kn α) : ∀ (xs : List α) (j : Nat) (x' : α), j < xs.length → K.flat (xs.set j x') = (K.flat xs).take (j * K.sz) ++ K.enc x' ++ (K.flat xs).drop (j * K.sz + K.sz)
  | [], j, x', h => by simp at h
  | y :: ys, 0, x', h => by
    rw [List.set_cons_zero, Kn.flat_cons, Kn.flat_cons]
    simp [List.drop_append, K.len]
  | y :: ys, j + 1, x', h => by
    have ih := Kn.flat_setA K ys j x' (by simpa using h)
    rw [List.set_cons_succ, Kn.flat_cons, Kn.flat_cons, ih, List.take_append, List.drop_append, K.len]
    rw [List.take_of_length_le (l := K.enc y) (by rw [K.len, Nat.add_mul]; omega)]
    rw [List.drop_of_length_le (l := K.enc y) (by rw [K.len, Nat.add_mul]; omega)]
    rw [show (j + 1) * K.sz - K.sz = j * K.sz by rw [Nat.add_mul]; omega, show (j + 1) * K.sz + K.sz - K.sz = j * K.sz + K.sz by rw [Nat.add_mul]; omega]
    simp
end

/-- what a slice that is read holds -/
def SlR {α : Type} (K : Kn α) (A : Option Addr) (xs : List α) (w : World) : Prop :=
  xs.length ≤ 9223372036854775807 ∧ (xs = [] ∨ ∃ ad, A = some ad ∧ ∀ i u, (K.flat xs)[i]? = some u → w.cell? (ad.add i) = some u)
/-- a slice of the code's own -/
def Row {α : Type} (K : Kn α) (v : Value) (xs : List α) (w : World) : Prop :=
  (∃ A, v = .slice A 0 0 ∧ xs = []) ∨
  ∃ g off cap cur, v = .slice (some ⟨g, off, none⟩) xs.length cap ∧ w.heap[g]? = some (.cells cur K.ty (0, 0)) ∧ xs.length ≤ cap ∧ cap ≤ maxLen ∧ off + cap * K.sz ≤ cur.size ∧ ∀ i u, (K.flat xs)[i]? = some u → cur[off + i]? = some u

section
variable {α : Type} {K : Kn α} {xs ys : List α} {w w0 : World} {Γ : List (World → Prop)} {v : Value} {A : Option Addr} {m c : Nat}
theorem Row.form (h : Row K v xs w) : ∃ A c, v = .slice A xs.length c := by
  rcases h with ⟨A, rfl, rfl⟩ | ⟨g, off, cap, cur, rfl, _⟩
  · exact ⟨A, 0, rfl⟩
  · exact ⟨_, _, rfl⟩
theorem Row.rd (h : Row K (.slice A m c) xs w) : SlR K A xs w := by
  rcases h with ⟨A, h, rfl⟩ | ⟨g, off, cap, cur, h, hg, hc, hm, hs, hi⟩
  · exact ⟨by simp, .inl rfl⟩
  · cases h
    refine ⟨by simp only [maxLen] at hm; omega, .inr ⟨_, rfl, fun i u hu => ?_⟩⟩
    rw [Addr.add_lit]
    simp [World.cell?, hg, hi i u hu]
theorem Row.len_le (h : Row K v xs w) : xs.length ≤ 9223372036854775807 := by
  obtain ⟨A, c, rfl⟩ := h.form
  exact h.rd.1
theorem SlR.ad (h : SlR K A xs w) {j : Nat} {x : α} (hj : xs[j]? = some x) : ∃ ad, A = some ad ∧ ∀ f u, (K.enc x)[f]? = some u → w.cell? ((ad.add (j * K.sz)).add f) = some u := by
  rcases h.2 with rfl | ⟨ad, hA, hc⟩
  · simp at hj
  · refine ⟨ad, hA, fun f u hu => ?_⟩
    rw [Addr.add_add]
    exact hc _ u (K.flat_get xs j x f u hj hu)
theorem SlR.ads (h : SlR K A xs w) (hx : xs ≠ []) : ∃ ad, A = some ad := by
  rcases h.2 with rfl | ⟨ad, hA, hc⟩
  · exact absurd rfl hx
  · exact ⟨ad, hA⟩
theorem SlR.cell {ad : Addr} (h : SlR K (some ad) xs w) {j : Nat} {x : α} (hj : xs[j]? = some x) (f : Nat) (u : Value) (hu : (K.enc x)[f]? = some u) : w.cell? ((ad.add (j * K.sz)).add f) = some u := by
  obtain ⟨ad', hA, hc⟩ := h.ad hj
  cases hA
  exact hc f u hu
theorem SlR.cell0 {ad : Addr} (h : SlR K (some ad) xs w) {j : Nat} {x : α} (hj : xs[j]? = some x) (u : Value) (hu : (K.enc x)[0]? = some u) : w.cell? (ad.add (j * K.sz)) = some u := by
  have := h.cell hj 0 u hu
  rwa [show (ad.add (j * K.sz)).add 0 = ad.add (j * K.sz) from by simp [Addr.add]] at this
theorem SlR.cells {ad : Addr} (h : SlR K (some ad) xs w) {j : Nat} {x : α} (hj : xs[j]? = some x) : ∀ (f : Nat) u, (K.enc x)[f]? = some u → w.cell? ((ad.add (j * K.sz)).add f) = some u := fun f u hu => h.cell hj f u hu
/-- part of a slice that is read -/
theorem SlR.cut (h : SlR K A xs w) (lo hi m : Nat) (hm : xs.length ≤ m ∨ m ≠ lo ∨ (xs.take hi).drop lo = []) : SlR K (if m = lo then A else A.map (·.add (lo * K.sz))) ((xs.take hi).drop lo) w := by
  refine ⟨by have := h.1; simp; omega, ?_⟩
  rcases h.2 with rfl | ⟨ad, rfl, hc⟩
  · exact .inl (by simp)
  · by_cases he : m = lo
    · rw [if_pos he]
      refine .inl ?_
      rcases hm with hm | hm | hm
      · apply List.drop_of_length_le; simp; omega
      · exact absurd he hm
      · exact hm
    · rw [if_neg he]
      refine .inr ⟨_, rfl, fun i u hu => ?_⟩
      rw [Addr.add_add]
      refine hc _ u ?_
      rw [K.flat_drop, K.flat_take, List.getElem?_drop, List.getElem?_take] at hu
      split at hu
      · exact hu
      · cases hu
theorem Row.nil (w : World) : Row K (.slice none 0 0) [] w := .inl ⟨none, rfl, rfl⟩
theorem Row.empty (w : World) (A : Option Addr) : Row K (.slice A 0 0) [] w := .inl ⟨A, rfl, rfl⟩
/-- part of a slice that is owned -/
theorem Row.cut (h : Row K (.slice A m c) xs w) (lo hi mm : Nat) (h1 : lo ≤ hi) (h2 : hi ≤ mm) (h3 : mm ≤ c) (h4 : hi ≤ xs.length) : Row K (.slice (if mm = lo then A else A.map (·.add (lo * K.sz))) (hi - lo) (mm - lo)) ((xs.take hi).drop lo) w := by
  by_cases he : mm = lo
  · rw [if_pos he]
    have e1 : hi - lo = 0 := by omega
    have e2 : mm - lo = 0 := by omega
    rw [e1, e2]
    refine .inl ⟨A, rfl, ?_⟩
    apply List.drop_of_length_le; simp; omega
  · rw [if_neg he]
    rcases h with ⟨A', e, rfl⟩ | ⟨g, off, cap, cur, e, hg, hc, hm, hs, hi'⟩
    · cases e; omega
    · cases e
      refine .inr ⟨g, off + lo * K.sz, mm - lo, cur, ?_, hg, ?_, by omega, ?_, fun i u hu => ?_⟩
      · simp only [Option.map_some, Addr.add_lit]
        congr 1
        simp; omega
      · simp; omega
      · have : (mm - lo) * K.sz = mm * K.sz - lo * K.sz := Nat.sub_mul _ _ _
        have h5 : lo * K.sz ≤ mm * K.sz := Nat.mul_le_mul_right _ (by omega)
        have h6 : mm * K.sz ≤ c * K.sz := Nat.mul_le_mul_right _ h3
        omega
      · rw [K.flat_drop, K.flat_take, List.getElem?_drop, List.getElem?_take] at hu
        split at hu
        · rw [Nat.add_assoc]; exact hi' _ u hu
        · cases hu
theorem Row.own (h : Row K v xs w) (hx : xs ≠ []) : ∃ g off c, v = .slice (some ⟨g, off, none⟩) xs.length c := by
  rcases h with ⟨A, rfl, rfl⟩ | ⟨g, off, cap, cur, rfl, _⟩
  · exact absurd rfl hx
  · exact ⟨g, off, cap, rfl⟩
theorem setIf_at {cur : Array Value} {off i : Nat} {l : List Value} (h : ∀ i u, l[i]? = some u → cur[off + i]? = some u) (u : Value) : ∀ (j : Nat) z, (l.set i u)[j]? = some z → (cur.setIfInBounds (off + i) u)[off + j]? = some z := by
  intro j z hz
  rw [List.getElem?_set] at hz
  by_cases hij : i = j
  · subst hij
    rw [if_pos rfl] at hz
    split at hz
    · rename_i hl
      have := h i _ (List.getElem?_eq_getElem hl)
      have hlt := (Array.getElem?_eq_some_iff.1 this).1
      rw [Array.getElem?_setIfInBounds_self_of_lt hlt]
      exact hz
    · cases hz
  · rw [if_neg hij] at hz
    rw [Array.getElem?_setIfInBounds_ne (by omega)]
    exact h j z hz
/-- a cell of an element is stored -/
theorem Hp.row_set {g off c' f j : Nat} {x x' : α} {u : Value} (H : Hp w0 (Row K (.slice (some ⟨g, off, none⟩) m c') xs :: Γ) w) (hj : xs[j]? = some x) (hf : f < K.sz) (he : K.enc x' = (K.enc x).set f u) :
    Hp w0 (Row K (.slice (some ⟨g, off, none⟩) m c') (xs.set j x') :: Γ) (w.setCell ((((⟨g, off, none⟩ : Addr).add (j * K.sz))).add f) u) := by
  rw [Addr.add_add, Addr.add_lit, setCell_mod]
  have hne : xs ≠ [] := by rintro rfl; simp at hj
  refine H.mod (fun W hW => ?_) fun W hW => ?_
  · rcases hW with ⟨A, _, rfl⟩ | ⟨g2, off2, cap, cur, e, hg, _⟩
    · exact absurd rfl hne
    · cases e; exact ⟨_, _, _, hg⟩
  · rcases hW with ⟨A, _, rfl⟩ | ⟨g2, off2, cap, cur, e, hg, hc, hm, hs, hi⟩
    · exact absurd rfl hne
    · cases e
      refine .inr ⟨g, off, c', cur.setIfInBounds (off + (j * K.sz + f)) u, by simp, ?_, by simpa using hc, hm, by simpa using hs, ?_⟩
      · simp [World.mod, Array.getElem?_modify, hg]
      · rw [K.flat_set xs j x x' f u hj hf he]
        exact setIf_at hi u
theorem row_splice {cur : Array Value} {off i : Nat} {l vs : List Value} (h : ∀ i u, l[i]? = some u → cur[off + i]? = some u) (hl : i + vs.length ≤ l.length) :
    ∀ (j : Nat) z, (l.take i ++ vs ++ l.drop (i + vs.length))[j]? = some z → (cur.toList.take (off + i) ++ vs ++ cur.toList.drop (off + i + vs.length)).toArray[off + j]? = some z := by
  intro j z hz
  have hlast : off + (i + vs.length) ≤ cur.size ∨ i + vs.length = 0 := by
    rcases Nat.eq_zero_or_pos (i + vs.length) with h0 | h0
    · exact .inr h0
    · left
      have := h (i + vs.length - 1) _ (List.getElem?_eq_getElem (by omega))
      have := (Array.getElem?_eq_some_iff.1 this).1
      omega
  rcases hlast with hlast | h0
  · simp only [List.getElem?_toArray]
    have l1 : (l.take i).length = i := by simp; omega
    have l2 : (cur.toList.take (off + i)).length = off + i := by simp; omega
    rw [List.append_assoc] at hz ⊢
    by_cases hj1 : j < i
    · rw [List.getElem?_append_left (by omega), List.getElem?_take, if_pos hj1] at hz
      rw [List.getElem?_append_left (by omega), List.getElem?_take, if_pos (by omega)]
      simpa using h j z hz
    · rw [List.getElem?_append_right (by omega), l1] at hz
      rw [List.getElem?_append_right (by omega), l2]
      rw [show off + j - (off + i) = j - i by omega]
      by_cases hj2 : j - i < vs.length
      · rw [List.getElem?_append_left hj2] at hz ⊢
        exact hz
      · rw [List.getElem?_append_right (by omega), List.getElem?_drop] at hz
        rw [List.getElem?_append_right (by omega), List.getElem?_drop]
        have := h _ z hz
        rw [show off + i + vs.length + (j - i - vs.length) = off + (i + vs.length + (j - i - vs.length)) by omega]
        simpa using this
  · have hi0 : i = 0 := by omega
    have hv : vs = [] := List.eq_nil_of_length_eq_zero (by omega)
    subst hi0; subst hv
    simp only [List.take_zero, List.nil_append, List.length_nil, Nat.add_zero, List.drop_zero, List.append_nil] at hz ⊢
    rw [List.take_append_drop]
    simpa using h j z hz
/-- an element is stored whole -/
theorem Hp.row_setA {g off c' j : Nat} {x' : α} (H : Hp w0 (Row K (.slice (some ⟨g, off, none⟩) m c') xs :: Γ) w) (hj : j < xs.length) (cur : Array Value) (hg : w.heap[g]? = some (.cells cur K.ty (0, 0))) :
    Hp w0 (Row K (.slice (some ⟨g, off, none⟩) m c') (xs.set j x') :: Γ) (w.setRow g (cur.toList.take (off + j * K.sz) ++ K.enc x' ++ cur.toList.drop (off + j * K.sz + (K.enc x').length)).toArray) := by
  have hne : xs ≠ [] := by rintro rfl; simp at hj
  rw [setRow_mod]
  -- the row's own cells are w's: by the atom on blocks
  obtain ⟨hq, F, f1, f2, f3⟩ := H
  have hA := f3 0 _ rfl
  have H' : Hp w0 ((fun W => Row K (.slice (some ⟨g, off, none⟩) m c') xs W ∧ W.heap[g]? = some (.cells cur K.ty (0, 0))) :: Γ) w := by
    refine ⟨hq, F, f1, f2, fun i X hX => ?_⟩
    cases i with
    | zero =>
      simp at hX; subst hX
      intro W hW
      refine ⟨hA W hW, ?_⟩
      have hmem : F 0 g := by
        apply Classical.byContradiction
        intro hn
        have hu := hA { w with heap := w.heap.setIfInBounds g (.map #[] 0) } fun b' hb' => by
          have hne : g ≠ b' := fun e => hn (e ▸ hb')
          simp [Array.getElem?_setIfInBounds_ne hne]
        have hlt := (Array.getElem?_eq_some_iff.1 hg).1
        rcases hu with ⟨A, _, rfl⟩ | ⟨g2, off2, cap, cur2, e, hg2, _⟩
        · exact hne rfl
        · cases e; simp [hlt] at hg2
      rw [hW g hmem]; exact hg
    | succ i => exact f3 (i + 1) X hX
  refine H'.mod (fun W hW => ⟨_, _, _, hW.2⟩) fun W hW => ?_
  obtain ⟨hW, hg2⟩ := hW
  rcases hW with ⟨A, _, rfl⟩ | ⟨g2, off2, cap, cur2, e, hg3, hc, hm, hs, hi⟩
  · exact absurd rfl hne
  · cases e
    rw [hg2] at hg3
    cases hg3
    have hjs : j * K.sz + K.sz ≤ (K.flat xs).length := by
      rw [K.flat_len]
      have : (j + 1) * K.sz ≤ xs.length * K.sz := Nat.mul_le_mul_right _ hj
      rw [Nat.add_mul] at this; omega
    refine .inr ⟨g, off, c', (cur.toList.take (off + j * K.sz) ++ K.enc x' ++ cur.toList.drop (off + j * K.sz + (K.enc x').length)).toArray, by simp, ?_, by simpa using hc, hm, ?_, ?_⟩
    · simp [World.mod, Array.getElem?_modify, hg2]
    · have h3 : xs.length * K.sz ≤ c' * K.sz := Nat.mul_le_mul_right _ hc
      rw [K.flat_len] at hjs
      simp [K.len]; omega
    · rw [K.flat_setA xs j x' hj]
      have := row_splice (vs := K.enc x') (i := j * K.sz) hi (by rw [K.len]; exact hjs)
      rw [K.len] at this ⊢
      rw [show off + j * K.sz + K.sz = off + (j * K.sz) + K.sz from rfl]
      exact this
end
end Go.Proofs.Ytdhekpodgemneaa
