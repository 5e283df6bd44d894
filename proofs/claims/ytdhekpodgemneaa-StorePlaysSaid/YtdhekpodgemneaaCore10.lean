/- Lists that are sorted, places in lists: plain words for plain laws. No program in it. -/
import Derived.Test.YtdhekpodgemneaaCore8
set_option linter.unusedVariables false
set_option linter.unusedSimpArgs false
namespace Go.Proofs.Ytdhekpodgemneaa
open Go

section
variable {α : Type}
theorem rd_mid [Inhabited α] (A B : List α) (x : α) : rd (A ++ x :: B) (A.length : Int) = x := by simp [rd]
theorem set_mid (A B : List α) (x z : α) : (A ++ x :: B).set (Int.toNat (A.length : Int)) z = A ++ z :: B := by simp
theorem w64_nat {n : Nat} (h : n ≤ 9223372036854775807) : w64 (n : Int) = (n : Int) := w64_id (by omega) (by omega)

/-! ### order -/
/-- an order of keys -/
structure Ord (lt : α → α → Bool) : Prop where
  irr : ∀ x, lt x x = false
  trans : ∀ x y z, lt x y = true → lt y z = true → lt x z = true
  neg : ∀ x y z, lt x y = false → lt y z = false → lt x z = false
variable {lt : α → α → Bool}
theorem Ord.asymm (o : Ord lt) {x y : α} (h : lt x y = true) : lt y x = false := by
  cases h2 : lt y x with
  | false => rfl
  | true => have := o.trans x y x h h2; rw [o.irr] at this; cases this
def Le (lt : α → α → Bool) (S : List α) : Prop := S.Pairwise fun a b => lt b a = false
def Srt (lt : α → α → Bool) (S : List α) : Prop := S.Pairwise fun a b => lt a b = true
theorem Srt.le (o : Ord lt) {S : List α} (h : Srt lt S) : Le lt S := List.Pairwise.imp (fun h => o.asymm h) h
theorem Srt.eq (o : Ord lt) {R : List α} (h : Srt lt R) {x z : α} (hx : x ∈ R) (hz : z ∈ R) (h1 : lt x z = false) (h2 : lt z x = false) : x = z := by
  induction R with
  | nil => cases hx
  | cons r R ih =>
    obtain ⟨g1, g2⟩ := List.pairwise_cons.1 h
    rcases List.mem_cons.1 hx with ex | hx
    · rcases List.mem_cons.1 hz with ez | hz
      · rw [ex, ez]
      · rw [ex, g1 z hz] at h1; cases h1
    · rcases List.mem_cons.1 hz with ez | hz
      · rw [ez, g1 x hx] at h2; cases h2
      · exact ih g2 hx hz
theorem sorted_eq (o : Ord lt) : ∀ {S R : List α}, Le lt S → Srt lt R → S.Perm R → S = R
  | [], R, _, _, p => by rw [List.nil_perm.1 p]
  | s :: S, [], _, _, p => by have := p.length_eq; simp at this
  | s :: S, r :: R, hS, hR, p => by
    have hs : s ∈ r :: R := p.mem_iff.1 (by simp)
    have hr : r ∈ s :: S := p.mem_iff.2 (by simp)
    have e : s = r := by
      rcases List.mem_cons.1 hs with h | h
      · exact h
      · rcases List.mem_cons.1 hr with h2 | h2
        · exact h2.symm
        · have h3 := (List.pairwise_cons.1 hR).1 s h
          have h4 := (List.pairwise_cons.1 hS).1 r h2
          rw [h3] at h4; cases h4
    subst e
    rw [sorted_eq o (List.pairwise_cons.1 hS).2 (List.pairwise_cons.1 hR).2 ((List.perm_cons s).1 p)]
/-- an element is put in its place -/
def ins (lt : α → α → Bool) (x : α) : List α → List α
  | [] => [x]
  | y :: l => if lt x y = true then x :: y :: l else y :: ins lt x l
theorem ins_perm (x : α) : ∀ l : List α, (ins lt x l).Perm (x :: l)
  | [] => List.Perm.refl _
  | y :: l => by
    simp only [ins]
    split
    · exact List.Perm.refl _
    · exact ((ins_perm x l).cons y).trans (List.Perm.swap x y l)
theorem ins_mem {x z : α} {l : List α} : z ∈ ins lt x l ↔ z = x ∨ z ∈ l := by rw [(ins_perm x l).mem_iff]; simp
theorem ins_len (x : α) (l : List α) : (ins lt x l).length = l.length + 1 := by rw [(ins_perm x l).length_eq]; simp
theorem ins_srt (o : Ord lt) {x : α} : ∀ {l : List α}, Srt lt l → (∀ y ∈ l, lt x y = true ∨ lt y x = true) → Srt lt (ins lt x l)
  | [], _, _ => List.pairwise_singleton _ _
  | y :: l, h, hx => by
    obtain ⟨g1, g2⟩ := List.pairwise_cons.1 h
    simp only [ins]
    split
    · rename_i hxy
      refine List.pairwise_cons.2 ⟨fun z hz => ?_, h⟩
      rcases List.mem_cons.1 hz with rfl | hz
      · exact hxy
      · exact o.trans x y z hxy (g1 z hz)
    · rename_i hxy
      refine List.pairwise_cons.2 ⟨fun z hz => ?_, ins_srt o g2 fun q hq => hx q (List.mem_cons_of_mem _ hq)⟩
      rcases ins_mem.1 hz with rfl | hz
      · rcases hx y (by simp) with h3 | h3
        · exact absurd h3 hxy
        · exact h3
      · exact g1 z hz
theorem Srt.filter {S : List α} (h : Srt lt S) (p : α → Bool) : Srt lt (S.filter p) := List.Pairwise.filter _ h
/-- what is put behind and sorted stands in its place -/
theorem sort_ins (o : Ord lt) {S l : List α} {x : α} (hS : Le lt S) (hp : S.Perm (l ++ [x])) (hl : Srt lt l) (hx : ∀ y ∈ l, lt x y = true ∨ lt y x = true) : S = ins lt x l := by
  refine sorted_eq o hS (ins_srt o hl hx) (hp.trans ?_)
  exact (List.perm_append_comm (l₁ := l) (l₂ := [x])).trans (ins_perm x l).symm

/-! ### places -/
def idx (p : α → Bool) : List α → Int → Int
  | [], _ => -1
  | y :: ys, i => if p y = true then i else idx p ys (i + 1)
theorem idx_cases (p : α → Bool) : ∀ (l : List α) (i : Int),
    (∃ A x B, l = A ++ x :: B ∧ p x = true ∧ (∀ z ∈ A, p z = false) ∧ idx p l i = i + (A.length : Int)) ∨ ((∀ z ∈ l, p z = false) ∧ idx p l i = -1)
  | [], i => .inr ⟨by simp, rfl⟩
  | y :: ys, i => by
    simp only [idx]
    by_cases h : p y = true
    · exact .inl ⟨[], y, ys, rfl, h, by simp, by rw [if_pos h]; simp⟩
    · rw [if_neg h]
      rcases idx_cases p ys (i + 1) with ⟨A, x, B, rfl, hx, hA, hr⟩ | ⟨hA, hr⟩
      · refine .inl ⟨y :: A, x, B, rfl, hx, fun z hz => ?_, ?_⟩
        · rcases List.mem_cons.1 hz with rfl | hz
          · simpa using h
          · exact hA z hz
        · rw [hr]; simp only [List.length_cons]; omega
      · refine .inr ⟨fun z hz => ?_, hr⟩
        rcases List.mem_cons.1 hz with rfl | hz
        · simpa using h
        · exact hA z hz
theorem sb_full (l : List α) (m : Nat) (h : l.length ≤ m) : sb l 0 (m : Int) = l := by simp [sb, List.take_of_length_le h]
theorem sb_app (A B : List α) : sb (A ++ B) 0 (A.length : Int) = A := by simp [sb]
theorem filter_none {p : α → Bool} {l : List α} (h : ∀ z ∈ l, p z = false) : (l.filter fun x => !p x) = l := by
  rw [List.filter_eq_self]; intro a ha; simp [h a ha]
end
end Go.Proofs.Ytdhekpodgemneaa
