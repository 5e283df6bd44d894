/- Memory as a list of atoms that stand on sets of blocks apart from each other. No program in it. -/
import Derived.Test.YtdhekpodgemneaaCore1
set_option linter.unusedVariables false
set_option linter.unusedSimpArgs false
namespace Go.Proofs.Ytdhekpodgemneaa
open Go Go.RowKit

/-- A holds of each world that reads as w on S -/
def Stb (S : Nat → Prop) (w : World) (A : World → Prop) : Prop := ∀ u : World, (∀ b, S b → u.heap[b]? = w.heap[b]?) → A u
/-- the atoms Γ hold of w, each of blocks of its own; the streams are w0's -/
def Hp (w0 : World) (Γ : List (World → Prop)) (w : World) : Prop :=
  (w.os = w0.os ∧ w.tape = w0.tape ∧ w.output = w0.output) ∧
  ∃ F : Nat → Nat → Prop, (∀ i b, F i b → b < w.heap.size) ∧ (∀ i j b, F i b → F j b → i = j) ∧ ∀ i A, Γ[i]? = some A → Stb (F i) w A

section
variable {w0 w : World} {Γ Δ : List (World → Prop)} {A B C D E G H I J K : World → Prop}

theorem Hp.nil (w : World) : Hp w [] w := ⟨⟨rfl, rfl, rfl⟩, fun _ _ => False, fun _ _ h => h.elim, fun _ _ _ h => h.elim, fun i A h => by simp at h⟩
theorem Hp.mem (h : Hp w0 Γ w) {i : Nat} (hi : Γ[i]? = some A) : A w := by
  obtain ⟨_, F, _, _, h3⟩ := h
  exact h3 i A hi w fun _ _ => rfl
theorem Hp.sel (h : Hp w0 Γ w) (σ : Nat → Nat) (hinj : ∀ i j, i < Δ.length → j < Δ.length → σ i = σ j → i = j) (hs : ∀ i A, Δ[i]? = some A → Γ[σ i]? = some A) : Hp w0 Δ w := by
  obtain ⟨hq, F, h1, h2, h3⟩ := h
  refine ⟨hq, fun i b => i < Δ.length ∧ F (σ i) b, fun i b hf => h1 _ _ hf.2, fun i j b hi hj => hinj i j hi.1 hj.1 (h2 _ _ b hi.2 hj.2), fun i A hi => ?_⟩
  intro u hu
  exact h3 (σ i) A (hs i A hi) u fun b hb => hu b ⟨(List.getElem?_eq_some_iff.1 hi).1, hb⟩
theorem Hp.d (h : Hp w0 (A :: Γ) w) : Hp w0 Γ w := h.sel (fun i => i + 1) (fun i j _ _ e => by omega) fun i B hi => by simpa using hi
/-- what stands at place k comes to the head -/
theorem Hp.pick (h : Hp w0 Γ w) (k : Nat) (hk : Γ[k]? = some A) : Hp w0 (A :: Γ.eraseIdx k) w := by
  refine h.sel (fun i => if i = 0 then k else if i - 1 < k then i - 1 else i) (fun i j hi hj e => ?_) fun i B hi => ?_
  · split at e <;> split at e <;> (try split at e) <;> (try split at e) <;> omega
  · by_cases h0 : i = 0
    · subst h0
      simp at hi
      subst hi
      simpa using hk
    · obtain ⟨j, rfl⟩ : ∃ j, i = j + 1 := ⟨i - 1, by omega⟩
      simp only [List.getElem?_cons_succ, List.getElem?_eraseIdx] at hi
      rw [if_neg (by omega)]
      simp only [Nat.add_sub_cancel]
      split at hi
      · rename_i hj; rw [if_pos hj]; exact hi
      · rename_i hj; rw [if_neg hj]; exact hi
theorem Hp.u1 (h : Hp w0 (A :: B :: Γ) w) : Hp w0 (B :: A :: Γ) w := h.pick 1 rfl
theorem Hp.u2 (h : Hp w0 (A :: B :: C :: Γ) w) : Hp w0 (C :: A :: B :: Γ) w := h.pick 2 rfl
theorem Hp.u3 (h : Hp w0 (A :: B :: C :: D :: Γ) w) : Hp w0 (D :: A :: B :: C :: Γ) w := h.pick 3 rfl
theorem Hp.u4 (h : Hp w0 (A :: B :: C :: D :: E :: Γ) w) : Hp w0 (E :: A :: B :: C :: D :: Γ) w := h.pick 4 rfl
theorem Hp.u5 (h : Hp w0 (A :: B :: C :: D :: E :: G :: Γ) w) : Hp w0 (G :: A :: B :: C :: D :: E :: Γ) w := h.pick 5 rfl
theorem Hp.u6 (h : Hp w0 (A :: B :: C :: D :: E :: G :: H :: Γ) w) : Hp w0 (H :: A :: B :: C :: D :: E :: G :: Γ) w := h.pick 6 rfl
theorem Hp.u7 (h : Hp w0 (A :: B :: C :: D :: E :: G :: H :: I :: Γ) w) : Hp w0 (I :: A :: B :: C :: D :: E :: G :: H :: Γ) w := h.pick 7 rfl
theorem Hp.u8 (h : Hp w0 (A :: B :: C :: D :: E :: G :: H :: I :: J :: Γ) w) : Hp w0 (J :: A :: B :: C :: D :: E :: G :: H :: I :: Γ) w := h.pick 8 rfl
theorem Hp.u9 (h : Hp w0 (A :: B :: C :: D :: E :: G :: H :: I :: J :: K :: Γ) w) : Hp w0 (K :: A :: B :: C :: D :: E :: G :: H :: I :: J :: Γ) w := h.pick 9 rfl
theorem Hp.g0 (h : Hp w0 (A :: Γ) w) : A w := h.mem (i := 0) rfl
theorem Hp.g1 (h : Hp w0 (A :: B :: Γ) w) : B w := h.mem (i := 1) rfl
theorem Hp.g2 (h : Hp w0 (A :: B :: C :: Γ) w) : C w := h.mem (i := 2) rfl
theorem Hp.g3 (h : Hp w0 (A :: B :: C :: D :: Γ) w) : D w := h.mem (i := 3) rfl
theorem Hp.g4 (h : Hp w0 (A :: B :: C :: D :: E :: Γ) w) : E w := h.mem (i := 4) rfl
theorem Hp.g5 (h : Hp w0 (A :: B :: C :: D :: E :: G :: Γ) w) : G w := h.mem (i := 5) rfl
theorem Hp.g6 (h : Hp w0 (A :: B :: C :: D :: E :: G :: H :: Γ) w) : H w := h.mem (i := 6) rfl
theorem Hp.g7 (h : Hp w0 (A :: B :: C :: D :: E :: G :: H :: I :: Γ) w) : I w := h.mem (i := 7) rfl
theorem Hp.g8 (h : Hp w0 (A :: B :: C :: D :: E :: G :: H :: I :: J :: Γ) w) : J w := h.mem (i := 8) rfl
theorem Hp.g9 (h : Hp w0 (A :: B :: C :: D :: E :: G :: H :: I :: J :: K :: Γ) w) : K w := h.mem (i := 9) rfl

theorem Hp.congr {w' : World} (h : Hp w0 Γ w) (hh : w'.heap = w.heap) (h1 : w'.os = w.os) (h2 : w'.tape = w.tape) (h3 : w'.output = w.output) : Hp w0 Γ w' := by
  obtain ⟨⟨a, b, c⟩, F, f1, f2, f3⟩ := h
  refine ⟨⟨h1.trans a, h2.trans b, h3.trans c⟩, F, ?_, f2, ?_⟩
  · rw [hh]; exact f1
  · intro i A hi u hu; rw [hh] at hu; exact f3 i A hi u hu
theorem Hp.drew (h : Hp w0 Γ w) : Hp w0 Γ w.drew := h.congr rfl rfl rfl rfl
theorem Hp.drawn (h : Hp w0 Γ w) (n : Nat) : Hp w0 Γ { w with drawn := n } := h.congr rfl rfl rfl rfl
theorem Hp.imp (h : Hp w0 (A :: Γ) w) (hi : ∀ u, A u → B u) : Hp w0 (B :: Γ) w := by
  obtain ⟨hq, F, f1, f2, f3⟩ := h
  refine ⟨hq, F, f1, f2, fun i X hX => ?_⟩
  cases i with
  | zero => simp at hX; subst hX; exact fun u hu => hi u (f3 0 A rfl u hu)
  | succ i => exact f3 (i + 1) X hX
/-- an atom of nothing -/
theorem Hp.add (h : Hp w0 Γ w) (ha : ∀ u, A u) : Hp w0 (A :: Γ) w := by
  obtain ⟨hq, F, f1, f2, f3⟩ := h
  refine ⟨hq, fun i b => match i with | 0 => False | i + 1 => F i b, fun i b hb => ?_, fun i j b hi hj => ?_, fun i X hX => ?_⟩
  · cases i with
    | zero => exact hb.elim
    | succ i => exact f1 i b hb
  · cases i with
    | zero => exact hi.elim
    | succ i =>
      cases j with
      | zero => exact hj.elim
      | succ j => rw [f2 i j b hi hj]
  · cases i with
    | zero => simp at hX; subst hX; exact fun u _ => ha u
    | succ i => exact f3 i X (by simpa using hX)
/-- two atoms become one -/
theorem Hp.two (h : Hp w0 (A :: B :: Γ) w) (hi : ∀ u, A u → B u → C u) : Hp w0 (C :: Γ) w := by
  obtain ⟨hq, F, f1, f2, f3⟩ := h
  refine ⟨hq, fun i b => match i with | 0 => F 0 b ∨ F 1 b | i + 1 => F (i + 2) b, fun i b hb => ?_, fun i j b hi hj => ?_, fun i X hX => ?_⟩
  · cases i with
    | zero => rcases hb with hb | hb <;> exact f1 _ b hb
    | succ i => exact f1 _ b hb
  · cases i with
    | zero =>
      cases j with
      | zero => rfl
      | succ j =>
        rcases hi with hi | hi
        · have := f2 _ _ b hi hj; omega
        · have := f2 _ _ b hi hj; omega
    | succ i =>
      cases j with
      | zero =>
        rcases hj with hj | hj
        · have := f2 _ _ b hi hj; omega
        · have := f2 _ _ b hi hj; omega
      | succ j => have := f2 _ _ b hi hj; omega
  · cases i with
    | zero =>
      simp at hX; subst hX
      exact fun u hu => hi u (f3 0 A rfl u fun b hb => hu b (.inl hb)) (f3 1 B rfl u fun b hb => hu b (.inr hb))
    | succ i => exact f3 (i + 2) X (by simpa using hX)
/-- a new block -/
theorem Hp.alloc (h : Hp w0 Γ w) (o : Obj) (ha : ∀ u : World, u.heap[w.heap.size]? = some o → A u) : Hp w0 (A :: Γ) (w.alloc o) := by
  obtain ⟨hq, F, f1, f2, f3⟩ := h
  refine ⟨hq, fun i b => match i with | 0 => b = w.heap.size | i + 1 => F i b, fun i b hb => ?_, fun i j b hi hj => ?_, fun i X hX => ?_⟩
  · cases i with
    | zero => subst hb; simp
    | succ i => have := f1 i b hb; simp; omega
  · cases i with
    | zero =>
      cases j with
      | zero => rfl
      | succ j => have := f1 j b hj; have : b = w.heap.size := hi; omega
    | succ i =>
      cases j with
      | zero => have := f1 i b hi; have : b = w.heap.size := hj; omega
      | succ j => rw [f2 i j b hi hj]
  · cases i with
    | zero =>
      simp at hX; subst hX
      exact fun u hu => ha u (by rw [hu _ rfl]; exact heap_alloc_new w o)
    | succ i =>
      intro u hu
      refine f3 i X (by simpa using hX) u fun b hb => ?_
      rw [hu b hb]
      have := f1 i b hb
      exact heap_alloc_old w o this
def World.mod (w : World) (b : Nat) (f : Obj → Obj) : World := { w with heap := w.heap.modify b f }
/-- a block of the first atom is changed -/
theorem Hp.mod {b : Nat} {f : Obj → Obj} (h : Hp w0 (A :: Γ) w) (hown : ∀ u : World, A u → ∃ c e z, u.heap[b]? = some (.cells c e z)) (hf : ∀ u : World, A u → B (World.mod u b f)) : Hp w0 (B :: Γ) (World.mod w b f) := by
  obtain ⟨hq, F, f1, f2, f3⟩ := h
  have hA : A w := f3 0 A rfl w fun _ _ => rfl
  obtain ⟨c, e, z, hb⟩ := hown w hA
  have hlt : b < w.heap.size := (Array.getElem?_eq_some_iff.1 hb).1
  have hmem : F 0 b := by
    apply Classical.byContradiction
    intro hn
    have hu := f3 0 A rfl { w with heap := w.heap.setIfInBounds b (.map #[] 0) } fun b' hb' => by
      have hne : b ≠ b' := fun e => hn (e ▸ hb')
      simp [Array.getElem?_setIfInBounds_ne hne]
    obtain ⟨c', e', z', h'⟩ := hown _ hu
    simp [hlt] at h'
  refine ⟨hq, F, fun i b' hb' => ?_, f2, fun i X hX => ?_⟩
  · have := f1 i b' hb'; simpa [World.mod] using this
  · cases i with
    | zero =>
      simp at hX; subst hX
      intro u hu
      have hub : u.heap[b]? = (World.mod w b f).heap[b]? := hu b hmem
      have hub2 : u.heap[b]? = some (f (.cells c e z)) := by rw [hub]; simp [World.mod, Array.getElem?_modify, hb]
      have hlu : b < u.heap.size := (Array.getElem?_eq_some_iff.1 hub2).1
      have hA' := f3 0 A rfl { u with heap := u.heap.setIfInBounds b (.cells c e z) } fun b' hb' => by
        by_cases hne : b = b'
        · subst hne; simp [hlu, hb]
        · simp only [Array.getElem?_setIfInBounds_ne hne]
          rw [hu b' hb']
          simp [World.mod, Array.getElem?_modify, hne]
      have hB := hf _ hA'
      have he : World.mod { u with heap := u.heap.setIfInBounds b (.cells c e z) } b f = u := by
        unfold World.mod
        cases u with
        | mk heap tape drawn os output =>
          congr 1
          apply Array.ext_getElem?
          intro i
          simp only [Array.getElem?_modify]
          by_cases hi : b = i
          · subst hi
            simp only [if_true]
            rw [Array.getElem?_setIfInBounds_self_of_lt hlu]
            exact hub2.symm
          · rw [if_neg hi, Array.getElem?_setIfInBounds_ne hi]
      rw [he] at hB
      exact hB
    | succ i =>
      intro u hu
      refine f3 (i + 1) X hX u fun b' hb' => ?_
      rw [hu b' hb']
      have hne : b ≠ b' := fun e => by have := f2 _ _ b hmem (e ▸ hb'); omega
      simp [World.mod, Array.getElem?_modify, hne]
theorem setCell_mod (w : World) (a : Addr) (v : Value) : w.setCell a v = World.mod w a.block (fun
      | .cells c elem frozen => .cells (if a.spot.isSome then c else c.setIfInBounds a.off v) elem frozen
      | o => o) := rfl
theorem setRow_mod (w : World) (g : Nat) (cs : Array Value) : w.setRow g cs = World.mod w g (fun
      | .cells _ elem frozen => .cells cs elem frozen
      | o => o) := rfl

/-! ### What was there when the call began -/
def Old (w1 : World) (w : World) : Prop := ∀ b, b < w1.heap.size → w.heap[b]? = w1.heap[b]?
theorem Hp.start (w : World) : Hp w [Old w] w := by
  refine ⟨⟨rfl, rfl, rfl⟩, fun i b => i = 0 ∧ b < w.heap.size, fun i b h => h.2, fun i j b hi hj => by rw [hi.1, hj.1], fun i A hi => ?_⟩
  cases i with
  | zero => simp at hi; subst hi; exact fun u hu b hb => hu b ⟨rfl, hb⟩
  | succ i => simp at hi
theorem Hp.below {w1 : World} (h : Hp w1 (Old w1 :: Γ) w) (hsz : w1.heap.size ≤ w.heap.size) : Below w1.heap.size w1 w := by
  have hb := h.g0
  obtain ⟨⟨a, b, c⟩, _⟩ := h
  exact ⟨a, b, c, hsz, hb⟩
theorem Hp.older {w1 : World} (h : Hp w1 (Old w1 :: Γ) w) : w1.heap.size ≤ w.heap.size := by
  have hb := h.g0
  rcases Nat.lt_or_ge w.heap.size w1.heap.size with hlt | hge
  · have := hb w.heap.size hlt
    rw [Array.getElem?_eq_none (Nat.le_refl _)] at this
    rw [Array.getElem?_eq_getElem hlt] at this
    cases this
  · exact hge
end
end Go.Proofs.Ytdhekpodgemneaa
