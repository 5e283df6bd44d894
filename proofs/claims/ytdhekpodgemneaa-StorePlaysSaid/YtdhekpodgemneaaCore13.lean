/- Arguments that are slices of structs. No program in it. -/
import Derived.Test.YtdhekpodgemneaaCore9
import Derived.Test.YtdhekpodgemneaaCore11
set_option linter.unusedVariables false
set_option linter.unusedSimpArgs false
namespace Go.Proofs.Ytdhekpodgemneaa
open Go Go.RowKit Go.ChangeShapes Go.WideShapes Go.ChangeAt

theorem pick_list {α : Type} (p : Nat → α → Prop) : ∀ n, (∀ i, i < n → ∃ x, p i x) → ∃ xs : List α, xs.length = n ∧ ∀ i x, xs[i]? = some x → p i x
  | 0, _ => ⟨[], rfl, by simp⟩
  | n + 1, h => by
    obtain ⟨xs, hl, hx⟩ := pick_list p n fun i hi => h i (by omega)
    obtain ⟨x, hp⟩ := h n (by omega)
    refine ⟨xs ++ [x], by simp [hl], fun i y hy => ?_⟩
    by_cases hi : i < n
    · rw [List.getElem?_append_left (by omega)] at hy; exact hx i y hy
    · rw [List.getElem?_append_right (by omega), hl] at hy
      have : i = n := by
        have := (List.getElem?_eq_some_iff.1 hy).1
        simp at this; omega
      subst this
      simp at hy; subst hy; exact hp
theorem Kn.flat_inv {α : Type} (K : Kn α) : ∀ (xs : List α) (i : Nat) (u : Value), (K.flat xs)[i]? = some u → ∃ j x f, i = j * K.sz + f ∧ f < K.sz ∧ xs[j]? = some x ∧ (K.enc x)[f]? = some u
  | [], i, u, h => by simp [Kn.flat] at h
  | x :: xs, i, u, h => by
    rw [Kn.flat_cons] at h
    by_cases hi : i < K.sz
    · rw [List.getElem?_append_left (by rw [K.len]; exact hi)] at h
      exact ⟨0, x, i, by simp, hi, rfl, h⟩
    · rw [List.getElem?_append_right (by rw [K.len]; omega), K.len] at h
      obtain ⟨j, y, f, e, hf, hj, hu⟩ := Kn.flat_inv K xs _ u h
      exact ⟨j + 1, y, f, by rw [Nat.add_mul]; omega, hf, by simpa using hj, hu⟩
section
variable {H : Type} {enc : TypeId × Value → H} {P : Program} {W : World}
/-- what a slice that is read holds, element by element -/
theorem open_elems {α : Type} {t e : TypeId} {K : Kn α} {Q : α → Prop} {held : Bool} {fuel : Nat} {cs : List Value} {y : DataW H × List MemPlace} (ht : P.underlying t = some (.slice e)) (hc : P.cellsOf e = K.sz)
    (hdec : ∀ fuel cs y, DataW.trod enc P W 0 (fun _ => true) held fuel e cs = some y → ∃ x, K.enc x = cs ∧ Q x)
    (hd : DataW.trod enc P W 0 (fun _ => true) held fuel t cs = some y) : ∃ A c xs, cs = [.slice A xs.length c] ∧ xs.length ≤ c ∧ (∀ u, Old W u → SlR K A xs u) ∧ ∀ x ∈ xs, Q x := by
  rcases DataW.trod_slice ht hd with ⟨rfl, _⟩ | ⟨a, len, cap, elems, rest, n, _, rfl, _, hb, hl, hm, hlen, hel, hsp, _⟩
  · exact ⟨none, 0, [], rfl, Nat.le_refl _, fun u _ => SlR.nil K none u, by simp⟩
  · obtain ⟨xs, hxl, hx⟩ := pick_list (fun i x => W.cells? 0 (a.add (i * K.sz)) K.sz = some (K.enc x) ∧ Q x) len fun i hi => by
      have h := hel i hi
      have hi' : elems[i]? = some (elems[i]'(by omega)) := List.getElem?_eq_getElem (by omega)
      rw [hi', Option.bind_eq_some_iff, hc] at h
      obtain ⟨cs', h1, h2⟩ := h
      obtain ⟨x, he, hq⟩ := hdec _ _ _ h2
      exact ⟨x, by rw [h1, he], hq⟩
    refine ⟨some a, cap, xs, by rw [hxl], by omega, fun u hu => ⟨by rw [hxl]; simp only [maxLen] at hm; omega, .inr ⟨a, rfl, fun i v hv => ?_⟩⟩, fun x hm => ?_⟩
    · obtain ⟨j, x, f, e, hf, hj, hv'⟩ := K.flat_inv xs i v hv
      have h1 := (World.cells?_some (hx j x hj).1).2.2 f (by omega)
      rw [hv'] at h1
      rw [Addr.add_add, ← e] at h1
      exact hu.cell h1
    · obtain ⟨i, hi⟩ := List.getElem?_of_mem hm
      exact (hx i x hi).2
theorem open_viewE {α : Type} {r : Reach} {b0 : Nat} {t e : TypeId} {K : Kn α} {Q : α → Prop} {held : Bool} {v : Value} {d : DataW H} {ps : List MemPlace} (ht : P.underlying t = some (.slice e)) (hc : P.cellsOf e = K.sz)
    (hdec : ∀ fuel cs y, DataW.trod enc P W 0 (fun _ => true) held fuel e cs = some y → ∃ x, K.enc x = cs ∧ Q x)
    (hval : Value.okWide P W r b0 t v) (hd : DataW.Trod enc P W 0 (fun _ => true) held t v d ps) : ∃ A c xs, v = .slice A xs.length c ∧ xs.length ≤ c ∧ (∀ u, Old W u → SlR K A xs u) ∧ ∀ x ∈ xs, Q x := by
  obtain ⟨a0, len, cap, rfl⟩ := okWide_slice ht hval
  obtain ⟨fuel, hf⟩ := hd
  obtain ⟨A, c, xs, e, h⟩ := open_elems ht hc hdec hf
  simp [Value.cells] at e
  obtain ⟨rfl, rfl, rfl⟩ := e
  exact ⟨_, _, xs, rfl, h⟩
/-- .. of structs that hold slices -/
theorem open_viewN {α β : Type} [Inhabited β] {r : Reach} {b0 : Nat} {t e sz : Nat} {KB : β → Kn α} {Q : α → β → Prop} {held : Bool} {v : Value} {d : DataW H} {ps : List MemPlace} (ht : P.underlying t = some (.slice e)) (hsz : ∀ b, (KB b).sz = sz) (hc : P.cellsOf e = sz) (hp : 0 < sz)
    (hdec : ∀ fuel cs y, DataW.trod enc P W 0 (fun _ => true) held fuel e cs = some y → ∃ x : α × β, (KB x.2).enc x.1 = cs ∧ Q x.1 x.2)
    (hval : Value.okWide P W r b0 t v) (hd : DataW.Trod enc P W 0 (fun _ => true) held t v d ps) : ∃ A c xs, ∃ bs : Nat → β, v = .slice A xs.length c ∧ xs.length ≤ c ∧ (∀ u, Old W u → SlRN (fun j => KB (bs j)) sz A xs u) ∧ ∀ j x, xs[j]? = some x → Q x (bs j) := by
  let KP : Kn (α × β) := ⟨0, sz, fun p => (KB p.2).enc p.1, fun p => by rw [(KB p.2).len, hsz], hp, fun p => (KB p.2).one p.1⟩
  obtain ⟨A, c, zs, rfl, h1, h2, h3⟩ := open_viewE (K := KP) (Q := fun p => Q p.1 p.2) ht hc hdec hval hd
  have key : ∀ (j : Nat) (x : α), (zs.map Prod.fst)[j]? = some x → zs[j]? = some (x, ((zs[j]?).map Prod.snd).getD default) := by
    intro j x hj
    rw [List.getElem?_map] at hj
    cases hz : zs[j]? with
    | none => rw [hz] at hj; cases hj
    | some p => rw [hz] at hj; simp at hj; subst hj; rfl
  refine ⟨A, c, zs.map Prod.fst, fun j => ((zs[j]?).map Prod.snd).getD default, by simp, by simpa using h1, fun u hu => ?_, fun j x hj => h3 (x, ((zs[j]?).map Prod.snd).getD default) (List.mem_of_getElem? (key j x hj))⟩
  obtain ⟨g1, g2⟩ := h2 u hu
  refine ⟨by simpa using g1, ?_⟩
  rcases g2 with rfl | ⟨ad, hA, hcell⟩
  · exact .inl rfl
  · refine .inr ⟨ad, hA, fun j x hj f w hw => ?_⟩
    have hfl := KP.flat_get zs j _ f w (key j x hj) hw
    have := hcell _ w hfl
    rw [Addr.add_add]; exact this
def chkFs (P : Program) (fs : Array Field) : Bool := (List.range fs.size).all fun i => match fs[i]? with | some f => f.offset == i && P.cellsOf f.type == 1 | none => false
/-- a struct whose fields have one cell each -/
theorem dc_struct {t : TypeId} {fs : Array Field} {held : Bool} {fuel : Nat} {cs : List Value} {y : DataW H × List MemPlace} (ht : P.underlying t = some (.struct fs)) (hk : chkFs P fs = true) (hn : P.cellsOf t = fs.size)
    (h : DataW.trod enc P W 0 (fun _ => true) held fuel t cs = some y) : cs.length = fs.size ∧ ∀ i f, fs[i]? = some f → ∃ n z, DataW.trod enc P W 0 (fun _ => true) held n f.type ((cs.drop i).take 1) = some z := by
  obtain ⟨xs, n, _, _, hl, hx, hf⟩ := DataW.trod_struct ht h
  refine ⟨hl.trans hn, fun i f hi => ?_⟩
  have hlt : i < fs.size := (Array.getElem?_eq_some_iff.1 hi).1
  have h1 := List.all_eq_true.1 hk i (by simpa using hlt)
  rw [hi] at h1
  simp only [Bool.and_eq_true, beq_iff_eq] at h1
  have h2 := hf i f hi
  rw [h1.1, h1.2, List.getElem?_eq_getElem (by omega)] at h2
  exact ⟨n, _, h2⟩
end
end Go.Proofs.Ytdhekpodgemneaa
