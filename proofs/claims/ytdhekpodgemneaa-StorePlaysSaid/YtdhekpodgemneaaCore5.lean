/- Building, appending, cutting slices. No program in it. -/
import Derived.Test.YtdhekpodgemneaaCore4
set_option linter.unusedVariables false
set_option linter.unusedSimpArgs false
namespace Go.Proofs.Ytdhekpodgemneaa
open Go Go.RowKit

section
variable {P : Program} {n : Nat} {k : Kt} {ρ : Nat → Value} {w w0 : World} {ops : Array Oper} {l : List Oper} {Γ : List (World → Prop)} {A B : World → Prop}
variable {dst : Option Tmp} {ty : TypeId} {pos : String} {after : Array Edge} {g : Option (Nat × Bool)}
variable {v : Value} {t : TypeId} {x y : Operand} {i : Nat}
variable {α : Type} {K : Kn α} {xs ys : List α}

/-! ### structs and literals -/
/-- the places of a struct's fields -/
def Flds (P : Program) (t : Nat) (pl : List (Nat × Nat)) (z : List Value) : Prop :=
  ∃ fs, P.underlying t = some (.struct fs) ∧ (∀ w, (fs.mapM (fun f => do pure (f.offset, ← sizeOf f.type)) : Sem (Array (Nat × Nat))).run P w = .ok pl.toArray w) ∧ ∀ w, ∃ zv, (zeroValue t).run P w = .ok zv w ∧ zv.cells = z.toArray
def fillL (pl : Nat → Option (Nat × Nat)) (cells : List Value) : List (Nat × Value) → Option (List Value)
  | [] => some cells
  | (i, v) :: rest =>
    match pl i with
    | none => none
    | some (off, size) => if v.cells.size ≠ size ∨ off + v.cells.size > cells.length then none else fillL pl (cells.take off ++ v.cells.toList ++ cells.drop (off + v.cells.size)) rest
theorem set_fold : ∀ (vs : List Value) (k : Nat) (cells : List Value), k + vs.length ≤ cells.length →
    ((vs.zipIdx k).foldl (fun (cs : Array Value) (p : Value × Nat) => cs.setIfInBounds p.2 p.1) cells.toArray) = (cells.take k ++ vs ++ cells.drop (k + vs.length)).toArray
  | [], k, cells, _ => by simp
  | v :: vs, k, cells, h => by
    rw [List.zipIdx_cons, List.foldl_cons]
    have ih := set_fold vs (k + 1) (cells.set k v) (by simp at h ⊢; omega)
    rw [show (cells.toArray.setIfInBounds k v) = (cells.set k v).toArray by simp]
    rw [ih]
    congr 1
    have := list_seg_step cells k v vs (by simpa using h)
    rw [List.length_cons]
    exact this
theorem fill_fillL (pl : Nat → Option (Nat × Nat)) : ∀ (parts : List (Nat × Value)) (cells r : List Value), fillL pl cells parts = some r → Instr.fill pl cells.toArray parts = some r.toArray
  | [], cells, r, h => by simp [fillL] at h; subst h; rfl
  | (i, v) :: rest, cells, r, h => by
    simp only [fillL] at h
    simp only [Instr.fill]
    cases hp : pl i with
    | none => rw [hp] at h; cases h
    | some q =>
      obtain ⟨off, size⟩ := q
      rw [hp] at h
      simp only at h ⊢
      split at h
      · cases h
      · rename_i hc
        have hc1 : v.cells.size = size := by
          apply Classical.byContradiction; intro hn; exact hc (.inl hn)
        have hc2 : ¬ off + v.cells.size > cells.length := fun hn => hc (.inr hn)
        rw [if_neg (by simp [hc1]; simpa [hc1] using hc2)]
        have hf := fill_fillL pl rest _ r h
        rw [← hf]
        congr 1
        have := set_fold v.cells.toList off cells (by simpa using hc2)
        rw [Array.length_toList] at this
        rw [← this]
        rw [← Array.foldl_toList, Array.toList_zipIdx]
        have hz : ∀ (l : List Value) (k o : Nat) (c : Array Value), (l.zipIdx k).foldl (fun cs (p : Value × Nat) => cs.setIfInBounds (o + p.2) p.1) c = (l.zipIdx (o + k)).foldl (fun cs (p : Value × Nat) => cs.setIfInBounds p.2 p.1) c := by
          intro l
          induction l with
          | nil => intro k o c; rfl
          | cons a l ih => intro k o c; simp only [List.zipIdx_cons, List.foldl_cons]; rw [ih]; rfl
        exact (hz _ 0 off _).symm ▸ rfl
theorem r_build {t : TypeId} {pl : List (Nat × Nat)} {z : List Value} {parts : List (Nat × Operand)} (cs : List Value) (hT : Flds P t pl z) (hc : fillL (pl[·]?) z (parts.map fun p => (p.1, ev n ρ p.2)) = some cs) (hk : R P n ops l k (updo ρ dst (.agg cs.toArray)) w) (hw : wn n ops ρ ⟨dst, .build t parts.toArray, ty, pos, after, g⟩ = true := by rfl) : R P n ops (⟨dst, .build t parts.toArray, ty, pos, after, g⟩ :: l) k ρ w := by
  obtain ⟨fs, h1, h2, h3⟩ := hT
  obtain ⟨zv, h4, h5⟩ := h3 w
  refine r_val ?_ hw hk
  have := fill_fillL _ _ _ _ hc
  have hpl : (fun x : Nat => pl.toArray[x]?) = (fun x : Nat => pl[x]?) := by funext x; simp
  have h2' := h2 w
  simp only [execOp, Instr.build, Sem.run_bind, h4, Result.andThen_ok, run_underlying h1, h2', h5, List.map_toArray]
  rw [hpl, this]
  rfl
/-- an array's literal: size cells an element -/
def ElT (P : Program) (t e m : Nat) (z : List Value) : Prop := IxT P t e m ∧ z.length = m ∧ 0 < m ∧ ∀ w, ∃ zv, (zeroValue e).run P w = .ok zv w ∧ zv.cells = z.toArray
def reps (z : List Value) : Nat → List Value
  | 0 => []
  | n + 1 => z ++ reps z n
theorem reps_len (z : List Value) (n : Nat) : (reps z n).length = n * z.length := by
  induction n with
  | zero => simp [reps]
  | succ n ih => simp [reps, ih, Nat.add_mul]; omega
theorem reps_get (z : List Value) : ∀ (n i : Nat), i < n * z.length → (reps z n)[i]? = z[i % z.length]?
  | 0, i, h => by simp at h
  | n + 1, i, h => by
    by_cases hi : i < z.length
    · rw [reps, List.getElem?_append_left hi, Nat.mod_eq_of_lt hi]
    · rw [reps, List.getElem?_append_right (by omega), reps_get z n _ (by rw [Nat.add_mul] at h; omega)]
      rw [Nat.mod_eq_sub_mod (a := i) (by omega)]
theorem range_reps (z : List Value) (n : Nat) (hz : 0 < z.length) : ((Array.range (n * z.length)).map (z.toArray[· % z.toArray.size]!)) = (reps z n).toArray := by
  apply Array.ext
  · simp [reps_len]
  · intro i h1 h2
    have hi : i < n * z.length := by simpa using h1
    have hm : i % z.length < z.length := Nat.mod_lt _ hz
    have := reps_get z n i hi
    rw [List.getElem?_eq_getElem (by rw [reps_len]; exact hi), List.getElem?_eq_getElem hm] at this
    simp only [Option.some.injEq] at this
    simp [this, hm]
theorem r_buildSlice {t e m len : Nat} {z : List Value} {parts : List (Nat × Operand)} (ys : List α) (hT : ElT P t e m z) (hK : K.ty = e) (hKs : K.sz = m) (hl : ys.length = len) (hsm : len ≤ 1000) (hm : m ≤ 1000)
    (hc : fillL (fun i => some (i * m, m)) (reps z len) (parts.map fun p => (p.1, ev n ρ p.2)) = some (K.flat ys)) (H : Hp w0 Γ w)
    (hk : ∀ (b : Nat) (w' : World), Hp w0 (Row K (.slice (some ⟨b, 0, none⟩) len len) ys :: Γ) w' → R P n ops l k (updo ρ dst (.slice (some ⟨b, 0, none⟩) len len)) w') (hw : wn n ops ρ ⟨dst, .buildSlice t len parts.toArray, ty, pos, after, g⟩ = true := by rfl) : R P n ops (⟨dst, .buildSlice t len parts.toArray, ty, pos, after, g⟩ :: l) k ρ w := by
  obtain ⟨hix, hz1, hz2, hz3⟩ := hT
  obtain ⟨zv, h4, h5⟩ := hz3 w
  have hf := fill_fillL _ _ _ _ hc
  have hlm : len * m ≤ 1000 * 1000 := Nat.mul_le_mul hsm hm
  refine r_val (v := .slice (some ⟨w.heap.size, 0, none⟩) len len) (w' := w.alloc (.cells (K.flat ys).toArray e)) ?_ hw (hk _ _ (H.alloc _ fun u hu => ?_))
  · simp only [execOp, Instr.buildSlice, Sem.run_bind, run_underlying hix.1, Result.andThen_ok, hix.2 w, List.map_toArray]
    rw [if_neg (by omega)]
    by_cases h0 : len * m = 0
    · have hl0 : len = 0 := by
        rcases Nat.mul_eq_zero.1 h0 with h | h
        · exact h
        · omega
      subst hl0
      simp only [Nat.zero_mul, if_true, reps] at hf ⊢
      simp only [Sem.run_pure, Result.andThen_ok, Sem.run_bind]
      rw [show (Array.range 0).map (fun x => (#[] : Array Value)[x % (#[] : Array Value).size]!) = ([] : List Value).toArray by simp]
      rw [hf]
      simp only [newRow, Sem.run_bind, run_newObj, Result.andThen_ok, Sem.run_pure]
      rfl
    · rw [if_neg h0]
      simp only [Sem.run_bind, h4, Result.andThen_ok, Sem.run_pure, h5]
      rw [← hz1, range_reps z len (by omega)]
      rw [hz1, hf]
      simp only [newRow, Sem.run_bind, run_newObj, Result.andThen_ok, Sem.run_pure]
      rfl
  · rcases Nat.eq_zero_or_pos len with h0 | h0
    · exact .inl ⟨some ⟨w.heap.size, 0, none⟩, by rw [h0], List.eq_nil_of_length_eq_zero (by omega)⟩
    · refine .inr ⟨w.heap.size, 0, len, _, by rw [hl], by rw [hK]; exact hu, by omega, by simp only [maxLen]; omega, ?_, fun i u hu => by simpa using hu⟩
      simp [K.flat_len, hl]

/-! ### append -/
/-- what is appended -/
def Src (w : World) (x : Value) (m : Nat) (news : List Value) (sz : Nat) : Prop := news.length = m * sz ∧ ∃ A c, x = .slice A m c ∧ (news = [] ∨ ∃ ad, A = some ad ∧ ∀ i u, news[i]? = some u → w.cell? (ad.add i) = some u)
theorem SlR.src {A : Option Addr} {c : Nat} (h : SlR K A ys w) : Src w (.slice A ys.length c) ys.length (K.flat ys) K.sz := by
  refine ⟨K.flat_len ys, A, c, rfl, ?_⟩
  rcases h.2 with rfl | h
  · exact .inl rfl
  · exact .inr h
theorem Row.src (h : Row K v ys w) : Src w v ys.length (K.flat ys) K.sz := by
  obtain ⟨A, c, rfl⟩ := h.form
  exact h.rd.src
theorem run_first {m sz : Nat} {x : Value} {news : List Value} (h : Src w x m news sz) (hs : 0 < sz) : (Builtin.firstCells sz m x).run P w = .ok news.toArray w := by
  obtain ⟨hl, A, c, rfl, h⟩ := h
  rcases h with rfl | ⟨ad, rfl, h⟩
  · have hl0 : m * sz = 0 := by simpa using hl.symm
    have hm : m = 0 := by
      rcases Nat.mul_eq_zero.1 hl0 with h | h
      · exact h
      · omega
    subst hm
    cases A with
    | none => simp [Builtin.firstCells]
    | some a => exact run_firstCells_some w sz 0 a 0 c [] (by simp) (by simp)
  · exact run_firstCells_some w sz m ad m c news hl h
theorem Src.len {m sz : Nat} {x : Value} {news : List Value} (h : Src w x m news sz) : (Builtin.lenOf x).run P w = .ok m w := by
  obtain ⟨hl, A, c, rfl, h⟩ := h
  simp [Builtin.lenOf]
/-- what append asks of its types -/
def ApT (P : Program) (t e m by_ : Nat) : Prop := P.underlying t = some (.slice e) ∧ 0 < by_ ∧ ∃ i z, P.info? e = some i ∧ i.size = m ∧ i.bytes = by_ ∧ i.zero = some z ∧ z.cells.size = m
theorem zeroCells_len (z : Array Value) (n : Nat) : (Builtin.zeroCells z n).size = n * z.size := by simp [Builtin.zeroCells]
theorem Hp.append {t e m by_ : Nat} {x : Value} {ty' : TypeId} (hT : ApT P t e m by_) (hK : K.ty = e) (hKs : K.sz = m) (H : Hp w0 (Row K v xs :: Γ) w) (hs : Src w x ys.length (K.flat ys) m) (hb : (xs.length + ys.length) * by_ ≤ 140737488355328) :
    ∃ A c w', (Builtin.append_ #[t, t] ty' #[v, x]).run P w = .ok (.slice A (xs ++ ys).length c) w' ∧ Hp w0 (Row K (.slice A (xs ++ ys).length c) (xs ++ ys) :: Γ) w' := by
  obtain ⟨hu, hby, i, z, hi, hsz, hbt, hz, hzl⟩ := hT
  subst hK; subst hKs
  have hbig : xs.length + ys.length ≤ 140737488355328 := Nat.le_trans (Nat.le_mul_of_pos_right _ hby) hb
  have hrow := H.g0
  obtain ⟨A0, c0, hv⟩ := hrow.form
  subst hv
  have hx := hs
  obtain ⟨_, Ax, cx, hxe, _⟩ := hx
  have hlen := hs.len (P := P) (w := w)
  have e1 : (Builtin.append_ #[t, t] ty' #[.slice A0 xs.length c0, x]).run P w =
      (if xs.length + ys.length ≤ c0 then
        ((Builtin.firstCells K.sz ys.length x).run P w).andThen fun new w' => (((match A0 with | some a => storeCells (a.add (xs.length * K.sz)) new.toList | none => pure ()) : Sem Unit).run P w').andThen fun _ w'' => .ok (.slice A0 (xs.length + ys.length) c0) w''
      else
        ((Builtin.firstCells K.sz xs.length (.slice A0 xs.length c0)).run P w.drew).andThen fun old w' => ((Builtin.firstCells K.sz ys.length x).run P w').andThen fun new w' =>
          .ok (.slice (some ⟨w'.heap.size, 0, none⟩) (xs.length + ys.length) (grownCap w (xs.length + ys.length) c0 K.ty)) (w'.alloc (.cells (old ++ new ++ Builtin.zeroCells z.cells (grownCap w (xs.length + ys.length) c0 K.ty - (xs.length + ys.length))) K.ty))) := by
    have hn1 : ¬ (9223372036854775807 < ((xs.length : Int) + (ys.length : Int))) := by omega
    by_cases hroom : xs.length + ys.length ≤ c0
    · rw [if_pos hroom]
      simp [Builtin.append_, run_underlying hu, sizeOf, typeInfo, hi, hlen, hroom, hsz]
      cases A0 <;> simp
    · rw [if_neg hroom]
      have hgf : ¬ (281474976710656 < Builtin.nextslicecap (xs.length + ys.length) c0 * i.bytes) := by
        have := growslice_fits (old := c0) (need := xs.length + ys.length) (bytes := by_) (by omega) hb
        rw [hbt]; omega
      simp [Builtin.append_, run_underlying hu, sizeOf, typeInfo, zeroValue, hi, hz, hlen, hroom, hsz, hn1, hgf, Question.forced, newRow]
      rfl
  rw [e1]
  have hla : (xs ++ ys).length = xs.length + ys.length := List.length_append
  by_cases hroom : xs.length + ys.length ≤ c0
  · rw [if_pos hroom, run_first hs K.pos, Result.andThen_ok]
    rcases hrow with ⟨A, e, rfl⟩ | ⟨g, off, cap, cur, e, hg, hc, hm, hsi, hcell⟩
    · cases e
      have hy : ys = [] := List.eq_nil_of_length_eq_zero (by simpa using hroom)
      subst hy
      refine ⟨A0, 0, w, ?_, ?_⟩
      · cases A0 <;> simp [Kn.flat, storeCells]
      · exact H
    · cases e
      have hfit : off + xs.length * K.sz + (K.flat ys).length ≤ cur.size := by
        rw [K.flat_len]
        have : (xs.length + ys.length) * K.sz ≤ c0 * K.sz := Nat.mul_le_mul_right _ hroom
        rw [Nat.add_mul] at this; omega
      have hst := run_storeCells_at P g (off + xs.length * K.sz) K.ty (K.flat ys) 0 cur w hg (by simpa using hfit) (K.flat_one ys)
      simp only [Nat.add_zero] at hst
      simp only [Addr.add_lit, List.toList_toArray, hst, Result.andThen_ok]
      refine ⟨some ⟨g, off, none⟩, c0, _, by rw [hla], ?_⟩
      have hcur : cur = cur := rfl
      rcases Nat.eq_zero_or_pos (xs.length + ys.length) with h0 | h0
      · -- nothing there, nothing comes
        have hx0 : xs = [] := List.eq_nil_of_length_eq_zero (by omega)
        have hy0 : ys = [] := List.eq_nil_of_length_eq_zero (by omega)
        subst hx0; subst hy0
        have : (cur.toList.take (off + 0 * K.sz) ++ K.flat ([] : List α) ++ cur.toList.drop (off + 0 * K.sz + (K.flat ([] : List α)).length)).toArray = cur := by
          simp [Kn.flat]
        simp only [List.length_nil] at this ⊢
        rw [this, setRow_self w g cur K.ty (0, 0) hg]
        exact H
      · rw [setRow_mod]
        obtain ⟨hq, F, f1, f2, f3⟩ := H
        have hA := f3 0 _ rfl
        by_cases hx0 : xs = []
        · -- the row holds nothing yet, but its block may be written
          subst hx0
          have hmem : F 0 g := by
            apply Classical.byContradiction
            intro hn
            have hu := hA { w with heap := w.heap.setIfInBounds g (.map #[] 0) } fun b' hb' => by
              have hne : g ≠ b' := fun e => hn (e ▸ hb')
              simp [Array.getElem?_setIfInBounds_ne hne]
            have hlt := (Array.getElem?_eq_some_iff.1 hg).1
            rcases hu with ⟨A, e, _⟩ | ⟨g2, off2, cap, cur2, e, hg2, _⟩
            · cases e; simp only [List.length_nil] at h0 hroom; omega
            · cases e; simp [hlt] at hg2
          have H' : Hp w0 ((fun W => W.heap[g]? = some (.cells cur K.ty (0, 0))) :: Γ) w := by
            refine ⟨hq, F, f1, f2, fun i X hX => ?_⟩
            cases i with
            | zero => simp at hX; subst hX; intro W hW; rw [hW g hmem]; exact hg
            | succ i => exact f3 (i + 1) X hX
          refine H'.mod (fun W hW => ⟨_, _, _, hW⟩) fun W hW => ?_
          refine .inr ⟨g, off, c0, (cur.toList.take (off + ([] : List α).length * K.sz) ++ K.flat ys ++ cur.toList.drop (off + ([] : List α).length * K.sz + (K.flat ys).length)).toArray, by simp, ?_, by simpa using hroom, hm, ?_, ?_⟩
          · simp [World.mod, Array.getElem?_modify, hW]
          · simp at hfit ⊢; omega
          · intro i u hu
            simp only [List.nil_append, List.length_nil, Nat.zero_mul, Nat.add_zero] at hu ⊢
            simp only [List.getElem?_toArray]
            have l2 : (cur.toList.take off).length = off := by simp at hfit ⊢; omega
            have hil := (List.getElem?_eq_some_iff.1 hu).1
            rw [List.append_assoc, List.getElem?_append_right (by omega), l2, Nat.add_sub_cancel_left, List.getElem?_append_left hil]
            exact hu
        · have H' : Hp w0 ((fun W => Row K (.slice (some ⟨g, off, none⟩) xs.length c0) xs W ∧ W.heap[g]? = some (.cells cur K.ty (0, 0))) :: Γ) w := by
            have hmem : F 0 g := by
              apply Classical.byContradiction
              intro hn
              have hu := hA { w with heap := w.heap.setIfInBounds g (.map #[] 0) } fun b' hb' => by
                have hne : g ≠ b' := fun e => hn (e ▸ hb')
                simp [Array.getElem?_setIfInBounds_ne hne]
              have hlt := (Array.getElem?_eq_some_iff.1 hg).1
              rcases hu with ⟨A, e, he⟩ | ⟨g2, off2, cap, cur2, e, hg2, _⟩
              · exact hx0 he
              · cases e; simp [hlt] at hg2
            refine ⟨hq, F, f1, f2, fun i X hX => ?_⟩
            cases i with
            | zero => simp at hX; subst hX; intro W hW; exact ⟨hA W hW, by rw [hW g hmem]; exact hg⟩
            | succ i => exact f3 (i + 1) X hX
          refine H'.mod (fun W hW => ⟨_, _, _, hW.2⟩) fun W hW => ?_
          obtain ⟨hW, hg2⟩ := hW
          refine .inr ⟨g, off, c0, (cur.toList.take (off + xs.length * K.sz) ++ K.flat ys ++ cur.toList.drop (off + xs.length * K.sz + (K.flat ys).length)).toArray, by simp, ?_, by simpa using hroom, hm, ?_, ?_⟩
          · simp [World.mod, Array.getElem?_modify, hg2]
          · simp at hfit ⊢; omega
          · intro i u hu
            rw [K.flat_append] at hu
            simp only [List.getElem?_toArray]
            have l2 : (cur.toList.take (off + xs.length * K.sz)).length = off + xs.length * K.sz := by simp at hfit ⊢; omega
            have l3 := K.flat_len xs
            by_cases hi1 : i < (K.flat xs).length
            · rw [List.getElem?_append_left hi1] at hu
              rw [List.append_assoc, List.getElem?_append_left (by omega), List.getElem?_take, if_pos (by omega)]
              simpa using hcell i u hu
            · rw [List.getElem?_append_right (by omega)] at hu
              have hil := (List.getElem?_eq_some_iff.1 hu).1
              rw [List.append_assoc, List.getElem?_append_right (by omega), l2, List.getElem?_append_left (by omega)]
              rw [show off + i - (off + xs.length * K.sz) = i - (K.flat xs).length by omega]
              exact hu
  · rw [if_neg hroom]
    have hs2 : Src w.drew x ys.length (K.flat ys) K.sz := hs
    have hr2 : Row K (.slice A0 xs.length c0) xs w.drew := hrow
    rw [run_first hr2.src K.pos, Result.andThen_ok, run_first hs2 K.pos, Result.andThen_ok]
    have hge := grownCap_ge w (xs.length + ys.length) c0 K.ty
    have hle := grownCap_le_maxLen w (xs.length + ys.length) c0 K.ty (by simp only [maxLen]; omega)
    refine ⟨some ⟨w.drew.heap.size, 0, none⟩, grownCap w (xs.length + ys.length) c0 K.ty, _, by rw [hla], ?_⟩
    refine H.d.drew.alloc _ fun u hu => ?_
    refine .inr ⟨w.drew.heap.size, 0, _, _, rfl, hu, by rw [hla]; exact hge, hle, ?_, fun i u hu => ?_⟩
    · simp only [Array.size_append, List.size_toArray, zeroCells_len, hzl, K.flat_len, Nat.zero_add]
      have : (grownCap w (xs.length + ys.length) c0 K.ty) * K.sz = (xs.length + ys.length) * K.sz + (grownCap w (xs.length + ys.length) c0 K.ty - (xs.length + ys.length)) * K.sz := by
        rw [← Nat.add_mul]; congr 1; omega
      rw [this, Nat.add_mul]; exact Nat.le_refl _
    · rw [K.flat_append] at hu
      have hil := (List.getElem?_eq_some_iff.1 hu).1
      rw [Nat.zero_add, Array.getElem?_append_left (by simpa using hil)]
      simpa using hu
theorem r_append {t e m by_ : Nat} {xv : Value} (hT : ApT P t e m by_) (hK : K.ty = e) (hKs : K.sz = m) (hx : ev n ρ x = v) (hy : ev n ρ y = xv) (H : Hp w0 (Row K v xs :: Γ) w) (hs : Src w xv ys.length (K.flat ys) m) (hb : (xs.length + ys.length) * by_ ≤ 140737488355328)
    (hk : ∀ A c w', Hp w0 (Row K (.slice A (xs ++ ys).length c) (xs ++ ys) :: Γ) w' → R P n ops l k (updo ρ dst (.slice A (xs ++ ys).length c)) w') (hw : wn n ops ρ ⟨dst, .call ⟨.builtin .append, #[x, y], #[t, t]⟩, ty, pos, after, g⟩ = true := by rfl) : R P n ops (⟨dst, .call ⟨.builtin .append, #[x, y], #[t, t]⟩, ty, pos, after, g⟩ :: l) k ρ w := by
  obtain ⟨A, c, w', hr, H'⟩ := H.append (ty' := ty) hT hK hKs hs hb
  refine r_val ?_ hw (hk A c w' H')
  simp [execOp, resolve, invoke, builtin, hx, hy, hr]
/-- s[lo:hi:max] -/
theorem run_sliceBound {y lim : Nat} {kk : IntKind} {code : BoundsCode} (h : lim ≤ y) : (Instr.sliceBound (.int kk (lim : Int)) y code).run P w = .ok lim w := by
  have : (lim : Int) ≤ y := by omega
  simp [Instr.sliceBound, asIntOf, this]
def boundIs (ρ : Operand → Value) (o : Option Operand) (m d : Nat) : Prop := match o with | some x => ∃ kk i, ρ x = .int kk i ∧ i = (m : Int) | none => m = d
theorem r_slice {t e sz m c lo hi mx : Nat} {A : Option Addr} {ol oh om : Option Operand} (hT : IxT P t e sz) (hx : ev n ρ x = .slice A m c) (hm : boundIs (ev n ρ) om mx c) (hh : boundIs (ev n ρ) oh hi m) (hl : boundIs (ev n ρ) ol lo 0) (hom : om = none ∨ oh ≠ none) (h1 : lo ≤ hi) (h2 : hi ≤ mx) (h3 : mx ≤ c)
    (hk : R P n ops l k (updo ρ dst (.slice (if mx = lo then A else A.map (·.add (lo * sz))) (hi - lo) (mx - lo))) w) (hw : wn n ops ρ ⟨dst, .slice t x ol oh om, ty, pos, after, g⟩ = true := by rfl) : R P n ops (⟨dst, .slice t x ol oh om, ty, pos, after, g⟩ :: l) k ρ w := by
  refine r_val ?_ hw hk
  have hb : (Instr.sliceBounds true m c (ol.map (ev n ρ)) (oh.map (ev n ρ)) (om.map (ev n ρ))).run P w = .ok (lo, hi, mx) w := by
    cases om with
    | none =>
      simp only [boundIs] at hm
      subst hm
      cases oh with
      | none =>
        simp only [boundIs] at hh
        subst hh
        cases ol with
        | none => simp only [boundIs] at hl; subst hl; simp [Instr.sliceBounds]
        | some q => obtain ⟨kk, i, hq, rfl⟩ := hl; simp [Instr.sliceBounds, hq, run_sliceBound h1]
      | some p =>
        obtain ⟨kp, ip, hp, rfl⟩ := hh
        cases ol with
        | none => simp only [boundIs] at hl; subst hl; simp [Instr.sliceBounds, hp, run_sliceBound h2]
        | some q => obtain ⟨kk, i, hq, rfl⟩ := hl; simp [Instr.sliceBounds, hp, hq, run_sliceBound h1, run_sliceBound h2]
    | some r =>
      obtain ⟨kr, ir, hr, rfl⟩ := hm
      cases oh with
      | none => simp at hom
      | some p =>
        obtain ⟨kp, ip, hp, rfl⟩ := hh
        cases ol with
        | none => simp only [boundIs] at hl; subst hl; simp [Instr.sliceBounds, hp, hr, run_sliceBound h2, run_sliceBound h3]
        | some q => obtain ⟨kk, i, hq, rfl⟩ := hl; simp [Instr.sliceBounds, hp, hq, hr, run_sliceBound h1, run_sliceBound h2, run_sliceBound h3]
  simp [execOp, hx, Instr.sliceAt, Instr.slice, run_underlying hT.1, hT.2 w, hb]
end
end Go.Proofs.Ytdhekpodgemneaa
