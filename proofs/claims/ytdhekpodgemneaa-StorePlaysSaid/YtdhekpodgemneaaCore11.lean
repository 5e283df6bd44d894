/- More rules: texts that are compared, maps. No program in it. -/
import Derived.Test.YtdhekpodgemneaaCore8
import Derived.Lib.Bytealg
import Derived.Laws.Externs
import Derived.Maps.OwnSet
set_option linter.unusedVariables false
set_option linter.unusedSimpArgs false
namespace Go.Proofs.Ytdhekpodgemneaa
open Go Go.RowKit Go.ChangeShapes Go.WideShapes
open Go.Maps (Keyed)

/-! ### texts that are compared -/
def scmp (a b : ByteArray) : Int := Lib.compareBytes a.data.toList b.data.toList
def CmpX (P : Program) (f : FuncId) : Prop := ∀ (args : Array Value) (w : World), (callFunc f args).run P w = ((Extern.BytealgCompare.compare args).run P w).andThen fun v w' => .ok (.value v) w'
section
variable {P : Program} {n : Nat} {k : Kt} {ρ : Nat → Value} {w w0 : World} {ops : Array Oper} {l : List Oper} {Γ : List (World → Prop)} {A B : World → Prop}
variable {dst : Option Tmp} {ty : TypeId} {pos : String} {after : Array Edge} {g : Option (Nat × Bool)}
variable {v : Value} {t : TypeId} {x y z : Operand} {i : Nat}
theorem r_cmps {f : FuncId} {a b : ByteArray} {ts : Array TypeId} (hE : CmpX P f) (hx : ev n ρ x = .string a) (hy : ev n ρ y = .string b) (hk : R P n ops l k (updo ρ dst (.int .i64 (scmp a b))) w)
    (hw : wn n ops ρ ⟨dst, .call ⟨.value (.func f), #[x, y], ts⟩, ty, pos, after, g⟩ = true := by rfl) : R P n ops (⟨dst, .call ⟨.value (.func f), #[x, y], ts⟩, ty, pos, after, g⟩ :: l) k ρ w := by
  refine r_val (v := .int .i64 (scmp a b)) (w' := w) ?_ hw hk
  have h := hE #[.string a, .string b] w
  rw [Lib.run_compareString] at h
  have e : ev n ρ (.func f) = .func (.func f) #[] #[] := rfl
  simp only [Result.andThen] at h
  simp [execOp, resolve, Deferred.ofValue, invoke, e, hx, hy, h, scmp]

/-! ### maps from integers to integers, of the code's own -/
def mget : List (Int × Int) → Int → Option Int
  | [], _ => none
  | (k, u) :: m, x => if k = x then some u else mget m x
def mgetD (m : List (Int × Int)) (x : Int) : Int := (mget m x).getD 0
def mput : List (Int × Int) → Int → Int → List (Int × Int)
  | [], x, v => [(x, v)]
  | (k, u) :: m, x, v => if k = x then (k, v) :: m else (k, u) :: mput m x v
theorem mget_put (m : List (Int × Int)) (x v y : Int) : mget (mput m x v) y = if y = x then some v else mget m y := by
  induction m with
  | nil => simp only [mput, mget]; by_cases h : x = y <;> simp [h, eq_comm]
  | cons p m ih =>
    obtain ⟨k, u⟩ := p
    simp only [mput]
    by_cases h : k = x
    · subst h
      rw [if_pos rfl]; simp only [mget]
      by_cases h2 : k = y
      · simp [h2]
      · simp [h2, show ¬ y = k from fun e => h2 e.symm]
    · rw [if_neg h]; simp only [mget, ih]
      by_cases h2 : k = y
      · subst h2; simp [h]
      · simp [h2]
theorem mput_len (m : List (Int × Int)) (x v : Int) : (mput m x v).length = if (mget m x).isSome = true then m.length else m.length + 1 := by
  induction m with
  | nil => simp [mput, mget]
  | cons p m ih =>
    obtain ⟨k, u⟩ := p
    simp only [mput, mget]
    by_cases h : k = x
    · simp [h]
    · simp only [h, if_false, List.length_cons, ih]; split <;> rfl
def i64ok (x : Int) : Prop := -9223372036854775808 ≤ x ∧ x ≤ 9223372036854775807
instance (x : Int) : Decidable (i64ok x) := inferInstanceAs (Decidable (_ ∧ _))
theorem i64_wf {x : Int} (h : i64ok x) : (Lit.int .i64 x).wf = true := by
  simp only [Lit.wf, IntKind.min, IntKind.max, IntKind.signed, IntKind.bits, decide_eq_true_eq]
  unfold i64ok at h; simp; omega
def MpI (P : Program) (kt e b : Nat) (m : List (Int × Int)) (w : World) : Prop :=
  ∃ D : DataW Unit, w.ownsMap P kt (plainElem P e) b m.length D ∧ Maps.Tidy D ∧ Maps.size D = m.length ∧ (∀ x z, D.atKey (.int .i64 x) z = match mget m x with | some v => .lit (.int .i64 v) | none => z) ∧ ∀ x, Maps.has D (.int .i64 x) = (mget m x).isSome
structure MpT (P : Program) (t kt e : Nat) : Prop where
  und : P.underlying t = some (.map kt e)
  key : P.underlying kt = some (.int .i64)
  el : P.underlying e = some (.int .i64)
  zero : ∀ w, (zeroValue e).run P w = .ok (.int .i64 0) w
theorem ownsMap_stb {P : Program} {kt b n : Nat} {R : Value → Option (DataW Unit × List MemPlace)} {D : DataW Unit} {w u : World} (h : w.ownsMap P kt R b n D) (e : u.heap[b]? = w.heap[b]?) : u.ownsMap P kt R b n D := by
  obtain ⟨es, c, hb, F, hs, hD⟩ := h
  exact ⟨es, c, e.trans hb, F, hs, hD⟩
theorem MpI.stb {kt e b : Nat} {m : List (Int × Int)} {u : World} (h : MpI P kt e b m w) (hh : u.heap[b]? = w.heap[b]?) : MpI P kt e b m u := by
  obtain ⟨D, h1, h2⟩ := h
  exact ⟨D, ownsMap_stb h1 hh, h2⟩
theorem MpI.isMap {kt e b : Nat} {m : List (Int × Int)} (h : MpI P kt e b m w) : ∃ es c, w.heap[b]? = some (.map es c) := by
  obtain ⟨D, ⟨es, c, hb, _⟩, _⟩ := h
  exact ⟨es, c, hb⟩
/-- the block of the first atom's map is written -/
theorem Hp.at1 {b : Nat} {w' : World} (h : Hp w0 (A :: Γ) w) (hown : ∀ u, A u → ∃ es c, u.heap[b]? = some (.map es c)) (hg : w.grownBy w' (some b)) (hB : ∀ u : World, u.heap[b]? = w'.heap[b]? → B u) : Hp w0 (B :: Γ) w' := by
  obtain ⟨hq, F, f1, f2, f3⟩ := h
  have hA : A w := f3 0 A rfl w fun _ _ => rfl
  obtain ⟨es, c, hb⟩ := hown w hA
  have hlt : b < w.heap.size := (Array.getElem?_eq_some_iff.1 hb).1
  have hmem : F 0 b := by
    apply Classical.byContradiction
    intro hn
    have hu := f3 0 A rfl { w with heap := w.heap.setIfInBounds b (.cells #[] 0 (0, 0)) } fun b' hb' => by
      have hne : b ≠ b' := fun e => hn (e ▸ hb')
      simp [Array.getElem?_setIfInBounds_ne hne]
    obtain ⟨es', c', h'⟩ := hown _ hu
    simp [hlt] at h'
  obtain ⟨q1, q2, q3⟩ := hq
  refine ⟨⟨hg.os.trans q1, hg.tape.trans q2, hg.output.trans q3⟩, F, fun i b' hb' => Nat.lt_of_lt_of_le (f1 i b' hb') hg.size, f2, fun i X hX => ?_⟩
  cases i with
  | zero => simp at hX; subst hX; exact fun u hu => hB u (hu b hmem)
  | succ i =>
    intro u hu
    refine f3 (i + 1) X hX u fun b' hb' => ?_
    rw [hu b' hb']
    refine hg.block b' (f1 _ _ hb') fun e => ?_
    cases e
    have := f2 _ _ b hmem hb'; omega
theorem r_makeMap {kt e : Nat} (hT : MpT P t kt e) (H : Hp w0 Γ w) (hk : ∀ (b : Nat) (w' : World), Hp w0 (MpI P kt e b [] :: Γ) w' → R P n ops l k (updo ρ dst (.map (some b))) w')
    (hw : wn n ops ρ ⟨dst, .makeMap t none, ty, pos, after, g⟩ = true := by rfl) : R P n ops (⟨dst, .makeMap t none, ty, pos, after, g⟩ :: l) k ρ w := by
  refine r_val (v := .map (some w.heap.size)) (w' := w.alloc (.map #[] 0)) ?_ hw (hk _ _ (H.alloc _ fun u hu => ?_))
  · simp [execOp, run_makeMap]
  · refine ⟨.map [], ?_, Maps.tidy_empty, rfl, fun x z => rfl, fun x => rfl⟩
    have := World.ownsMap_made (H := Unit) w P kt (plainElem P e)
    refine ownsMap_stb this ?_
    rw [hu, heap_alloc_new]
theorem MpI.look {kt e b : Nat} {m : List (Int × Int)} (hT : MpT P t kt e) (h : MpI P kt e b m w) {x : Int} (hx : i64ok x) : (Instr.lookup t (.map (some b)) (.int .i64 x) false).run P w = .ok (.int .i64 (mgetD m x)) w := by
  obtain ⟨D, h1, h2, h3, h4, h5⟩ := h
  obtain ⟨c, hr, hat, _⟩ := h1.lookup_int (Maps.int_keyed hT.key) hT.und hT.el (hT.zero w) (Maps.keyOf_int_mk hT.key (i64_wf hx))
  rw [h4] at hat
  rw [hr]
  have : c = mgetD m x := by
    unfold mgetD
    cases hm : mget m x with
    | none => rw [hm] at hat; simp at hat; simp [hat]
    | some v => rw [hm] at hat; simp at hat; simp [hat]
  rw [this]
theorem r_lookup {kt e b : Nat} {m : List (Int × Int)} {xi : Int} (hT : MpT P t kt e) (hx : ev n ρ x = .map (some b)) (hy : ev n ρ y = .int .i64 xi) (hm : MpI P kt e b m w) (hi : i64ok xi) (hk : R P n ops l k (updo ρ dst (.int .i64 (mgetD m xi))) w)
    (hw : wn n ops ρ ⟨dst, .lookup t x y false, ty, pos, after, g⟩ = true := by rfl) : R P n ops (⟨dst, .lookup t x y false, ty, pos, after, g⟩ :: l) k ρ w :=
  r_val (by simp [execOp, hx, hy, hm.look hT hi]) hw hk
theorem r_maplen {kt e b : Nat} {m : List (Int × Int)} (hT : MpT P t kt e) (hx : ev n ρ x = .map (some b)) (hm : MpI P kt e b m w) (hk : R P n ops l k (updo ρ dst (.int .i64 (m.length : Int))) w)
    (hw : wn n ops ρ ⟨dst, .call ⟨.builtin .len, #[x], #[t]⟩, ty, pos, after, g⟩ = true := by rfl) : R P n ops (⟨dst, .call ⟨.builtin .len, #[x], #[t]⟩, ty, pos, after, g⟩ :: l) k ρ w := by
  obtain ⟨D, h1, h2, h3, h4, h5⟩ := hm
  have hl := h1.len hT.und ty
  rw [h3] at hl
  exact r_val (by simp [execOp, resolve, invoke, builtin, hx, hl]) hw hk
theorem MpI.put {kt e b : Nat} {m : List (Int × Int)} (hT : MpT P t kt e) (h : MpI P kt e b m w) {x v : Int} (hx : i64ok x) (hv : i64ok v) (hn : m.length < 100000000) :
    ∃ w', (Instr.mapUpdate t (.map (some b)) (.int .i64 x) (.int .i64 v)).run P w = .ok () w' ∧ w.grownBy w' (some b) ∧ MpI P kt e b (mput m x v) w' := by
  obtain ⟨D, h1, h2, h3, h4, h5⟩ := h
  obtain ⟨w', hr, ho, hg⟩ := h1.update (Maps.int_keyed hT.key) hT.und (by unfold maxLen; omega) (Maps.keyOf_int_mk hT.key (i64_wf hx)) (plainElem_int hT.el (i64_wf hv))
  have hkl : WideAt.IsKeyLit (.int .i64 x) := (Maps.int_keyed hT.key).key (Maps.keyOf_int_mk hT.key (i64_wf hx))
  have hsz : Maps.size (D.put (.int .i64 x) (.lit (.int .i64 v))) = (mput m x v).length := by
    rw [Maps.size_put h2, mput_len, h3, h5]
  refine ⟨w', hr, hg, D.put (.int .i64 x) (.lit (.int .i64 v)), ?_, h2.put hkl _, hsz, fun y z => ?_, fun y => ?_⟩
  · obtain ⟨es, c, hb, F, hs, hD⟩ := ho
    refine ⟨es, c, hb, F, ?_, hD⟩
    rw [← hsz, hD]; simp [Maps.size, length_sorted]
  · rw [mget_put]
    by_cases hy : y = x
    · subst hy; rw [if_pos rfl, Maps.atKey_put_same h2.isMap hkl]
    · rw [if_neg hy, Maps.atKey_put_other (by simpa using hy), h4]
  · rw [mget_put]
    by_cases hy : y = x
    · subst hy; rw [if_pos rfl, Maps.has_put_same h2.isMap hkl]; rfl
    · rw [if_neg hy, Maps.has_put_other (by simpa using hy), h5]
theorem r_mapUpdate {kt e b : Nat} {m : List (Int × Int)} {xi vi : Int} (hT : MpT P t kt e) (hx : ev n ρ x = .map (some b)) (hy : ev n ρ y = .int .i64 xi) (hz : ev n ρ z = .int .i64 vi) (H : Hp w0 (MpI P kt e b m :: Γ) w) (hi : i64ok xi ∧ i64ok vi ∧ m.length < 100000000)
    (hk : ∀ w', Hp w0 (MpI P kt e b (mput m xi vi) :: Γ) w' → R P n ops l k (updo ρ dst undef) w')
    (hw : wn n ops ρ ⟨dst, .mapUpdate t x y z, ty, pos, after, g⟩ = true := by rfl) : R P n ops (⟨dst, .mapUpdate t x y z, ty, pos, after, g⟩ :: l) k ρ w := by
  obtain ⟨w', hr, hg, hp⟩ := H.g0.put hT hi.1 hi.2.1 hi.2.2
  refine r_eff (w' := w') (by simp [execOp, hx, hy, hz, hr]) hw (hk w' ?_)
  exact H.at1 (fun u hu => hu.isMap) hg fun u hu => hp.stb hu
end
/-! ### slices of structs that hold slices, as they are read: the element's kind knows where its slices stand -/
def SlRN {α : Type} (K : Nat → Kn α) (sz : Nat) (A : Option Addr) (xs : List α) (w : World) : Prop :=
  xs.length ≤ 9223372036854775807 ∧ (xs = [] ∨ ∃ ad, A = some ad ∧ ∀ j x, xs[j]? = some x → ∀ f u, ((K j).enc x)[f]? = some u → w.cell? ((ad.add (j * sz)).add f) = some u)
section
variable {α : Type} {K : Nat → Kn α} {sz : Nat} {A : Option Addr} {xs : List α} {w : World} {j : Nat} {x : α} {ad : Addr}
theorem SlRN.lim (h : SlRN K sz A xs w) : xs.length ≤ 9223372036854775807 := h.1
theorem SlRN.cA (h : SlRN K sz A xs w) (hA : A = some ad) (hj : xs[j]? = some x) (f : Nat) (u : Value) (hu : ((K j).enc x)[f]? = some u) : w.cell? ((ad.add (j * sz)).add f) = some u := by
  rcases h.2 with rfl | ⟨ad', e, hc⟩
  · simp at hj
  · rw [hA] at e; cases e; exact hc j x hj f u hu
theorem SlRN.csA (h : SlRN K sz A xs w) (hA : A = some ad) (hj : xs[j]? = some x) : ∀ (f : Nat) u, ((K j).enc x)[f]? = some u → w.cell? ((ad.add (j * sz)).add f) = some u := fun f u hu => h.cA hA hj f u hu
theorem SlRN.c0A (h : SlRN K sz A xs w) (hA : A = some ad) (hj : xs[j]? = some x) (u : Value) (hu : ((K j).enc x)[0]? = some u) : w.cell? (ad.add (j * sz)) = some u := by
  have := h.cA hA hj 0 u hu
  rwa [show (ad.add (j * sz)).add 0 = ad.add (j * sz) from by simp [Addr.add]] at this
theorem SlRN.adO (h : SlRN K sz A xs w) (hj : xs[j]? = some x) : A = some (oA A) := by
  rcases h.2 with rfl | ⟨ad', e, hc⟩
  · simp at hj
  · rw [e]; rfl
end
end Go.Proofs.Ytdhekpodgemneaa
