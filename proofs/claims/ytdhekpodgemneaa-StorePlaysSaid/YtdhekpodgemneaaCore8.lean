/- Struct equality, cuts of slices, appending without room, new slices, tables. No program in it. -/
import Derived.Test.YtdhekpodgemneaaCore7
import Derived.Laws.StructEq
import Derived.Laws.Cover3
set_option linter.unusedVariables false
set_option linter.unusedSimpArgs false
namespace Go.Proofs.Ytdhekpodgemneaa
open Go Go.RowKit

/-! ### == of structs -/
section
variable {P : Program} {t : TypeId} {off m : Nat} {xs ys : List Value} {v : Value} {fs : List Field} {f : Field} {s : Bool}
theorem part_1 (hT : Ld1 P t) (h : xs[off]? = some v) (w : World) : (part t xs.toArray off).run P w = .ok v w := by
  simp [part, (hT w).1, h]
theorem part_A (hT : LdA P t m) (w : World) : (part t xs.toArray off).run P w = .ok (.agg ((xs.drop off).take m).toArray) w := by
  simp [part, (hT w).1, (hT w).2]
def EqT (P : Program) (t m : Nat) (xs ys : List Value) (b : Bool) : Prop := ∀ d w, m ≤ d → (Op.equalIn d t (.agg xs.toArray) (.agg ys.toArray)).run P w = .ok b w
def EqFs (P : Program) (m : Nat) (fs : List Field) (xs ys : List Value) (b : Bool) : Prop := ∀ d w, m ≤ d → (Op.eqFields d xs.toArray ys.toArray fs).run P w = .ok b w
theorem eqs_nil : EqFs P m [] xs ys true := fun d w _ => by simp [Op.eqFields]
theorem eqs_step {r : Bool} {a b : Value} (hn : (f.name == "_") = false) (ha : ∀ w, (part f.type xs.toArray f.offset).run P w = .ok a w) (hb : ∀ w, (part f.type ys.toArray f.offset).run P w = .ok b w)
    (he : ∀ d w, m ≤ d → (Op.equalIn d f.type a b).run P w = .ok r w) (h : EqFs P m fs xs ys s) : EqFs P m (f :: fs) xs ys (r && s) := fun d w hd => by
  have hn' : f.name ≠ "_" := by simpa using hn
  simp only [Op.eqFields, if_pos hn', Sem.run_bind, ha, hb, he d w hd, Result.andThen_ok]
  cases r
  · simp
  · simpa using h d w hd
theorem eqs_int {kk k : IntKind} {a b : Int} (hn : (f.name == "_") = false) (hT : Ld1 P f.type) (hu : P.underlying f.type = some (.int kk)) (hx : xs[f.offset]? = some (.int k a)) (hy : ys[f.offset]? = some (.int k b)) (hm : 1 ≤ m) (h : EqFs P m fs xs ys s) : EqFs P m (f :: fs) xs ys ((a == b) && s) :=
  eqs_step hn (part_1 hT hx) (part_1 hT hy) (fun d w hd => by
    obtain ⟨d', rfl⟩ : ∃ d', d = d' + 1 := ⟨d - 1, by omega⟩
    exact run_equalIn_int w d' f.type k kk a b hu) h
theorem eqs_bool {a b : Bool} (hn : (f.name == "_") = false) (hT : Ld1 P f.type) (hu : P.underlying f.type = some .bool) (hx : xs[f.offset]? = some (.bool a)) (hy : ys[f.offset]? = some (.bool b)) (hm : 1 ≤ m) (h : EqFs P m fs xs ys s) : EqFs P m (f :: fs) xs ys ((a == b) && s) :=
  eqs_step hn (part_1 hT hx) (part_1 hT hy) (fun d w hd => by
    obtain ⟨d', rfl⟩ : ∃ d', d = d' + 1 := ⟨d - 1, by omega⟩
    exact run_equalIn_bool' w d' f.type a b hu) h
theorem eqs_str {a b : ByteArray} (hn : (f.name == "_") = false) (hT : Ld1 P f.type) (hu : P.underlying f.type = some .string) (hx : xs[f.offset]? = some (.string a)) (hy : ys[f.offset]? = some (.string b)) (hm : 1 ≤ m) (h : EqFs P m fs xs ys s) : EqFs P m (f :: fs) xs ys ((a.toList == b.toList) && s) :=
  eqs_step hn (part_1 hT hx) (part_1 hT hy) (fun d w hd => by
    obtain ⟨d', rfl⟩ : ∃ d', d = d' + 1 := ⟨d - 1, by omega⟩
    exact run_equalIn_string w d' f.type a b hu) h
theorem eqs_agg {r : Bool} {q : Nat} (hn : (f.name == "_") = false) (hT : LdA P f.type q) (he : EqT P f.type m ((xs.drop f.offset).take q) ((ys.drop f.offset).take q) r) (h : EqFs P m fs xs ys s) : EqFs P m (f :: fs) xs ys (r && s) :=
  eqs_step hn (part_A hT) (part_A hT) (fun d w hd => he d w hd) h
theorem eqt_of {fs : Array Field} (hu : P.underlying t = some (.struct fs)) (hp : P.stoodInHeld t = false) (h : EqFs P m fs.toList xs ys s) : EqT P t (m + 1) xs ys s := fun d w hd => by
  obtain ⟨d', rfl⟩ : ∃ d', d = d' + 1 := ⟨d - 1, by omega⟩
  have hf : P.fieldsOf t = fs := by simp [Program.fieldsOf, hu]
  rw [run_equalIn_struct w d' t _ _ (by rw [hf]; exact hu) hp, hf]
  exact h d' w (by omega)
theorem EqT.mono {b : Bool} {q : Nat} (h : EqT P t m xs ys b) (hq : m ≤ q) : EqT P t q xs ys b := fun d w hd => h d w (by omega)
end
section
variable {P : Program} {n : Nat} {k : Kt} {ρ : Nat → Value} {w w0 : World} {Γ : List (World → Prop)} {ops : Array Oper} {l : List Oper} {dst : Option Tmp} {ty : TypeId} {pos : String} {after : Array Edge} {g : Option (Nat × Bool)} {t yt : TypeId} {x y z : Operand} {α : Type} {K : Kn α} {xs ys : List α}
theorem r_eqS {as bs : List Value} {b : Bool} {m : Nat} (hT : EqT P t m as bs b) (hm : m ≤ 10000) (hg : P.eqGuardType P.depth t = false) (hx : ev n ρ x = .agg as.toArray) (hy : ev n ρ y = .agg bs.toArray) (hk : R P n ops l k (updo ρ dst (.bool b)) w) (hw : wn n ops ρ ⟨dst, .binOp .eql t x y yt, ty, pos, after, g⟩ = true := by rfl) : R P n ops (⟨dst, .binOp .eql t x y yt, ty, pos, after, g⟩ :: l) k ρ w :=
  r_val (by simp only [execOp, hx, hy, Sem.run_bind, run_eqGuard_agg w .eql t x y _ _ hg, Result.andThen_ok, run_eql_struct, hT 10000 w hm]; rfl) hw hk
theorem r_neS {as bs : List Value} {b : Bool} {m : Nat} (hT : EqT P t m as bs b) (hm : m ≤ 10000) (hg : P.eqGuardType P.depth t = false) (hx : ev n ρ x = .agg as.toArray) (hy : ev n ρ y = .agg bs.toArray) (hk : R P n ops l k (updo ρ dst (.bool (!b))) w) (hw : wn n ops ρ ⟨dst, .binOp .neq t x y yt, ty, pos, after, g⟩ = true := by rfl) : R P n ops (⟨dst, .binOp .neq t x y yt, ty, pos, after, g⟩ :: l) k ρ w :=
  r_val (by simp only [execOp, hx, hy, Sem.run_bind, run_eqGuard_agg w .neq t x y _ _ hg, Result.andThen_ok, run_neq_struct, hT 10000 w hm]; rfl) hw hk

/-! ### cuts -/
def cutA (A : Option Addr) (lo mx : Int) (sz : Nat) : Option Addr := if mx.toNat = lo.toNat then A else A.map (·.add (lo.toNat * sz))
def sb (xs : List α) (lo hi : Int) : List α := (xs.take hi.toNat).drop lo.toNat
theorem sb_len {lo hi : Int} (h0 : 0 ≤ lo) (h1 : lo ≤ hi) (h2 : hi ≤ (xs.length : Int)) : (sb xs lo hi).length = hi.toNat - lo.toNat := by simp [sb]; omega
def BI (ρ : Operand → Value) (o : Option Operand) (i : Int) (d : Nat) : Prop := match o with | some x => ∃ kk, ρ x = .int kk i | none => i = (d : Int)
theorem BI.to {ρ : Operand → Value} {o : Option Operand} {i : Int} {d : Nat} (h : BI ρ o i d) (hi : 0 ≤ i) : boundIs ρ o i.toNat d := by
  cases o with
  | none => simp only [BI] at h; simp only [boundIs]; omega
  | some x => obtain ⟨kk, h⟩ := h; exact ⟨kk, i, h, by omega⟩
theorem r_cut2 {e sz m c : Nat} {lo hi : Int} {A : Option Addr} {ol oh : Option Operand} (hT : IxT P t e sz) (hx : ev n ρ x = .slice A m c) (hm : m = xs.length) (hc : xs.length ≤ c) (hh : BI (ev n ρ) oh hi m) (hl : BI (ev n ρ) ol lo 0) (h : 0 ≤ lo ∧ lo ≤ hi ∧ hi ≤ (xs.length : Int))
    (hk : R P n ops l k (updo ρ dst (.slice (cutA A lo (c : Int) sz) (sb xs lo hi).length (c - lo.toNat))) w) (hw : wn n ops ρ ⟨dst, .slice t x ol oh none, ty, pos, after, g⟩ = true := by rfl) : R P n ops (⟨dst, .slice t x ol oh none, ty, pos, after, g⟩ :: l) k ρ w := by
  obtain ⟨h0, h1, h2⟩ := h
  refine r_slice (mx := c) hT hx rfl (hh.to (by omega)) (hl.to h0) (.inl rfl) (by omega) (by omega) (Nat.le_refl _) ?_ hw
  rw [sb_len h0 h1 h2] at hk
  exact hk
theorem r_cut3 {e sz m c : Nat} {lo hi mx : Int} {A : Option Addr} {ol : Option Operand} {oh om : Operand} (hT : IxT P t e sz) (hx : ev n ρ x = .slice A m c) (hm : m = xs.length) (hc : xs.length ≤ c) (hmx : BI (ev n ρ) (some om) mx c) (hh : BI (ev n ρ) (some oh) hi m) (hl : BI (ev n ρ) ol lo 0) (h : 0 ≤ lo ∧ lo ≤ hi ∧ hi ≤ mx ∧ mx ≤ (xs.length : Int))
    (hk : R P n ops l k (updo ρ dst (.slice (cutA A lo mx sz) (sb xs lo hi).length (mx.toNat - lo.toNat))) w) (hw : wn n ops ρ ⟨dst, .slice t x ol (some oh) (some om), ty, pos, after, g⟩ = true := by rfl) : R P n ops (⟨dst, .slice t x ol (some oh) (some om), ty, pos, after, g⟩ :: l) k ρ w := by
  obtain ⟨h0, h1, h2, h3⟩ := h
  refine r_slice (mx := mx.toNat) hT hx (hmx.to (by omega)) (hh.to (by omega)) (hl.to h0) (.inr (by simp)) (by omega) (by omega) (by omega) ?_ hw
  rw [sb_len h0 h1 (by omega)] at hk
  exact hk
theorem SlR.sb {A : Option Addr} {lo hi mx : Int} (h : SlR K A xs w) (h1 : lo ≤ hi) (h2 : hi ≤ mx) : SlR K (cutA A lo mx K.sz) (sb xs lo hi) w := by
  refine h.cut lo.toNat hi.toNat mx.toNat ?_
  by_cases he : mx.toNat = lo.toNat
  · refine .inr (.inr ?_)
    apply List.drop_of_length_le; simp; omega
  · exact .inr (.inl he)
theorem Row.sb {A : Option Addr} {m c : Nat} {lo hi mx : Int} (h : Row K (.slice A m c) xs w) (h0 : 0 ≤ lo) (h1 : lo ≤ hi) (h2 : hi ≤ mx) (h3 : mx ≤ (c : Int)) (h4 : hi ≤ (xs.length : Int)) : Row K (.slice (cutA A lo mx K.sz) (sb xs lo hi).length (mx.toNat - lo.toNat)) (sb xs lo hi) w := by
  rw [sb_len h0 h1 h4]
  exact h.cut lo.toNat hi.toNat mx.toNat (by omega) (by omega) (by omega) (by omega)
theorem sb_cap2 {lo hi : Int} {c : Nat} (hc : xs.length ≤ c) (h : 0 ≤ lo ∧ lo ≤ hi ∧ hi ≤ (xs.length : Int)) : (sb xs lo hi).length ≤ c - lo.toNat := by
  rw [sb_len h.1 h.2.1 h.2.2]; omega
theorem sb_cap3 {lo hi mx : Int} (h : 0 ≤ lo ∧ lo ≤ hi ∧ hi ≤ mx ∧ mx ≤ (xs.length : Int)) : (sb xs lo hi).length ≤ mx.toNat - lo.toNat := by
  rw [sb_len h.1 h.2.1 (by omega)]; omega

/-! ### append without room -/
theorem run_appendN {e m by_ c0 : Nat} {xv : Value} {ty' : TypeId} {A0 : Option Addr} (hT : ApT P t e m by_) (hK : K.ty = e) (hKs : K.sz = m) (H : Hp w0 Γ w) (h1 : Src w (.slice A0 xs.length c0) xs.length (K.flat xs) m) (hs : Src w xv ys.length (K.flat ys) m) (hroom : ¬ xs.length + ys.length ≤ c0) (hb : (xs.length + ys.length) * by_ ≤ 140737488355328) :
    ∃ A c w', (Builtin.append_ #[t, t] ty' #[.slice A0 xs.length c0, xv]).run P w = .ok (.slice A (xs ++ ys).length c) w' ∧ Hp w0 (Row K (.slice A (xs ++ ys).length c) (xs ++ ys) :: Γ) w' := by
  obtain ⟨hu, hby, i, z, hi, hsz, hbt, hz, hzl⟩ := hT
  subst hK; subst hKs
  have hbig : xs.length + ys.length ≤ 140737488355328 := Nat.le_trans (Nat.le_mul_of_pos_right _ hby) hb
  have hlen := hs.len (P := P) (w := w)
  have e1 : (Builtin.append_ #[t, t] ty' #[.slice A0 xs.length c0, xv]).run P w =
      (((Builtin.firstCells K.sz xs.length (.slice A0 xs.length c0)).run P w.drew).andThen fun old w' => ((Builtin.firstCells K.sz ys.length xv).run P w').andThen fun new w' =>
          .ok (.slice (some ⟨w'.heap.size, 0, none⟩) (xs.length + ys.length) (grownCap w (xs.length + ys.length) c0 K.ty)) (w'.alloc (.cells (old ++ new ++ Builtin.zeroCells z.cells (grownCap w (xs.length + ys.length) c0 K.ty - (xs.length + ys.length))) K.ty))) := by
    have hn1 : ¬ (9223372036854775807 < ((xs.length : Int) + (ys.length : Int))) := by omega
    have hgf : ¬ (281474976710656 < Builtin.nextslicecap (xs.length + ys.length) c0 * i.bytes) := by
      have := growslice_fits (old := c0) (need := xs.length + ys.length) (bytes := by_) (by omega) hb
      rw [hbt]; omega
    simp [Builtin.append_, run_underlying hu, sizeOf, typeInfo, zeroValue, hi, hz, hlen, hroom, hsz, hn1, hgf, Question.forced, newRow]
    rfl
  rw [e1]
  have hla : (xs ++ ys).length = xs.length + ys.length := List.length_append
  have hs2 : Src w.drew xv ys.length (K.flat ys) K.sz := hs
  have hr2 : Src w.drew (.slice A0 xs.length c0) xs.length (K.flat xs) K.sz := h1
  rw [run_first hr2 K.pos, Result.andThen_ok, run_first hs2 K.pos, Result.andThen_ok]
  have hge := grownCap_ge w (xs.length + ys.length) c0 K.ty
  have hle := grownCap_le_maxLen w (xs.length + ys.length) c0 K.ty (by simp only [maxLen]; omega)
  refine ⟨some ⟨w.drew.heap.size, 0, none⟩, grownCap w (xs.length + ys.length) c0 K.ty, _, by rw [hla], ?_⟩
  refine H.drew.alloc _ fun u hu => ?_
  refine .inr ⟨w.drew.heap.size, 0, _, _, rfl, hu, by rw [hla]; exact hge, hle, ?_, fun i u hu => ?_⟩
  · simp only [Array.size_append, List.size_toArray, zeroCells_len, hzl, K.flat_len, Nat.zero_add]
    have : (grownCap w (xs.length + ys.length) c0 K.ty) * K.sz = (xs.length + ys.length) * K.sz + (grownCap w (xs.length + ys.length) c0 K.ty - (xs.length + ys.length)) * K.sz := by
      rw [← Nat.add_mul]; congr 1; omega
    rw [this, Nat.add_mul]; exact Nat.le_refl _
  · rw [K.flat_append] at hu
    have hil := (List.getElem?_eq_some_iff.1 hu).1
    rw [Nat.zero_add, Array.getElem?_append_left (by simpa using hil)]
    simpa using hu
theorem r_appendN {e m by_ c0 : Nat} {xv : Value} {A0 : Option Addr} (hT : ApT P t e m by_) (hK : K.ty = e) (hKs : K.sz = m) (hx : ev n ρ x = .slice A0 xs.length c0) (hy : ev n ρ y = xv) (H : Hp w0 Γ w) (h1 : Src w (.slice A0 xs.length c0) xs.length (K.flat xs) m) (hs : Src w xv ys.length (K.flat ys) m) (hroom : c0 ≤ xs.length) (hne : 0 < ys.length) (hb : (xs.length + ys.length) * by_ ≤ 140737488355328)
    (hk : ∀ A c w', Hp w0 (Row K (.slice A (xs ++ ys).length c) (xs ++ ys) :: Γ) w' → R P n ops l k (updo ρ dst (.slice A (xs ++ ys).length c)) w') (hw : wn n ops ρ ⟨dst, .call ⟨.builtin .append, #[x, y], #[t, t]⟩, ty, pos, after, g⟩ = true := by rfl) : R P n ops (⟨dst, .call ⟨.builtin .append, #[x, y], #[t, t]⟩, ty, pos, after, g⟩ :: l) k ρ w := by
  obtain ⟨A, c, w', hr, H'⟩ := run_appendN (ty' := ty) hT hK hKs H h1 hs (by omega) hb
  refine r_val ?_ hw (hk A c w' H')
  simp [execOp, resolve, invoke, builtin, hx, hy, hr]

/-! ### new slices -/
theorem run_makeS {e m i by_ : Nat} {ty' : TypeId} {zc : α} (hT : ApT P t e m by_) (hK : K.ty = e) (hKs : K.sz = m) (hz : ∀ w, ∃ zv, (zeroValue e).run P w = .ok zv w ∧ zv.cells = (K.enc zc).toArray) (hi : i * by_ ≤ 140737488355328) (H : Hp w0 Γ w) :
    ∃ b w', (Instr.makeSlice t (.int .i64 (i : Int)) (.int .i64 (i : Int))).run P w = .ok (.slice (some ⟨b, 0, none⟩) i i) w' ∧ Hp w0 (Row K (.slice (some ⟨b, 0, none⟩) i i) (List.replicate i zc) :: Γ) w' := by
  obtain ⟨hu, hby, q, z, hq, hsz, hbt, hzq, hzl⟩ := hT
  subst hK; subst hKs
  obtain ⟨zv, hz1, hz2⟩ := hz w
  have hbig : i ≤ 140737488355328 := Nat.le_trans (Nat.le_mul_of_pos_right _ hby) hi
  have hwr : IntKind.i64.wrap (i : Int) = (i : Int) := IntWalk.i64_in _ (by omega)
  have hl : ¬ (281474976710656 < (q.bytes : Int) * (i : Int)) := by
    rw [hbt, Int.mul_comm]
    have : ((i * by_ : Nat) : Int) ≤ ((140737488355328 : Nat) : Int) := Int.ofNat_le.2 hi
    rw [Int.natCast_mul] at this; omega
  have hnn : ¬ ((i : Int) < 0) := by omega
  have hcells : ((Array.range (i * K.sz)).map (zv.cells[· % zv.cells.size]!)) = (reps (K.enc zc) i).toArray := by
    rw [hz2, ← K.len zc, range_reps (K.enc zc) i (by rw [K.len]; exact K.pos)]
  have hrf : ∀ i, reps (K.enc zc) i = K.flat (List.replicate i zc) := by
    intro i
    induction i with
    | zero => rfl
    | succ i ih => rw [reps, List.replicate_succ, Kn.flat_cons, ih]
  refine ⟨w.heap.size, w.alloc (.cells (K.flat (List.replicate i zc)).toArray K.ty), ?_, H.alloc _ fun u hu => ?_⟩
  · simp only [Instr.makeSlice, Sem.run_bind, run_underlying hu, Result.andThen_ok, typeInfo, sizeOf]
    simp only [asInt, Sem.run_bind, Sem.run_pure, Result.andThen_ok]
    simp [hwr, hnn, hl, hq, hsz, asIntOf, Int.toNat_natCast]
    by_cases h0 : i * K.sz = 0
    · have : i = 0 := by
        rcases Nat.mul_eq_zero.1 h0 with h | h
        · exact h
        · have := K.pos; omega
      subst this
      simp [newRow, Kn.flat]
      congr 2
      apply Array.eq_empty_of_size_eq_zero
      simp
    · have h0' : ¬ (i = 0 ∨ K.sz = 0) := fun h => h0 (by rcases h with h | h <;> simp [h])
      simp [h0', hz1, newRow, hcells, hrf]
      intro h; exact absurd h h0
  · rcases Nat.eq_zero_or_pos i with h0 | h0
    · exact .inl ⟨some ⟨w.heap.size, 0, none⟩, by rw [h0], by rw [h0]; rfl⟩
    · refine .inr ⟨w.heap.size, 0, i, _, by simp, hu, by simp, by simp only [maxLen]; omega, ?_, fun j u hu => by simpa using hu⟩
      simp [K.flat_len]
/-! ### tables -/
structure Raw (m : Nat) where
  cs : List Value
  len : cs.length = m
  one : cs.all Value.oneCell' = true
def Kr (ty m : Nat) (hm : 0 < m) : Kn (Raw m) := ⟨ty, m, fun x => x.cs, fun x => x.len, hm, fun x => x.one⟩
theorem r_makeS {e m by_ i : Nat} {zc : α} (hT : ApT P t e m by_) (hK : K.ty = e) (hKs : K.sz = m) (hz : ∀ w, ∃ zv, (zeroValue e).run P w = .ok zv w ∧ zv.cells = (K.enc zc).toArray) (hx : ev n ρ x = .int .i64 (i : Int)) (hy : ev n ρ y = .int .i64 (i : Int)) (hi : i * by_ ≤ 140737488355328) (H : Hp w0 Γ w)
    (hk : ∀ b w', Hp w0 (Row K (.slice (some ⟨b, 0, none⟩) i i) (List.replicate i zc) :: Γ) w' → R P n ops l k (updo ρ dst (.slice (some ⟨b, 0, none⟩) i i)) w') (hw : wn n ops ρ ⟨dst, .makeSlice t x y, ty, pos, after, g⟩ = true := by rfl) : R P n ops (⟨dst, .makeSlice t x y, ty, pos, after, g⟩ :: l) k ρ w := by
  obtain ⟨b, w', hr, H'⟩ := run_makeS (ty' := ty) hT hK hKs hz hi H
  refine r_val ?_ hw (hk b w' H')
  simp [execOp, hx, hy, hr]
/-- room for i elements, from nothing -/
theorem run_appendZ {e m by_ i : Nat} {t2 : TypeId} {kk : IntKind} {ty' : TypeId} {zc : α} (hT : ApT P t e m by_) (hu2 : P.underlying t2 = some (.int kk)) (hK : K.ty = e) (hKs : K.sz = m) (hz : ∀ w, ∃ zv, (zeroValue e).run P w = .ok zv w ∧ zv.cells = (K.enc zc).toArray) (H : Hp w0 Γ w) (hb : i * by_ ≤ 140737488355328) :
    ∃ A c w', (Builtin.append_ #[t, t2] ty' #[.slice none 0 0, .int .i64 (i : Int)]).run P w = .ok (.slice A i c) w' ∧ i ≤ c ∧ Hp w0 (Row K (.slice A i c) (List.replicate i zc) :: Γ) w' := by
  obtain ⟨hu, hby, q, z, hi, hsz, hbt, hzq, hzl⟩ := hT
  subst hK; subst hKs
  have hbig : i ≤ 140737488355328 := Nat.le_trans (Nat.le_mul_of_pos_right _ hby) hb
  have hwr : IntKind.i64.wrap (i : Int) = (i : Int) := IntWalk.i64_in _ (by omega)
  have hnn : ¬ ((i : Int) < 0) := by omega
  have hl : ¬ (281474976710656 < (i : Int) * (q.bytes : Int)) := by
    rw [hbt]
    have : ((i * by_ : Nat) : Int) ≤ ((140737488355328 : Nat) : Int) := Int.ofNat_le.2 hb
    rw [Int.natCast_mul] at this; omega
  have hzc : z.cells = (K.enc zc).toArray := by
    obtain ⟨zv, h1, h2⟩ := hz w
    have h1' : (zeroValue K.ty).run P w = .ok z w := by simp [zeroValue, typeInfo, hi, hzq]
    rw [h1'] at h1
    cases h1; exact h2
  rcases Nat.eq_zero_or_pos i with h0 | h0
  · subst h0
    refine ⟨none, 0, w, ?_, Nat.le_refl _, H.add fun u => Row.nil u⟩
    have hw0 : IntKind.i64.wrap 0 = 0 := IntWalk.i64_in _ (by omega)
    simp [Builtin.append_, run_underlying hu, run_underlying hu2, sizeOf, typeInfo, hi, hsz, asInt, asIntOf, hw0]
  · have hgf : ¬ (281474976710656 < Builtin.nextslicecap i 0 * q.bytes) := by
      have := growslice_fits (old := 0) (need := i) (bytes := by_) (by omega) hb
      rw [hbt]; omega
    have hn1 : ¬ (9223372036854775807 < (i : Int)) := by omega
    have hi0 : ¬ i = 0 := by omega
    have hge := grownCap_ge w i 0 K.ty
    have hle := grownCap_le_maxLen w i 0 K.ty (by simp only [maxLen]; omega)
    have hf0 : (Builtin.firstCells K.sz 0 (.slice none 0 0)).run P w.drew = .ok #[] w.drew := by simp [Builtin.firstCells]
    have hK0 : ¬ K.sz = 0 := by have := K.pos; omega
    refine ⟨some ⟨w.drew.heap.size, 0, none⟩, grownCap w i 0 K.ty, w.drew.alloc (.cells (Builtin.zeroCells z.cells i ++ Builtin.zeroCells z.cells (grownCap w i 0 K.ty - i)) K.ty), ?_, hge, H.drew.alloc _ fun u hu => ?_⟩
    · simp [Builtin.append_, run_underlying hu, run_underlying hu2, sizeOf, typeInfo, zeroValue, hi, hzq, hsz, asInt, asIntOf, hwr, hnn, hl, hi0, hn1, hgf, Question.forced, newRow, hf0]
      rw [if_neg (Nat.mul_ne_zero hi0 hK0)]
      rfl
    · refine .inr ⟨w.drew.heap.size, 0, _, _, by simp, hu, by simpa using hge, hle, ?_, fun j u hu => ?_⟩
      · simp only [Array.size_append, zeroCells_len, hzl, Nat.zero_add]
        rw [← Nat.add_mul]
        exact Nat.mul_le_mul_right _ (by omega)
      · have hfl : K.flat (List.replicate i zc) = reps (K.enc zc) i := by
          have hrf : ∀ i, reps (K.enc zc) i = K.flat (List.replicate i zc) := by
            intro i
            induction i with
            | zero => rfl
            | succ i ih => rw [reps, List.replicate_succ, Kn.flat_cons, ih]
          exact (hrf i).symm
        rw [hfl] at hu
        have hjl := (List.getElem?_eq_some_iff.1 hu).1
        rw [reps_len, K.len] at hjl
        rw [Nat.zero_add, Array.getElem?_append_left (by rw [zeroCells_len, hzl]; exact hjl)]
        have hzr : Builtin.zeroCells z.cells i = (reps (K.enc zc) i).toArray := by
          rw [← range_reps (K.enc zc) i (by rw [K.len]; exact K.pos), hzc]
          simp [Builtin.zeroCells]
        rw [hzr]; simpa using hu
theorem r_appendZ {e m by_ : Nat} {i : Int} {t2 : TypeId} {kk : IntKind} {zc : α} (hT : ApT P t e m by_) (hu2 : P.underlying t2 = some (.int kk)) (hK : K.ty = e) (hKs : K.sz = m) (hz : ∀ w, ∃ zv, (zeroValue e).run P w = .ok zv w ∧ zv.cells = (K.enc zc).toArray) (hx : ev n ρ x = .slice none 0 0) (hy : ev n ρ y = .int .i64 i) (hi : 0 ≤ i) (H : Hp w0 Γ w) (hb : i.toNat * by_ ≤ 140737488355328)
    (hk : ∀ A c w', Hp w0 (Row K (.slice A (List.replicate i.toNat zc).length c) (List.replicate i.toNat zc) :: Γ) w' → R P n ops l k (updo ρ dst (.slice A (List.replicate i.toNat zc).length c)) w') (hw : wn n ops ρ ⟨dst, .call ⟨.builtin .append, #[x, y], #[t, t2]⟩, ty, pos, after, g⟩ = true := by rfl) : R P n ops (⟨dst, .call ⟨.builtin .append, #[x, y], #[t, t2]⟩, ty, pos, after, g⟩ :: l) k ρ w := by
  obtain ⟨A, c, w', hr, _, H'⟩ := run_appendZ (i := i.toNat) (ty' := ty) hT hu2 hK hKs hz H hb
  have hii : ((i.toNat : Nat) : Int) = i := by omega
  rw [hii] at hr
  simp only [List.length_replicate] at hk
  refine r_val ?_ hw (hk A c w' H')
  simp [execOp, resolve, invoke, builtin, hx, hy, hr]
/-- a byte of a text that is given -/
def byteAt (s : ByteArray) (i : Int) : Int := match s[i.toNat]? with | some b => (b.toNat : Int) | none => 0
theorem r_byte {s : ByteArray} {i : Int} {kk : IntKind} (ht : P.underlying t = some .string) (hx : ev n ρ x = .string s) (hy : ev n ρ y = .int kk i) (h : 0 ≤ i ∧ i < (s.size : Int)) (hk : R P n ops l k (updo ρ dst (.int .u8 (byteAt s i))) w) (hw : wn n ops ρ ⟨dst, .index t x y, ty, pos, after, g⟩ = true := by rfl) : R P n ops (⟨dst, .index t x y, ty, pos, after, g⟩ :: l) k ρ w := by
  obtain ⟨h0, h1⟩ := h
  have hlt : i.toNat < s.size := by omega
  refine r_val ?_ hw hk
  simp only [execOp, Instr.index, hx, hy, asIntOf, Sem.run_bind, Sem.run_pure, Result.andThen_ok, run_underlying ht]
  have hs : s[i.toNat]? = some s[i.toNat] := by simp [hlt]
  simp [h0, byteAt, hs]
/-- a literal of which each element is given, in order -/
def Full (K : Kn α) (ρ : Operand → Value) : Nat → List (Nat × Operand) → List α → Prop
  | _, [], [] => True
  | i, (j, x) :: ps, y :: ys => j = i ∧ (ρ x).cells = (K.enc y).toArray ∧ Full K ρ (i + 1) ps ys
  | _, _, _ => False
theorem fill_full (K : Kn α) (f : Operand → Value) (z : List Value) (hz : z.length = K.sz) : ∀ (ys : List α) (ps : List (Nat × Operand)) (i : Nat) (dn : List Value), dn.length = i * K.sz → Full K f i ps ys → fillL (fun i => some (i * K.sz, K.sz)) (dn ++ reps z ys.length) (ps.map fun p => (p.1, f p.2)) = some (dn ++ K.flat ys)
  | [], [], i, dn, _, _ => by simp [fillL, reps, Kn.flat]
  | [], _ :: _, i, dn, _, h => by simp [Full] at h
  | _ :: _, [], i, dn, _, h => by simp [Full] at h
  | y :: ys, (j, x) :: ps, i, dn, hd, h => by
    obtain ⟨rfl, h2, h3⟩ := h
    have hc : (f x).cells.size = K.sz := by rw [h2]; simp [K.len]
    simp only [List.map_cons, fillL]
    rw [if_neg (by
      intro hn
      rcases hn with hn | hn
      · exact hn hc
      · simp only [List.length_cons, reps, List.length_append, hd, hz, hc] at hn; omega)]
    have e1 : (dn ++ reps z (y :: ys).length).take (j * K.sz) = dn := by rw [List.take_append_of_le_length (by omega), List.take_of_length_le (by omega)]
    have e2 : (dn ++ reps z (y :: ys).length).drop (j * K.sz + (f x).cells.size) = reps z ys.length := by
      rw [hc, List.length_cons, reps, ← List.append_assoc]
      exact List.drop_left' (by simp [hd, hz])
    rw [e1, e2, h2]
    have := fill_full K f z hz ys ps (j + 1) (dn ++ K.enc y) (by simp [hd, K.len, Nat.add_mul]) h3
    rw [show (K.enc y).toArray.toList = K.enc y from rfl, this, Kn.flat_cons, List.append_assoc]
theorem r_buildSliceF {e m len : Nat} {z : List Value} {parts : List (Nat × Operand)} (ys : List α) (hT : ElT P t e m z) (hK : K.ty = e) (hKs : K.sz = m) (hl : ys.length = len) (hsm : len ≤ 1000) (hm : m ≤ 1000)
    (hc : Full K (ev n ρ) 0 parts ys) (H : Hp w0 Γ w)
    (hk : ∀ (b : Nat) (w' : World), Hp w0 (Row K (.slice (some ⟨b, 0, none⟩) len len) ys :: Γ) w' → R P n ops l k (updo ρ dst (.slice (some ⟨b, 0, none⟩) len len)) w') (hw : wn n ops ρ ⟨dst, .buildSlice t len parts.toArray, ty, pos, after, g⟩ = true := by rfl) : R P n ops (⟨dst, .buildSlice t len parts.toArray, ty, pos, after, g⟩ :: l) k ρ w := by
  have hz : z.length = K.sz := by rw [hKs]; exact hT.2.1
  have := fill_full K (ev n ρ) z hz ys parts 0 [] (by simp) hc
  rw [hl, hKs] at this
  exact r_buildSlice ys hT hK hKs hl hsm hm this H hk hw
/-- a slice held against nil -/
theorem r_eqsn {e m c : Nat} {A : Option Addr} {b : Bool} (ht : P.underlying t = some (.slice e)) (hx : ev n ρ x = .slice A m c) (hy : ev n ρ y = .slice none 0 0) (hb : A.isNone = b) (hk : R P n ops l k (updo ρ dst (.bool b)) w) (hw : wn n ops ρ ⟨dst, .binOp .eql t x y yt, ty, pos, after, g⟩ = true := by rfl) : R P n ops (⟨dst, .binOp .eql t x y yt, ty, pos, after, g⟩ :: l) k ρ w :=
  r_val (by subst hb; simp [execOp, hx, hy, eqGuard, binOp, run_equal_slice_nil w t e A m c ht]) hw hk
theorem SlR.none_nil {xs : List α} (h : SlR K none xs w) : xs = [] := by
  rcases h.2 with h | ⟨ad, h, _⟩
  · exact h
  · cases h
/-- cells of a slice are written over, as many as stand there -/
theorem Hp.row_put {g0 off c' i m : Nat} {vs : List Value} {xs' : List α} (H : Hp w0 (Row K (.slice (some ⟨g0, off, none⟩) m c') xs :: Γ) w) (hne : xs ≠ []) (hl : xs'.length = xs.length) (hi : i + vs.length ≤ (K.flat xs).length) (hf : K.flat xs' = (K.flat xs).take i ++ vs ++ (K.flat xs).drop (i + vs.length)) (cur : Array Value) (hg : w.heap[g0]? = some (.cells cur K.ty (0, 0))) :
    Hp w0 (Row K (.slice (some ⟨g0, off, none⟩) m c') xs' :: Γ) (w.setRow g0 (cur.toList.take (off + i) ++ vs ++ cur.toList.drop (off + i + vs.length)).toArray) := by
  rw [setRow_mod]
  obtain ⟨hq, F, f1, f2, f3⟩ := H
  have hA := f3 0 _ rfl
  have H' : Hp w0 ((fun W => Row K (.slice (some ⟨g0, off, none⟩) m c') xs W ∧ W.heap[g0]? = some (.cells cur K.ty (0, 0))) :: Γ) w := by
    refine ⟨hq, F, f1, f2, fun i X hX => ?_⟩
    cases i with
    | zero =>
      simp at hX; subst hX
      intro W hW
      refine ⟨hA W hW, ?_⟩
      have hmem : F 0 g0 := by
        apply Classical.byContradiction
        intro hn
        have hu := hA { w with heap := w.heap.setIfInBounds g0 (.map #[] 0) } fun b' hb' => by
          have hne : g0 ≠ b' := fun e => hn (e ▸ hb')
          simp [Array.getElem?_setIfInBounds_ne hne]
        have hlt := (Array.getElem?_eq_some_iff.1 hg).1
        rcases hu with ⟨A, _, rfl⟩ | ⟨g2, off2, cap, cur2, e, hg2, _⟩
        · exact hne rfl
        · cases e; simp [hlt] at hg2
      rw [hW g0 hmem]; exact hg
    | succ i => exact f3 (i + 1) X hX
  refine H'.mod (fun W hW => ⟨_, _, _, hW.2⟩) fun W hW => ?_
  obtain ⟨hW, hg2⟩ := hW
  rcases hW with ⟨A, _, rfl⟩ | ⟨g2, off2, cap, cur2, e, hg3, hc, hm, hs, hi'⟩
  · exact absurd rfl hne
  · cases e
    rw [hg2] at hg3
    cases hg3
    refine .inr ⟨g0, off, c', (cur.toList.take (off + i) ++ vs ++ cur.toList.drop (off + i + vs.length)).toArray, by simp [hl], ?_, by rw [hl]; exact hc, hm, ?_, ?_⟩
    · simp [World.mod, Array.getElem?_modify, hg2]
    · have h3 : xs.length * K.sz ≤ c' * K.sz := Nat.mul_le_mul_right _ hc
      rw [K.flat_len] at hi
      simp; omega
    · rw [hf]
      have := row_splice (vs := vs) (i := i) hi' hi
      rw [show off + i + vs.length = off + i + vs.length from rfl]
      exact this
def clr (xs : List α) (lo : Int) (z : α) : List α := xs.take lo.toNat ++ List.replicate (xs.length - lo.toNat) z
theorem clr_len {lo : Int} {z : α} (h : lo ≤ (xs.length : Int)) : (clr xs lo z).length = xs.length := by simp [clr]; omega
theorem r_clear {e sz m c : Nat} {lo : Int} {A : Option Addr} {z : α} (ht : P.underlying t = some (.slice e)) (hK : K.ty = e) (hsz : K.sz = sz) (hz : ∀ w, ∃ zv, (zeroValue e).run P w = .ok zv w ∧ zv.cells = (K.enc z).toArray) (hx : ev n ρ x = .slice (cutA A lo (c : Int) sz) (sb xs lo (xs.length : Int)).length (c - lo.toNat)) (h0 : 0 ≤ lo) (h1 : lo ≤ (xs.length : Int)) (H : Hp w0 (Row K (.slice A m c) xs :: Γ) w)
    (hk : ∀ w', Hp w0 (Row K (.slice A m c) (clr xs lo z) :: Γ) w' → R P n ops l k (updo ρ dst (.tuple #[])) w') (hw : wn n ops ρ ⟨dst, .call ⟨.builtin .clear, #[x], #[t]⟩, ty, pos, after, g⟩ = true := by rfl) : R P n ops (⟨dst, .call ⟨.builtin .clear, #[x], #[t]⟩, ty, pos, after, g⟩ :: l) k ρ w := by
  subst hK; subst hsz
  have hlen : (sb xs lo (xs.length : Int)).length = xs.length - lo.toNat := by rw [sb_len h0 h1 (Int.le_refl _)]; omega
  rw [hlen] at hx
  rcases Nat.eq_zero_or_pos (xs.length - lo.toNat) with hn | hn
  · have e : clr xs lo z = xs := by
      simp only [clr, hn, List.replicate_zero, List.append_nil]
      exact List.take_of_length_le (by omega)
    rw [e] at hk
    refine r_val ?_ hw (hk w H)
    rw [hn] at hx
    cases hA : cutA A lo (c : Int) K.sz <;> rw [hA] at hx <;> simp [execOp, resolve, invoke, builtin, hx, Builtin.clear_, run_underlying ht]
  · have hne : xs ≠ [] := by rintro rfl; simp at hn
    have hr := H.g0
    obtain ⟨g0, off, c2, he⟩ := hr.own hne
    cases he
    rcases hr with ⟨A, e3, rfl⟩ | ⟨g2, off2, cap, cur, e3, hg, hc, hmx, hs, hi⟩
    · exact absurd rfl hne
    · cases e3
      have hcut : cutA (some ⟨g0, off, none⟩) lo (c : Int) K.sz = some ⟨g0, off + lo.toNat * K.sz, none⟩ := by
        unfold cutA
        rw [if_neg (by omega)]
        simp [Addr.add_lit]
      rw [hcut] at hx
      have hfl : K.flat (clr xs lo z) = (K.flat xs).take (lo.toNat * K.sz) ++ K.flat (List.replicate (xs.length - lo.toNat) z) ++ (K.flat xs).drop (lo.toNat * K.sz + (K.flat (List.replicate (xs.length - lo.toNat) z)).length) := by
        rw [clr, K.flat_append, K.flat_take]
        have : (K.flat xs).drop (lo.toNat * K.sz + (K.flat (List.replicate (xs.length - lo.toNat) z)).length) = [] := by
          apply List.drop_of_length_le
          rw [K.flat_len, K.flat_len, List.length_replicate, ← Nat.add_mul]
          exact Nat.mul_le_mul_right _ (by omega)
        rw [this, List.append_nil]
      have hfit : lo.toNat * K.sz + (K.flat (List.replicate (xs.length - lo.toNat) z)).length ≤ (K.flat xs).length := by
        rw [K.flat_len, K.flat_len, List.length_replicate, ← Nat.add_mul]
        exact Nat.mul_le_mul_right _ (by omega)
      have hst := run_storeCells_at P g0 (off + lo.toNat * K.sz) K.ty (K.flat (List.replicate (xs.length - lo.toNat) z)) 0 cur w hg (by
        rw [K.flat_len] at hfit ⊢
        rw [K.flat_len] at hfit
        have : xs.length * K.sz ≤ c * K.sz := Nat.mul_le_mul_right _ hc
        omega) (K.flat_one _)
      simp only [Nat.add_zero] at hst
      obtain ⟨zv, hz1, hz2⟩ := hz w
      have hzr : Builtin.zeroCells zv.cells (xs.length - lo.toNat) = (K.flat (List.replicate (xs.length - lo.toNat) z)).toArray := by
        have hrf : ∀ i, reps (K.enc z) i = K.flat (List.replicate i z) := by
          intro i
          induction i with
          | zero => rfl
          | succ i ih => rw [reps, List.replicate_succ, Kn.flat_cons, ih]
        rw [← hrf, ← range_reps (K.enc z) _ (by rw [K.len]; exact K.pos), hz2]
        simp [Builtin.zeroCells]
      have hput := H.row_put (i := lo.toNat * K.sz) (vs := K.flat (List.replicate (xs.length - lo.toNat) z)) (xs' := clr xs lo z) hne (clr_len h1) hfit hfl cur hg
      refine r_val ?_ hw (hk _ hput)
      obtain ⟨q, hq⟩ : ∃ q, xs.length - lo.toNat = q + 1 := ⟨xs.length - lo.toNat - 1, by omega⟩
      rw [hq] at hx hzr hst
      rw [hq]
      simp [execOp, resolve, invoke, builtin, hx, Builtin.clear_, run_underlying ht, hz1, hzr, hst]
/-- three results, the first a struct in a cell -/
theorem st_ret3c {fn : Func} {Rr : Ending → World → Prop} {t0 u s0 : Nat} {a : Addr} {cty m : Nat} {v2 v3 : Value} (cs : List Value) (hk : k.bot = (fn, Rr)) (hr : fn.results = #[.cell t0 cty, .tmp u, .tmp s0]) (ht : t0 < n) (hu : u < n) (hs : s0 < n) (hv : ρ t0 = .pointer (some a)) (hT : LdA P cty m) (hl : cs.length = m) (hc : ∀ (j : Nat) v, cs[j]? = some v → w.cell? (a.add j) = some v) (hv2 : ρ u = v2) (hv3 : ρ s0 = v3) (h : Rr (.returned (.tuple #[.agg cs.toArray, v2, v3])) w) : W P n .ret k ρ w := by
  refine wp_ret (ret_den ?_)
  rw [hk]
  refine ⟨rfl, _, ?_, h⟩
  have h1 := St_getD (ρ := ρ) t0 ht
  have h2 := St_getD (ρ := ρ) u hu
  have h3 := St_getD (ρ := ρ) s0 hs
  subst hl
  simp only [Array.getD_eq_getD_getElem?] at h1 h2 h3
  simp [results, hr, h1, h2, h3, hv, hv2, hv3, asAddr, loadVar, (hT w).1, (hT w).2, run_loadCells_list w a cs hc]
end
end Go.Proofs.Ytdhekpodgemneaa
