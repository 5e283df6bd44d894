/- One rule per operation: what yields a value without memory; boxes. No program in it. -/
import Derived.Test.YtdhekpodgemneaaCore2
set_option linter.unusedVariables false
set_option linter.unusedSimpArgs false
namespace Go.Proofs.Ytdhekpodgemneaa
open Go Go.RowKit

/-! ### Values -/
def bop : BinOp → Value → Value → Option Value
  | .add, .int k a, .int k' b => if k = k' then some (.int k (k.wrap (a + b))) else none
  | .sub, .int k a, .int k' b => if k = k' then some (.int k (k.wrap (a - b))) else none
  | .mul, .int k a, .int k' b => if k = k' then some (.int k (k.wrap (a * b))) else none
  | .eql, .int k a, .int k' b => if k = k' then some (.bool (a == b)) else none
  | .neq, .int k a, .int k' b => if k = k' then some (.bool (a != b)) else none
  | .lss, .int k a, .int k' b => if k = k' then some (.bool (decide (a < b))) else none
  | .leq, .int k a, .int k' b => if k = k' then some (.bool (decide (a ≤ b))) else none
  | .gtr, .int k a, .int k' b => if k = k' then some (.bool (decide (a > b))) else none
  | .geq, .int k a, .int k' b => if k = k' then some (.bool (decide (a ≥ b))) else none
  | .eql, .string a, .string b => some (.bool (a.toList == b.toList))
  | .neq, .string a, .string b => some (.bool (!(a.toList == b.toList)))
  | .lss, .string a, .string b => some (.bool (Op.bytesLess a.toList b.toList))
  | .leq, .string a, .string b => some (.bool (Op.bytesLess a.toList b.toList || a.toList == b.toList))
  | .gtr, .string a, .string b => some (.bool (!(Op.bytesLess a.toList b.toList || a.toList == b.toList)))
  | .geq, .string a, .string b => some (.bool (!(Op.bytesLess a.toList b.toList)))
  | _, _, _ => none
def uop : UnOp → Value → Option Value
  | .neg, .int k a => some (.int k (k.wrap (0 - a)))
  | .not, .bool b => some (.bool !b)
  | _, _ => none
def xtr : Value → Nat → Option Value
  | .tuple vs, i => vs[i]?
  | _, _ => none
def nck : Value → Option Value
  | .pointer (some a) => some (.pointer (some a))
  | _ => none
def pop (ρ : Operand → Value) : Op → Option Value
  | .move x => some (ρ x)
  | .assign x => some (ρ x)
  | .binOp op _ x y _ => bop op (ρ x) (ρ y)
  | .unOp op _ x => uop op (ρ x)
  | .extract t i => xtr (ρ t) i
  | .nilCheck x => nck (ρ x)
  | _ => none
theorem bop_run {P : Program} {w : World} {op : BinOp} {t : TypeId} {x y : Operand} {a b v : Value} (h : bop op a b = some v) : (do eqGuard op t x y a b; binOp op t a b : Sem Value).run P w = .ok v w := by
  unfold bop at h
  split at h
  all_goals first
    | (split at h
       · rename_i e; subst e; cases h; simp [eqGuard, binOp, Op.intArith, Op.intCmp]
       · cases h)
    | (cases h; simp [eqGuard, binOp, Op.stringOp]; done)
    | (cases h; done)
theorem uop_run {P : Program} {w : World} {op : UnOp} {a v : Value} (h : uop op a = some v) : (Op.unary op a).run P w = .ok v w := by
  unfold uop at h
  split at h
  · cases h; simp [Op.unary, Op.intArith]
  · cases h; simp [Op.unary]
  · cases h
theorem pop_run {P : Program} {w : World} {ρ : Operand → Value} {o : Oper} {v : Value} (h : pop ρ o.op = some v) : (execOp ρ o).run P w = .ok (.value v) w := by
  obtain ⟨dst, op, type, pos, after, guard⟩ := o
  cases op <;> simp only [pop] at h <;> try cases h
  case move => simp [execOp]
  case assign => simp [execOp]
  case nilCheck x =>
    simp only [execOp]
    generalize ρ x = a at h ⊢
    cases a <;> simp only [nck] at h <;> try cases h
    rename_i a
    cases a <;> simp only [nck] at h <;> cases h
    simp
  case binOp op xt x y yt =>
    simp only [execOp, Sem.run_bind]
    have := bop_run (P := P) (w := w) (t := xt) (x := x) (y := y) h
    simp only [Sem.run_bind] at this
    simp [this]
  case unOp op xt x => simp only [execOp, Sem.run_bind, uop_run h]; rfl
  case extract t i =>
    simp only [execOp, Sem.run_bind, Instr.extract]
    generalize ρ t = a at h ⊢
    cases a <;> simp only [xtr] at h <;> try cases h
    rename_i vs
    simp [h]
/-- a call of a known function, out of a function value -/
theorem exec_call {P : Program} {w : World} {ρ : Operand → Value} {dst : Option Tmp} {x : Operand} {xs : List Operand} {ts : Array TypeId} {ty : TypeId} {pos : String} {after : Array Edge} {g : Option (Nat × Bool)} {f : FuncId} {cap : List Value}
    (hx : ρ x = .func (.func f) #[] cap.toArray) (hf : ∀ (args : Array Value) (w : World), (callFunc f args).run P w = .ok (.enter f args) w) :
    (execOp ρ ⟨dst, .call ⟨.value x, xs.toArray, ts⟩, ty, pos, after, g⟩).run P w = .ok (.enter f (xs.map ρ ++ cap).toArray) w := by
  simp [execOp, resolve, hx, Deferred.ofValue, invoke, hf]

section
variable {P : Program} {n : Nat} {k : Kt} {ρ : Nat → Value} {w w0 : World} {ops : Array Oper} {l : List Oper} {Γ : List (World → Prop)} {A B : World → Prop}
variable {dst : Option Tmp} {ty : TypeId} {pos : String} {after : Array Edge} {g : Option (Nat × Bool)}
variable {v : Value} {t : TypeId} {x y : Operand} {i : Nat}

theorem r_pure {o : Oper} (v : Value) (h : pop (ev n ρ) o.op = some v) (hk : R P n ops l k (updo ρ o.dst v) w) (hw : wn n ops ρ o = true := by rfl) : R P n ops (o :: l) k ρ w := r_val (pop_run h) hw hk
/-- several values, one behind the other -/
def pops (n : Nat) (ops : Array Oper) : List Oper → List Value → (Nat → Value) → Prop
  | o :: l, v :: vs, ρ => pop (ev n ρ) o.op = some v ∧ wn n ops ρ o = true ∧ pops n ops l vs (updo ρ o.dst v)
  | _, _, _ => True
def popd : List Oper → List Value → (Nat → Value) → (Nat → Value)
  | o :: l, v :: vs, ρ => popd l vs (updo ρ o.dst v)
  | _, _, ρ => ρ
theorem r_pures : ∀ (vs : List Value) {l : List Oper} {ρ : Nat → Value}, vs.length ≤ l.length → pops n ops l vs ρ → R P n ops (l.drop vs.length) k (popd l vs ρ) w → R P n ops l k ρ w
  | [], l, ρ, _, _, h => by cases l <;> exact h
  | v :: vs, [], ρ, hl, _, _ => by simp at hl
  | v :: vs, o :: l, ρ, hl, hp, h => r_val (pop_run hp.1) hp.2.1 (r_pures vs (by simpa using hl) hp.2.2 h)
theorem r_pick_t {c a b : Operand} {bb : Bool} (v : Value) (hb : bb = true) (hc : ev n ρ c = .bool bb) (hv : ev n ρ a = v) (hk : R P n ops l k (updo ρ dst v) w) (hw : wn n ops ρ ⟨dst, .pick c a b, ty, pos, after, g⟩ = true := by rfl) : R P n ops (⟨dst, .pick c a b, ty, pos, after, g⟩ :: l) k ρ w :=
  r_val (by simp [execOp, hc, asBool, hb, hv]) hw hk
theorem r_pick_f {c a b : Operand} {bb : Bool} (v : Value) (hb : bb = false) (hc : ev n ρ c = .bool bb) (hv : ev n ρ b = v) (hk : R P n ops l k (updo ρ dst v) w) (hw : wn n ops ρ ⟨dst, .pick c a b, ty, pos, after, g⟩ = true := by rfl) : R P n ops (⟨dst, .pick c a b, ty, pos, after, g⟩ :: l) k ρ w :=
  r_val (by simp [execOp, hc, asBool, hb, hv]) hw hk
theorem r_func {fn : Fn} {xs : List Operand} (v : Value) (hv : (Value.func fn #[] (xs.map (ev n ρ)).toArray) = v) (hk : R P n ops l k (updo ρ dst v) w) (hw : wn n ops ρ ⟨dst, .makeFunc fn #[] xs.toArray, ty, pos, after, g⟩ = true := by rfl) : R P n ops (⟨dst, .makeFunc fn #[] xs.toArray, ty, pos, after, g⟩ :: l) k ρ w :=
  r_val (by simp [execOp, Instr.makeFunc]; exact hv) hw hk
theorem r_quo {kk : IntKind} {a b : Int} (h0 : b ≠ 0) (hx : ev n ρ x = .int kk a) (hy : ev n ρ y = .int kk b) {yt : TypeId} (hk : R P n ops l k (updo ρ dst (.int kk (kk.wrap (a.tdiv b)))) w) (hw : wn n ops ρ ⟨dst, .binOp .quo t x y yt, ty, pos, after, g⟩ = true := by rfl) : R P n ops (⟨dst, .binOp .quo t x y yt, ty, pos, after, g⟩ :: l) k ρ w :=
  r_val (by simp [execOp, hx, hy, eqGuard, binOp, Op.intDiv, h0]) hw hk
theorem r_rem {kk : IntKind} {a b : Int} (h0 : b ≠ 0) (hx : ev n ρ x = .int kk a) (hy : ev n ρ y = .int kk b) {yt : TypeId} (hk : R P n ops l k (updo ρ dst (.int kk (a.tmod b))) w) (hw : wn n ops ρ ⟨dst, .binOp .rem t x y yt, ty, pos, after, g⟩ = true := by rfl) : R P n ops (⟨dst, .binOp .rem t x y yt, ty, pos, after, g⟩ :: l) k ρ w :=
  r_val (by simp [execOp, hx, hy, eqGuard, binOp, Op.intDiv, h0]) hw hk
/-- int kinds: a conversion -/
theorem r_conv {s d : TypeId} {kk k2 : IntKind} {sk : TypeDesc} {a : Int} (hs : P.underlying s = some sk) (hd : P.underlying d = some (.int k2)) (hx : ev n ρ x = .int kk a) (hk : R P n ops l k (updo ρ dst (.int k2 (k2.wrap a))) w) (hw : wn n ops ρ ⟨dst, .convert s d x, ty, pos, after, g⟩ = true := by rfl) : R P n ops (⟨dst, .convert s d x, ty, pos, after, g⟩ :: l) k ρ w :=
  r_val (by simp [execOp, hx, convert, run_underlying hs, run_underlying hd, Conv.intToInt]) hw hk
theorem run_equal_bool (ht : P.underlying t = some .bool) (a b : Bool) (w : World) : (Op.equal t (.bool a) (.bool b)).run P w = .ok (a == b) w := by
  show (Op.equalIn (9999 + 1) t (.bool a) (.bool b)).run P w = _
  rw [Op.equalIn]
  simp [run_underlying ht]
theorem run_equal_nilp {e : TypeId} (ht : P.underlying t = some (.pointer e)) (p : Option Addr) (w : World) : (Op.equal t (.pointer p) (.pointer none)).run P w = .ok p.isNone w := by
  show (Op.equalIn (9999 + 1) t (.pointer p) (.pointer none)).run P w = _
  rw [Op.equalIn]
  cases p <;> simp [run_underlying ht]
/-- bool == bool -/
theorem r_eqb {a b : Bool} {yt : TypeId} (ht : P.underlying t = some .bool) (hx : ev n ρ x = .bool a) (hy : ev n ρ y = .bool b) (hk : R P n ops l k (updo ρ dst (.bool (a == b))) w) (hw : wn n ops ρ ⟨dst, .binOp .eql t x y yt, ty, pos, after, g⟩ = true := by rfl) : R P n ops (⟨dst, .binOp .eql t x y yt, ty, pos, after, g⟩ :: l) k ρ w :=
  r_val (by simp [execOp, hx, hy, eqGuard, binOp, run_equal_bool ht]) hw hk
theorem r_neb {a b : Bool} {yt : TypeId} (ht : P.underlying t = some .bool) (hx : ev n ρ x = .bool a) (hy : ev n ρ y = .bool b) (hk : R P n ops l k (updo ρ dst (.bool (!(a == b)))) w) (hw : wn n ops ρ ⟨dst, .binOp .neq t x y yt, ty, pos, after, g⟩ = true := by rfl) : R P n ops (⟨dst, .binOp .neq t x y yt, ty, pos, after, g⟩ :: l) k ρ w :=
  r_val (by simp [execOp, hx, hy, eqGuard, binOp, run_equal_bool ht]) hw hk
/-- a pointer held against nil -/
theorem r_eqn {p : Option Addr} {e yt : TypeId} (ht : P.underlying t = some (.pointer e)) (hx : ev n ρ x = .pointer p) (hy : ev n ρ y = .pointer none) (hk : R P n ops l k (updo ρ dst (.bool p.isNone)) w) (hw : wn n ops ρ ⟨dst, .binOp .eql t x y yt, ty, pos, after, g⟩ = true := by rfl) : R P n ops (⟨dst, .binOp .eql t x y yt, ty, pos, after, g⟩ :: l) k ρ w :=
  r_val (by simp [execOp, hx, hy, eqGuard, binOp, run_equal_nilp ht]) hw hk
theorem r_nen {p : Option Addr} {e yt : TypeId} (ht : P.underlying t = some (.pointer e)) (hx : ev n ρ x = .pointer p) (hy : ev n ρ y = .pointer none) (hk : R P n ops l k (updo ρ dst (.bool (!p.isNone))) w) (hw : wn n ops ρ ⟨dst, .binOp .neq t x y yt, ty, pos, after, g⟩ = true := by rfl) : R P n ops (⟨dst, .binOp .neq t x y yt, ty, pos, after, g⟩ :: l) k ρ w :=
  r_val (by simp [execOp, hx, hy, eqGuard, binOp, run_equal_nilp ht]) hw hk
theorem r_len {e : TypeId} {a : Option Addr} {m c : Nat} (ht : P.underlying t = some (.slice e)) (hx : ev n ρ x = .slice a m c) (hk : R P n ops l k (updo ρ dst (.int .i64 m)) w) (hw : wn n ops ρ ⟨dst, .call ⟨.builtin .len, #[x], #[t]⟩, ty, pos, after, g⟩ = true := by rfl) : R P n ops (⟨dst, .call ⟨.builtin .len, #[x], #[t]⟩, ty, pos, after, g⟩ :: l) k ρ w :=
  r_val (by simp [execOp, resolve, invoke, builtin, Builtin.len_, hx, run_underlying ht, goInt]) hw hk
theorem r_lens {s : ByteArray} (ht : P.underlying t = some .string) (hx : ev n ρ x = .string s) (hk : R P n ops l k (updo ρ dst (.int .i64 s.size)) w) (hw : wn n ops ρ ⟨dst, .call ⟨.builtin .len, #[x], #[t]⟩, ty, pos, after, g⟩ = true := by rfl) : R P n ops (⟨dst, .call ⟨.builtin .len, #[x], #[t]⟩, ty, pos, after, g⟩ :: l) k ρ w :=
  r_val (by simp [execOp, resolve, invoke, builtin, Builtin.len_, hx, run_underlying ht, goInt]) hw hk
theorem r_cap {e : TypeId} {a : Option Addr} {m c : Nat} (ht : P.underlying t = some (.slice e)) (hx : ev n ρ x = .slice a m c) (hk : R P n ops l k (updo ρ dst (.int .i64 c)) w) (hw : wn n ops ρ ⟨dst, .call ⟨.builtin .cap, #[x], #[t]⟩, ty, pos, after, g⟩ = true := by rfl) : R P n ops (⟨dst, .call ⟨.builtin .cap, #[x], #[t]⟩, ty, pos, after, g⟩ :: l) k ρ w :=
  r_val (by simp [execOp, resolve, invoke, builtin, Builtin.cap_, hx, run_underlying ht, goInt]) hw hk
def mx (a b : Int) : Int := if b > a then b else a
def mn (a b : Int) : Int := if b < a then b else a
theorem r_max {kk : IntKind} {a b : Int} {ts : Array TypeId} (hx : ev n ρ x = .int kk a) (hy : ev n ρ y = .int kk b) (hk : R P n ops l k (updo ρ dst (.int kk (mx a b))) w) (hw : wn n ops ρ ⟨dst, .call ⟨.builtin .max, #[x, y], ts⟩, ty, pos, after, g⟩ = true := by rfl) : R P n ops (⟨dst, .call ⟨.builtin .max, #[x, y], ts⟩, ty, pos, after, g⟩ :: l) k ρ w :=
  r_val (by simp [execOp, resolve, invoke, builtin, Builtin.max_, Builtin.max2, hx, hy, mx]) hw hk
theorem r_min {kk : IntKind} {a b : Int} {ts : Array TypeId} (hx : ev n ρ x = .int kk a) (hy : ev n ρ y = .int kk b) (hk : R P n ops l k (updo ρ dst (.int kk (mn a b))) w) (hw : wn n ops ρ ⟨dst, .call ⟨.builtin .min, #[x, y], ts⟩, ty, pos, after, g⟩ = true := by rfl) : R P n ops (⟨dst, .call ⟨.builtin .min, #[x, y], ts⟩, ty, pos, after, g⟩ :: l) k ρ w :=
  r_val (by simp [execOp, resolve, invoke, builtin, Builtin.min_, Builtin.min2, hx, hy, mn]) hw hk

/-! ### Calls -/
theorem r_callf {f : FuncId} {xs : List Operand} {ts : Array TypeId} {Rr : Ending → World → Prop} (hf : ∀ (args : Array Value) (w : World), (callFunc f args).run P w = .ok (.enter f args) w) (hc : Calls P f (xs.map (ev n ρ)).toArray w Rr)
    (hk : ∀ e w2, Rr e w2 → ∃ v, e = .returned v ∧ R P n ops l k (updo ρ dst v) w2) (hw : wn n ops ρ ⟨dst, .call ⟨.value (.func f), xs.toArray, ts⟩, ty, pos, after, g⟩ = true := by rfl) : R P n ops (⟨dst, .call ⟨.value (.func f), xs.toArray, ts⟩, ty, pos, after, g⟩ :: l) k ρ w :=
  r_call (exec_call (cap := []) rfl hf) (by rw [List.append_nil]; exact hc) hw hk
theorem r_callv {f : FuncId} {cap : List Value} {xs : List Operand} {ts : Array TypeId} {Rr : Ending → World → Prop} (hx : ev n ρ x = .func (.func f) #[] cap.toArray) (hf : ∀ (args : Array Value) (w : World), (callFunc f args).run P w = .ok (.enter f args) w) (hc : Calls P f (xs.map (ev n ρ) ++ cap).toArray w Rr)
    (hk : ∀ e w2, Rr e w2 → ∃ v, e = .returned v ∧ R P n ops l k (updo ρ dst v) w2) (hw : wn n ops ρ ⟨dst, .call ⟨.value x, xs.toArray, ts⟩, ty, pos, after, g⟩ = true := by rfl) : R P n ops (⟨dst, .call ⟨.value x, xs.toArray, ts⟩, ty, pos, after, g⟩ :: l) k ρ w :=
  r_call (exec_call hx hf) hc hw hk

/-! ### Types of a program -/
def FAt (P : Program) (s f off : Nat) : Prop := ∀ a w, (Instr.fieldAt s (.pointer (some a)) f).run P w = .ok (.pointer (some (a.add off))) w
theorem FAt.mk' {s f m : Nat} {fs : Array Field} {fl : Field} (hu : P.underlying s = some (.struct fs)) (hf : fs[f]? = some fl) (hs : ∀ w, (sizeOf fl.type).run P w = .ok m w) (hm : m ≠ 0) : FAt P s f fl.offset := by
  intro a w
  simp [Instr.fieldAt, run_underlying hu, hf, Instr.sureAddr, fieldPlace, hs, hm]
def IxT (P : Program) (t e m : Nat) : Prop := P.underlying t = some (.slice e) ∧ ∀ w, (sizeOf e).run P w = .ok m w
def Ld1 (P : Program) (t : Nat) : Prop := ∀ w, (isAgg t).run P w = .ok false w ∧ (sizeOf t).run P w = .ok 1 w
def LdA (P : Program) (t m : Nat) : Prop := ∀ w, (isAgg t).run P w = .ok true w ∧ (sizeOf t).run P w = .ok m w

theorem r_fa {s f off : Nat} {a : Addr} (hT : FAt P s f off) (b : Addr) (hx : ev n ρ x = .pointer (some a)) (hb : a.add off = b) (hk : R P n ops l k (updo ρ dst (.pointer (some b))) w) (hw : wn n ops ρ ⟨dst, .fieldAddr s x f, ty, pos, after, g⟩ = true := by rfl) : R P n ops (⟨dst, .fieldAddr s x f, ty, pos, after, g⟩ :: l) k ρ w :=
  r_val (by subst hb; simp [execOp, hx, hT a w]) hw hk
theorem r_ix {e m len c : Nat} {ad : Addr} {A : Option Addr} {kk : IntKind} {iv : Int} (hT : IxT P t e m) (hx : ev n ρ x = .slice A len c) (hy : ev n ρ y = .int kk iv) (hA : A = some ad) (h0 : 0 ≤ iv) (h1 : iv < len) (hk : R P n ops l k (updo ρ dst (.pointer (some (ad.add (iv.toNat * m))))) w) (hw : wn n ops ρ ⟨dst, .indexAddr t x y, ty, pos, after, g⟩ = true := by rfl) : R P n ops (⟨dst, .indexAddr t x y, ty, pos, after, g⟩ :: l) k ρ w :=
  r_val (by simp [execOp, hx, hy, Instr.indexAt, asIntOf, run_underlying hT.1, hA, h0, h1, hT.2 w]) hw hk
theorem r_ld1 {a : Addr} (v : Value) (hT : Ld1 P t) (hx : ev n ρ x = .pointer (some a)) (hc : w.cell? a = some v) (hk : R P n ops l k (updo ρ dst v) w) (hw : wn n ops ρ ⟨dst, .load t x, ty, pos, after, g⟩ = true := by rfl) : R P n ops (⟨dst, .load t x, ty, pos, after, g⟩ :: l) k ρ w :=
  r_val (by simp [execOp, hx, Instr.loadAt, Instr.sureAddr, loadVar, (hT w).1, hc]) hw hk
theorem r_ldA {a : Addr} {m : Nat} (cs : List Value) (hT : LdA P t m) (hx : ev n ρ x = .pointer (some a)) (hl : cs.length = m) (hc : ∀ (j : Nat) u, cs[j]? = some u → w.cell? (a.add j) = some u) (hk : R P n ops l k (updo ρ dst (.agg cs.toArray)) w) (hw : wn n ops ρ ⟨dst, .load t x, ty, pos, after, g⟩ = true := by rfl) : R P n ops (⟨dst, .load t x, ty, pos, after, g⟩ :: l) k ρ w :=
  r_val (by subst hl; simp [execOp, hx, Instr.loadAt, Instr.sureAddr, loadVar, (hT w).1, (hT w).2, run_loadCells_list w a cs hc]) hw hk
theorem Addr.add_add (a : Addr) (p q : Nat) : (a.add p).add q = a.add (p + q) := by
  unfold Addr.add
  by_cases hp : p = 0
  · subst hp; simp
  · by_cases hq : q = 0
    · subst hq; simp
    · simp [hp, hq, Nat.add_assoc]
theorem Addr.add_lit (b o p : Nat) : (⟨b, o, none⟩ : Addr).add p = ⟨b, o + p, none⟩ := by
  unfold Addr.add; split <;> simp_all

/-! ### Boxes: a block that is known whole -/
def Bx (b : Nat) (t : TypeId) (cs : List Value) (w : World) : Prop := w.heap[b]? = some (.cells cs.toArray t (0, 0))
theorem Bx.cell {b : Nat} {cs : List Value} {f : Nat} (h : Bx b t cs w) (v : Value) (hv : cs[f]? = some v) : w.cell? ⟨b, f, none⟩ = some v := by
  unfold Bx at h
  simp [World.cell?, h, hv]
theorem Bx.cells {b : Nat} {cs ds : List Value} {f : Nat} (h : Bx b t cs w) (hv : (cs.drop f).take ds.length = ds) : ∀ (j : Nat) u, ds[j]? = some u → w.cell? ((⟨b, f, none⟩ : Addr).add j) = some u := by
  intro j u hu
  rw [Addr.add_lit]
  refine h.cell u ?_
  rw [← hv] at hu
  simp only [List.getElem?_take, List.getElem?_drop] at hu
  split at hu
  · exact hu
  · cases hu
/-- a new box -/
theorem run_newVar (t : TypeId) (v : Value) : (newVar t v).run P w = .ok ⟨w.heap.size, 0, none⟩ (w.alloc (.cells v.cells t)) := by
  simp only [newVar, newRow, Sem.run_bind, run_newObj, Result.andThen_ok, Sem.run_pure]
  rfl
theorem r_box {t : TypeId} (cs : List Value) (H : Hp w0 Γ w) (hc : (ev n ρ x).cells = cs.toArray) (hk : ∀ (b : Nat) (w' : World), Hp w0 (Bx b t cs :: Γ) w' → R P n ops l k (updo ρ dst (.pointer (some ⟨b, 0, none⟩))) w') (hw : wn n ops ρ ⟨dst, .box t x, ty, pos, after, g⟩ = true := by rfl) : R P n ops (⟨dst, .box t x, ty, pos, after, g⟩ :: l) k ρ w :=
  r_val (v := .pointer (some ⟨w.heap.size, 0, none⟩)) (w' := w.alloc (.cells cs.toArray t)) (by simp [execOp, Instr.box, run_newVar, hc]) hw (hk _ _ (H.alloc _ fun u hu => hu))
theorem r_alloc {z : Value} (cs : List Value) (hz : ∀ w, (zeroValue t).run P w = .ok z w) (H : Hp w0 Γ w) (hc : z.cells = cs.toArray) (hk : ∀ (b : Nat) (w' : World), Hp w0 (Bx b t cs :: Γ) w' → R P n ops l k (updo ρ dst (.pointer (some ⟨b, 0, none⟩))) w') (hw : wn n ops ρ ⟨dst, .alloc t, ty, pos, after, g⟩ = true := by rfl) : R P n ops (⟨dst, .alloc t, ty, pos, after, g⟩ :: l) k ρ w :=
  r_val (v := .pointer (some ⟨w.heap.size, 0, none⟩)) (w' := w.alloc (.cells cs.toArray t)) (by simp [execOp, Instr.alloc, hz, run_newVar, hc]) hw (hk _ _ (H.alloc _ fun u hu => hu))
theorem Hp.bx_set {b f : Nat} {cs : List Value} {v : Value} (H : Hp w0 (Bx b t cs :: Γ) w) : Hp w0 (Bx b t (cs.set f v) :: Γ) (w.setCell ⟨b, f, none⟩ v) := by
  rw [setCell_mod]
  refine H.mod (fun u hu => ⟨_, _, _, hu⟩) fun u hu => ?_
  unfold Bx at hu ⊢
  simp [World.mod, Array.getElem?_modify, hu]
theorem run_storeVar1 {a : Addr} {v u : Value} (hT : Ld1 P t) (h1 : v.oneCell' = true) (hc : w.cell? a = some u) (hf : w.frozen? a = false) : (storeVar t a v).run P w = .ok () (w.setCell a v) := by
  have hcl : v.cells = #[v] := by cases v <;> simp [Value.oneCell'] at h1 <;> rfl
  have h0 : a.add 0 = a := by simp [Addr.add]
  simp [storeVar, (hT w).2, hcl, storeCells, h0, run_store P w a v _ h1, hc, hf]
theorem r_st1 {b f : Nat} {cs : List Value} {u v : Value} {t2 : TypeId} (hT : Ld1 P t) (hx : ev n ρ x = .pointer (some ⟨b, f, none⟩)) (hy : ev n ρ y = v) (h1 : v.oneCell' = true) (H : Hp w0 (Bx b t2 cs :: Γ) w) (hu : cs[f]? = some u)
    (hk : ∀ w', Hp w0 (Bx b t2 (cs.set f v) :: Γ) w' → R P n ops l k (updo ρ dst undef) w') (hw : wn n ops ρ ⟨dst, .store t x y, ty, pos, after, g⟩ = true := by rfl) : R P n ops (⟨dst, .store t x y, ty, pos, after, g⟩ :: l) k ρ w := by
  have hb := H.g0
  refine r_eff (w' := w.setCell ⟨b, f, none⟩ v) ?_ hw (hk _ H.bx_set)
  have hf : w.frozen? ⟨b, f, none⟩ = false := by unfold Bx at hb; simp [World.frozen?, hb]
  simp [execOp, hx, hy, Instr.storeAt, Instr.sureAddr, run_storeVar1 hT h1 (hb.cell u hu) hf]
theorem Hp.bx_row {b : Nat} {cs ds : List Value} (H : Hp w0 (Bx b t cs :: Γ) w) : Hp w0 (Bx b t ds :: Γ) (w.setRow b ds.toArray) := by
  rw [setRow_mod]
  refine H.mod (fun u hu => ⟨_, _, _, hu⟩) fun u hu => ?_
  unfold Bx at hu ⊢
  simp [World.mod, Array.getElem?_modify, hu]
/-- an aggregate stored into a box -/
theorem r_stA {b f m : Nat} {cs vs : List Value} {t2 : TypeId} (ds : List Value) (hT : LdA P t m) (hx : ev n ρ x = .pointer (some ⟨b, f, none⟩)) (hy : ev n ρ y = .agg vs.toArray) (hl : vs.length = m) (h1 : vs.all (·.oneCell') = true) (H : Hp w0 (Bx b t2 cs :: Γ) w) (hfit : f + m ≤ cs.length) (hds : cs.take f ++ vs ++ cs.drop (f + vs.length) = ds)
    (hk : ∀ w', Hp w0 (Bx b t2 ds :: Γ) w' → R P n ops l k (updo ρ dst undef) w') (hw : wn n ops ρ ⟨dst, .store t x y, ty, pos, after, g⟩ = true := by rfl) : R P n ops (⟨dst, .store t x y, ty, pos, after, g⟩ :: l) k ρ w := by
  subst hds
  have hb := H.g0
  refine r_eff (w' := w.setRow b (cs.take f ++ vs ++ cs.drop (f + vs.length)).toArray) ?_ hw (hk _ H.bx_row)
  have hs := run_storeCells_at P b f t2 vs 0 cs.toArray w hb (by simp; omega) (fun v hv => by simpa using List.all_eq_true.1 h1 v hv)
  simp only [Nat.add_zero] at hs
  simp only [execOp, hx, hy, Instr.storeAt, Instr.sureAddr, storeVar, (hT w).2, Value.cells, Sem.run_bind, Sem.run_pure, Result.andThen_ok, List.size_toArray, hl, ne_eq, not_true_eq_false, if_false]
  rw [hs, ← hl]
  rfl
end
end Go.Proofs.Ytdhekpodgemneaa
