/- Rows of structs that hold a slice each: the outer row, and the inner slices, which are read only. No program in it. -/
import Derived.Test.YtdhekpodgemneaaCore11
set_option linter.unusedVariables false
set_option linter.unusedSimpArgs false
set_option linter.unusedSectionVars false
namespace Go.Proofs.Ytdhekpodgemneaa
open Go Go.RowKit

structure KnN (α β : Type) where
  kn : (Option Addr × Nat) → Kn α
  ty : TypeId
  sz : Nat
  hty : ∀ a, (kn a).ty = ty
  hsz : ∀ a, (kn a).sz = sz
  pos : 0 < sz
  fld : α → List β
  ki : Kn β
def vG (k : Nat) : Value → Value
  | .agg a => a.getD k undef
  | _ => undef
/-- where the slice of element j stands: read off a value -/
def adv (v : Value) (j : Nat) : Option Addr × Nat := (vA (vT j v), vC (vT j v))
section
variable {α β : Type} {N : KnN α β} {xs ys : List α} {av bv v : Value} {A : Option Addr} {m c : Nat} {w : World} {x : α} {j : Nat}
def KnN.kp (N : KnN α β) : Kn (α × (Option Addr × Nat)) := ⟨N.ty, N.sz, fun z => (N.kn z.2).enc z.1, fun z => by rw [(N.kn z.2).len, N.hsz], N.pos, fun z => (N.kn z.2).one z.1⟩
def zzf (v : Value) : Nat → List α → List (α × (Option Addr × Nat))
  | _, [] => []
  | j, x :: xs => (x, adv v j) :: zzf v (j + 1) xs
def zz (xs : List α) (v : Value) : List (α × (Option Addr × Nat)) := zzf v 0 xs
theorem zzf_len (v : Value) : ∀ (xs : List α) (j : Nat), (zzf v j xs).length = xs.length
  | [], _ => rfl
  | x :: xs, j => by simp [zzf, zzf_len v xs]
theorem zz_len (xs : List α) (v : Value) : (zz xs v).length = xs.length := zzf_len v xs 0
theorem zzf_get (v : Value) : ∀ (xs : List α) (i j : Nat), (zzf v i xs)[j]? = (xs[j]?).map fun x => (x, adv v (i + j))
  | [], _, _ => by simp [zzf]
  | x :: xs, i, 0 => by simp [zzf]
  | x :: xs, i, j + 1 => by
    simp only [zzf, List.getElem?_cons_succ, zzf_get v xs (i + 1) j]
    rw [show i + 1 + j = i + (j + 1) by omega]
theorem zz_get (xs : List α) (v : Value) (j : Nat) : (zz xs v)[j]? = (xs[j]?).map fun x => (x, adv v j) := by
  rw [zz, zzf_get, Nat.zero_add]
/-- where the slices stand, of two lists put together -/
def avp (n m : Nat) (a b : Value) : Value := .tuple ((List.range (n + m)).map fun j => if j < n then vT j a else vT (j - n) b).toArray
theorem adv_avp {n m : Nat} {a b : Value} {j : Nat} (h : j < n + m) : adv (avp n m a b) j = if j < n then adv a j else adv b (j - n) := by
  have : vT j (avp n m a b) = if j < n then vT j a else vT (j - n) b := by
    simp [avp, vT, h]
  unfold adv
  rw [this]
  split <;> rfl
theorem zz_append (xs ys : List α) (a b : Value) : zz (xs ++ ys) (avp xs.length ys.length a b) = zz xs a ++ zz ys b := by
  apply List.ext_getElem?
  intro j
  rw [zz_get]
  by_cases h : j < xs.length
  · rw [List.getElem?_append_left h, List.getElem?_append_left (by rw [zz_len]; exact h), zz_get, adv_avp (by omega), if_pos h]
  · rw [List.getElem?_append_right (by omega), List.getElem?_append_right (by rw [zz_len]; omega), zz_get, zz_len]
    by_cases h2 : j - xs.length < ys.length
    · rw [adv_avp (by omega), if_neg h]
    · rw [List.getElem?_eq_none (by omega)]; rfl
/-- a row of the code's own whose elements hold a slice each -/
def RwN (N : KnN α β) (v : Value) (xs : List α) (av : Value) (w : World) : Prop := Row N.kp v (zz xs av) w
/-- the slices of the elements -/
def Ins (N : KnN α β) (xs : List α) (av : Value) (w : World) : Prop := ∀ j x, xs[j]? = some x → (N.fld x).length ≤ (adv av j).2 ∧ SlR N.ki (adv av j).1 (N.fld x) w
theorem RwN.leneq (h : RwN N (.slice A m c) xs av w) : m = xs.length := by
  have := Row.leneq h
  rwa [zz_len] at this
theorem RwN.cap (h : RwN N (.slice A m c) xs av w) : xs.length ≤ c := by
  have := Row.cap h
  rwa [zz_len] at this
theorem RwN.rd (h : RwN N (.slice A m c) xs av w) : SlRN (fun j => N.kn (adv av j)) N.sz A xs w := by
  have hr : SlR N.kp A (zz xs av) w := Row.rd h
  refine ⟨by have := hr.1; rwa [zz_len] at this, ?_⟩
  rcases hr.2 with h0 | ⟨ad, hA, _⟩
  · refine .inl ?_
    have := zz_len xs av
    rw [h0] at this
    exact List.eq_nil_of_length_eq_zero this.symm
  · refine .inr ⟨ad, hA, fun j x hj f u hu => ?_⟩
    have hz : (zz xs av)[j]? = some (x, adv av j) := by rw [zz_get, hj]; rfl
    exact hr.cA hA hz f u hu
theorem RwN.src (h : RwN N v xs av w) : Src w v (zz xs av).length (N.kp.flat (zz xs av)) N.sz := Row.src h
theorem RwN.nil (w : World) : RwN N (.slice none 0 0) [] (.tuple #[]) w := Row.nil w
theorem Ins.nil (av : Value) (w : World) : Ins N [] av w := fun j x h => by simp at h
theorem Ins.one (h : Row N.ki (.slice A m c) (N.fld x) w) : Ins N [x] (.tuple #[.slice A m c]) w := fun j y hj => by
  cases j with
  | zero =>
    simp at hj; subst hj
    exact ⟨h.cap, h.rd⟩
  | succ j => simp at hj
theorem RwN.one (h : Row N.kp v [(x, (A, c))] w) : RwN N v [x] (.tuple #[.slice A m c]) w := h
theorem Ins.append (h1 : Ins N xs av w) (h2 : Ins N ys bv w) : Ins N (xs ++ ys) (avp xs.length ys.length av bv) w := fun j x hj => by
  by_cases h : j < xs.length
  · rw [List.getElem?_append_left h] at hj
    rw [adv_avp (by omega), if_pos h]
    exact h1 j x hj
  · rw [List.getElem?_append_right (by omega)] at hj
    have h3 := (List.getElem?_eq_some_iff.1 hj).1
    rw [adv_avp (by omega), if_neg h]
    exact h2 _ x hj
/-- a function value answers as p, of elements that hold a slice each -/
def FnOkN {γ : Type} (P : Program) (w0 : World) (Γ : List (World → Prop)) (fv : Value) (N : KnN α β) (ea : α → Option Addr × Nat → List Value) (eb : γ → Value) (p : α → Option γ) : Prop :=
  ∃ f cap, fv = .func (.func f) #[] (List.toArray cap) ∧ (∀ (args : Array Value) (w : World), (callFunc f args).run P w = .ok (.enter f args) w) ∧
    ∀ x a y, p x = some y → ∀ Δ w, Hp w0 Δ w → (∀ u, Hp w0 Δ u → Hp w0 Γ u) → (N.fld x).length ≤ a.2 → (∀ u, Hp w0 Δ u → SlR N.ki a.1 (N.fld x) u) → Calls P f (ea x a ++ cap).toArray w (fun e w' => e = .returned (eb y) ∧ Hp w0 Δ w')
end
section
variable {P : Program} {n : Nat} {k : Kt} {ρ : Nat → Value} {w w0 : World} {Γ : List (World → Prop)} {ops : Array Oper} {l : List Oper} {dst : Option Tmp} {ty : TypeId} {pos : String} {after : Array Edge} {g : Option (Nat × Bool)} {t : TypeId} {x y : Operand} {α β : Type} {N : KnN α β} {xs ys : List α} {av bv v : Value}
theorem r_appendNN {e m by_ : Nat} {xv : Value} (hT : ApT P t e m by_) (hK : N.ty = e) (hKs : N.sz = m) (hx : ev n ρ x = v) (hy : ev n ρ y = xv) (H : Hp w0 (RwN N v xs av :: Γ) w) (hs : RwN N xv ys bv w) (hb : (xs.length + ys.length) * by_ ≤ 140737488355328)
    (hk : ∀ A c w', Hp w0 (RwN N (.slice A (xs ++ ys).length c) (xs ++ ys) (avp xs.length ys.length av bv) :: Γ) w' → R P n ops l k (updo ρ dst (.slice A (xs ++ ys).length c)) w') (hw : wn n ops ρ ⟨dst, .call ⟨.builtin .append, #[x, y], #[t, t]⟩, ty, pos, after, g⟩ = true := by rfl) : R P n ops (⟨dst, .call ⟨.builtin .append, #[x, y], #[t, t]⟩, ty, pos, after, g⟩ :: l) k ρ w := by
  have e1 : (zz xs av ++ zz ys bv).length = (xs ++ ys).length := by rw [List.length_append, zz_len, zz_len, List.length_append]
  refine r_append (K := N.kp) (xs := zz xs av) (ys := zz ys bv) hT hK hKs hx hy H (by have := hs.src; rw [hKs] at this; exact this) (by rw [zz_len, zz_len]; exact hb) (fun A c w' H' => ?_) hw
  rw [e1] at H' ⊢
  refine hk A c w' (H'.imp fun u hu => ?_)
  show Row N.kp _ (zz (xs ++ ys) (avp xs.length ys.length av bv)) u
  rw [zz_append]; exact hu
theorem st_ret1c {fn : Func} {Rr : Ending → World → Prop} {t0 : Nat} {a : Addr} {cty m : Nat} (cs : List Value) (hk : k.bot = (fn, Rr)) (hr : fn.results = #[.cell t0 cty]) (ht : t0 < n) (hv : ρ t0 = .pointer (some a)) (hT : LdA P cty m) (hl : cs.length = m) (hc : ∀ (j : Nat) v, cs[j]? = some v → w.cell? (a.add j) = some v) (h : Rr (.returned (.agg cs.toArray)) w) : W P n .ret k ρ w := by
  refine wp_ret (ret_den ?_)
  rw [hk]
  refine ⟨rfl, _, ?_, h⟩
  have h1 := St_getD (ρ := ρ) t0 ht
  subst hl
  simp only [Array.getD_eq_getD_getElem?] at h1
  simp [results, hr, h1, hv, asAddr, loadVar, (hT w).1, (hT w).2, run_loadCells_list w a cs hc]
theorem st_ret2c {fn : Func} {Rr : Ending → World → Prop} {t0 u : Nat} {a : Addr} {cty m : Nat} {v2 : Value} (cs : List Value) (hk : k.bot = (fn, Rr)) (hr : fn.results = #[.cell t0 cty, .tmp u]) (ht : t0 < n) (hu : u < n) (hv : ρ t0 = .pointer (some a)) (hT : LdA P cty m) (hl : cs.length = m) (hc : ∀ (j : Nat) v, cs[j]? = some v → w.cell? (a.add j) = some v) (hv2 : ρ u = v2) (h : Rr (.returned (.tuple #[.agg cs.toArray, v2])) w) : W P n .ret k ρ w := by
  refine wp_ret (ret_den ?_)
  rw [hk]
  refine ⟨rfl, _, ?_, h⟩
  have h1 := St_getD (ρ := ρ) t0 ht
  have h2 := St_getD (ρ := ρ) u hu
  subst hl
  simp only [Array.getD_eq_getD_getElem?] at h1 h2
  simp [results, hr, h1, h2, hv, hv2, asAddr, loadVar, (hT w).1, (hT w).2, run_loadCells_list w a cs hc]
end
end Go.Proofs.Ytdhekpodgemneaa
