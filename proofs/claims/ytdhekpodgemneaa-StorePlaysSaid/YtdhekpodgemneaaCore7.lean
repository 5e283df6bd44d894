/- Small words for printed proofs. No program in it. -/
import Derived.Test.YtdhekpodgemneaaCore6
set_option linter.unusedVariables false
set_option linter.unusedSimpArgs false
namespace Go.Proofs.Ytdhekpodgemneaa
open Go Go.RowKit

/-! ### frames of which some slots are known -/
def updl (ρ : Nat → Value) : List (Nat × Value) → Nat → Value
  | [], t => ρ t
  | (d, v) :: l, t => if t = d then v else updl ρ l t
def agr (ρ : Nat → Value) : List (Nat × Value) → Prop
  | [] => True
  | (d, v) :: l => ρ d = v ∧ agr ρ l
theorem updl_self {ρ : Nat → Value} : ∀ {l : List (Nat × Value)}, agr ρ l → updl ρ l = ρ
  | [], _ => rfl
  | (d, v) :: l, h => by
    funext t
    have ih := congrFun (updl_self (l := l) h.2) t
    simp only [updl]
    split
    · rename_i e; subst e; exact h.1.symm
    · exact ih
theorem an {ρ : Nat → Value} : agr ρ [] := trivial
theorem ac {ρ : Nat → Value} {d : Nat} {v : Value} {l : List (Nat × Value)} (h : ρ d = v) (t : agr ρ l) : agr ρ ((d, v) :: l) := ⟨h, t⟩
theorem upk {ρ : Nat → Value} {l : List (Nat × Value)} (h : agr ρ l) : ∃ base, ρ = updl base l := ⟨ρ, (updl_self h).symm⟩
section
variable {P : Program} {n : Nat} {k : Kt} {ρ : Nat → Value} {w w0 : World} {c : Code} {Γ : List (World → Prop)} {ops : Array Oper} {l : List Oper}
theorem n_frame (ls : List (Nat × Value)) (h : agr ρ ls) (hk : N P n k (updl ρ ls) w) : N P n k ρ w := by rw [updl_self h] at hk; exact hk
theorem w_frame (ls : List (Nat × Value)) (h : agr ρ ls) (hk : W P n c k (updl ρ ls) w) : W P n c k ρ w := by rw [updl_self h] at hk; exact hk
/-- one operation of a region that draws, at the slots that it looks at -/
theorem sp_op {o : Oper} {J : Value → World → Prop} {kd : Kt} (ls : List (Nat × Value)) (h : agr ρ ls) (hk : R P n ops [o] (.lp (fun a w' => ∃ v, a = St n (updo (updl ρ ls) o.dst v) ∧ J v w') kd) (updl ρ ls) w) : R P n ops [o] (.lp (fun a w' => ∃ v, a = St n (updo ρ o.dst v) ∧ J v w') kd) ρ w := by rw [updl_self h] at hk; exact hk
/-- a loop by fuel -/
theorem st_loopF {σ τ : Type} (f : Nat → σ → Option τ) (Inv : σ → (Nat → Value) → World → Prop) {t : τ} {s : σ} {m : Nat} (hl : f m s = some t) (h0 : ∀ s, f 0 s = none) (hi : Inv s ρ w)
    (step : ∀ m, (∀ s ρ w, Inv s ρ w → f m s = some t → L P n c k m ρ w) → ∀ s ρ w, Inv s ρ w → f (m + 1) s = some t → W P n c (rnd P n c k m) ρ w) : W P n (.loop c) k ρ w := by
  have key : ∀ m s ρ w, Inv s ρ w → f m s = some t → L P n c k m ρ w := by
    intro m
    induction m with
    | zero => intro s ρ w _ h; rw [h0] at h; cases h
    | succ m ih => intro s ρ w hi h; exact l_round (step m ih s ρ w hi h)
  exact st_loop m (key m s ρ w hi hl)
/-- a loop over a list -/
theorem st_loopL {α σ τ : Type} (f : List α → σ → Option τ) (Inv : List α → σ → (Nat → Value) → World → Prop) {t : τ} {s : σ} {xs : List α} (hl : f xs s = some t) (hi : Inv xs s ρ w)
    (step : ∀ m ys, (∀ y zs, ys = y :: zs → ∀ s ρ w, Inv zs s ρ w → f zs s = some t → L P n c k m ρ w) → ∀ s ρ w, Inv ys s ρ w → f ys s = some t → W P n c (rnd P n c k m) ρ w) : W P n (.loop c) k ρ w := by
  have key : ∀ xs s ρ w, Inv xs s ρ w → f xs s = some t → L P n c k (xs.length + 1) ρ w := by
    intro xs
    induction xs with
    | nil => intro s ρ w hi h; exact l_round (step 0 [] (fun y zs e => by cases e) s ρ w hi h)
    | cons x xs ih => intro s ρ w hi h; exact l_round (step (xs.length + 1) (x :: xs) (fun y zs e => by cases e; exact ih) s ρ w hi h)
  exact st_loop _ (key xs s ρ w hi hl)
end
theorem FAt.mk2 {P : Program} {s f m off : Nat} {fs : Array Field} {fl : Field} (hu : P.underlying s = some (.struct fs)) (hf : fs[f]? = some fl) (ho : fl.offset = off) (hs : ∀ w, (sizeOf fl.type).run P w = .ok m w) (hm : m ≠ 0) : FAt P s f off := ho ▸ FAt.mk' hu hf hs hm
theorem Hp.memr {w0 w : World} {Δ Γ : List (World → Prop)} {B : World → Prop} (H : Hp w0 (Δ ++ Γ) w) (h : B ∈ Δ) : B w := by
  obtain ⟨i, hi⟩ := List.getElem?_of_mem (List.mem_append_left Γ h)
  exact H.mem hi
theorem some_inj2 {α β : Type} {a : α} {b : β} {a' : α} {b' : β} (h : some (a, b) = some (a', b')) : a = a' ∧ b = b' := by cases h; exact ⟨rfl, rfl⟩
theorem some_inj3 {α β γ : Type} {a : α} {b : β} {c : γ} {a' : α} {b' : β} {c' : γ} (h : some (a, b, c) = some (a', b', c')) : a = a' ∧ b = b' ∧ c = c' := by cases h; exact ⟨rfl, rfl, rfl⟩
theorem some_inj4 {α β γ δ : Type} {a : α} {b : β} {c : γ} {d : δ} {a' : α} {b' : β} {c' : γ} {d' : δ} (h : some (a, b, c, d) = some (a', b', c', d')) : a = a' ∧ b = b' ∧ c = c' ∧ d = d' := by cases h; exact ⟨rfl, rfl, rfl, rfl⟩
/-! ### parts of values -/
def vA : Value → Option Addr
  | .slice A _ _ => A
  | _ => none
def vC : Value → Nat
  | .slice _ _ c => c
  | _ => 0
def vB : Value → Nat
  | .pointer (some a) => a.block
  | _ => 0
def vT (k : Nat) : Value → Value
  | .tuple a => a.getD k undef
  | _ => undef
def oA : Option Addr → Addr
  | some a => a
  | none => ⟨0, 0, none⟩
/-! ### what a printed function comes to -/
def gd {α : Type} (c : Prop) [Decidable c] (x : Option α) : Option α := if c then x else none
theorem gd_some {α : Type} {c : Prop} [Decidable c] {x : Option α} {r : α} (h : gd c x = some r) : c ∧ x = some r := by
  unfold gd at h; split at h
  · rename_i hc; exact ⟨hc, h⟩
  · cases h
theorem gd_true {α : Type} {c : Prop} [Decidable c] {x : Option α} (h : c) : gd c x = x := if_pos h
theorem ite_some {α : Type} {c : Bool} {x y : Option α} {r : α} (h : (if c = true then x else y) = some r) : (c = true ∧ x = some r) ∨ (c = false ∧ y = some r) := by
  cases c
  · exact .inr ⟨rfl, h⟩
  · exact .inl ⟨rfl, h⟩
theorem bind_some {α β : Type} {x : Option α} {f : α → Option β} {r : β} (h : x.bind f = some r) : ∃ y, x = some y ∧ f y = some r := Option.bind_eq_some_iff.1 h
def FUEL : Nat := 4611686018427387904
def w64 (x : Int) : Int := IntKind.i64.wrap x
theorem w64_id {x : Int} (h0 : -9223372036854775808 ≤ x) (h1 : x ≤ 9223372036854775807) : w64 x = x := by
  unfold w64; exact IntWalk.i64_in _ (by omega)
theorem int_next {i n : Nat} (h : i < n) (hn : n ≤ 9223372036854775807) : Value.int .i64 (IntKind.i64.wrap ((i : Int) + 1)) = .int .i64 ((i + 1 : Nat) : Int) := by
  have : IntKind.i64.wrap ((i : Int) + 1) = (i : Int) + 1 := w64_id (by omega) (by omega)
  rw [this]; simp
theorem get_mid {α : Type} (xs : List α) (x : α) (ys : List α) : (xs ++ x :: ys)[xs.length]? = some x := by simp
/-- an element of a list, by Go's index -/
def rd {α : Type} [Inhabited α] (xs : List α) (i : Int) : α := xs.getD i.toNat default
theorem rd_get {α : Type} [Inhabited α] {xs : List α} {i : Int} (h0 : 0 ≤ i) (h1 : i < (xs.length : Int)) : xs[i.toNat]? = some (rd xs i) := by
  have : i.toNat < xs.length := by omega
  simp [rd, List.getD_eq_getElem?_getD, this]
def fit (a b : Nat) : Prop := (a + b) * 1000 ≤ 140737488355328
instance (a b : Nat) : Decidable (fit a b) := by unfold fit; infer_instance
theorem fit_le {a b by_ : Nat} (h : fit a b) (hb : by_ ≤ 1000) : (a + b) * by_ ≤ 140737488355328 := Nat.le_trans (Nat.mul_le_mul_left _ hb) h
theorem fit_small {a b : Nat} (h : a + b ≤ 100000000) : fit a b := by unfold fit; omega
theorem SlR.nil {α : Type} (K : Kn α) (A : Option Addr) (w : World) : SlR K A [] w := ⟨by simp, .inl rfl⟩
section
variable {α : Type} {K : Kn α} {xs : List α} {w : World} {A : Option Addr} {ad : Addr} {j : Nat} {x : α}
theorem SlR.adO (h : SlR K A xs w) (hj : xs[j]? = some x) : A = some (oA A) := by
  obtain ⟨ad, h, _⟩ := h.ad hj
  rw [h]; rfl
theorem Row.leneq {m c : Nat} (h : Row K (.slice A m c) xs w) : m = xs.length := by
  rcases h with ⟨A, e, rfl⟩ | ⟨g, off, cap, cur, e, hg, hc, _⟩
  · cases e; rfl
  · cases e; rfl
theorem SlR.lim (h : SlR K A xs w) : xs.length ≤ 9223372036854775807 := h.1
theorem SlR.adj (h : SlR K A xs w) (hj : xs[j]? = some x) : ∃ ad, A = some ad := by
  obtain ⟨ad, h, _⟩ := h.ad hj
  exact ⟨ad, h⟩
theorem SlR.cA (h : SlR K A xs w) (hA : A = some ad) (hj : xs[j]? = some x) (f : Nat) (u : Value) (hu : (K.enc x)[f]? = some u) : w.cell? ((ad.add (j * K.sz)).add f) = some u := by subst hA; exact h.cell hj f u hu
theorem SlR.c0A (h : SlR K A xs w) (hA : A = some ad) (hj : xs[j]? = some x) (u : Value) (hu : (K.enc x)[0]? = some u) : w.cell? (ad.add (j * K.sz)) = some u := by subst hA; exact h.cell0 hj u hu
theorem SlR.csA (h : SlR K A xs w) (hA : A = some ad) (hj : xs[j]? = some x) : ∀ (f : Nat) u, (K.enc x)[f]? = some u → w.cell? ((ad.add (j * K.sz)).add f) = some u := by subst hA; exact h.cells hj
theorem range_end {dn : List α} {i : Int} (h : xs = dn ++ []) (hi : i = (dn.length : Int)) : decide (i < (xs.length : Int)) = false := by subst h; simp [hi]
theorem range_in {dn ys : List α} {y : α} {i : Int} (h : xs = dn ++ y :: ys) (hi : i = (dn.length : Int)) : decide (i < (xs.length : Int)) = true := by subst h; simp [hi]; omega
theorem range_ix {dn ys : List α} {y : α} {i : Int} (h : xs = dn ++ y :: ys) (hi : i = (dn.length : Int)) : 0 ≤ i ∧ i < (xs.length : Int) ∧ xs[i.toNat]? = some y := by
  subst h; subst hi; simp; omega
theorem range_next {dn ys : List α} {y : α} {i : Int} (h : xs = dn ++ y :: ys) (hi : i = (dn.length : Int)) (hl : xs.length ≤ 9223372036854775807) : Value.int .i64 (IntKind.i64.wrap (i + 1)) = .int .i64 (i + 1) := by
  subst h; subst hi
  simp at hl
  rw [show IntKind.i64.wrap ((dn.length : Int) + 1) = (dn.length : Int) + 1 from IntWalk.i64_in _ (by omega)]
theorem range_more {dn ys : List α} {y : α} (h : xs = dn ++ y :: ys) : xs = (dn ++ [y]) ++ ys := by simp [h]
theorem range_len {dn : List α} {y : α} {i : Int} (hi : i = (dn.length : Int)) : i + 1 = ((dn ++ [y]).length : Int) := by simp [hi]
end
theorem Row.cap {α : Type} {K : Kn α} {xs : List α} {A : Option Addr} {m c : Nat} {w : World} (h : Row K (.slice A m c) xs w) : xs.length ≤ c := by
  rcases h with ⟨A, e, rfl⟩ | ⟨g, off, cap, cur, e, hg, hc, _⟩
  · cases e; simp
  · cases e; exact hc
/-- a function value answers as p -/
def FnOk {α β : Type} (P : Program) (w0 : World) (Γ : List (World → Prop)) (fv : Value) (ea : α → List Value) (eb : β → Value) (p : α → Option β) : Prop :=
  ∃ f cap, fv = .func (.func f) #[] (List.toArray cap) ∧ (∀ (args : Array Value) (w : World), (callFunc f args).run P w = .ok (.enter f args) w) ∧
    ∀ x y, p x = some y → ∀ Δ w, Hp w0 Δ w → (∀ u, Hp w0 Δ u → Hp w0 Γ u) → Calls P f (ea x ++ cap).toArray w (fun e w' => e = .returned (eb y) ∧ Hp w0 Δ w')
section
variable {P : Program} {n : Nat} {k : Kt} {ρ : Nat → Value} {w w0 : World} {Γ : List (World → Prop)} {ops : Array Oper} {l : List Oper} {dst : Option Tmp} {ty : TypeId} {pos : String} {after : Array Edge} {g : Option (Nat × Bool)} {t : TypeId} {x y : Operand} {α : Type} {K : Kn α} {xs : List α}
/-- a field of an element is stored -/
theorem r_stx1 {A : Option Addr} {ad : Addr} {f m c' j : Nat} {e : α} {v : Value} (e' : α) (hA : A = some ad) (hT : Ld1 P t) (hx : ev n ρ x = .pointer (some ((ad.add (j * K.sz)).add f))) (hy : ev n ρ y = v) (h1 : v.oneCell' = true) (H : Hp w0 (Row K (.slice A m c') xs :: Γ) w) (hj : xs[j]? = some e) (hf : f < K.sz) (he : K.enc e' = (K.enc e).set f v)
    (hk : ∀ w', Hp w0 (Row K (.slice A m c') (xs.set j e') :: Γ) w' → R P n ops l k (updo ρ dst undef) w') (hw : wn n ops ρ ⟨dst, .store t x y, ty, pos, after, g⟩ = true := by rfl) : R P n ops (⟨dst, .store t x y, ty, pos, after, g⟩ :: l) k ρ w := by
  subst hA
  have hr := H.g0
  obtain ⟨g0, off, c2, he2⟩ := hr.own (by rintro rfl; simp at hj)
  cases he2
  obtain ⟨u, hu⟩ : ∃ u, (K.enc e)[f]? = some u := ⟨_, List.getElem?_eq_getElem (by rw [K.len]; exact hf)⟩
  have hc := hr.rd.cell hj f u hu
  have hfz : w.frozen? ((((⟨g0, off, none⟩ : Addr).add (j * K.sz))).add f) = false := by
    rw [Addr.add_add, Addr.add_lit]
    rcases hr with ⟨A, e3, rfl⟩ | ⟨g2, off2, cap, cur, e3, hg, _⟩
    · simp at hj
    · cases e3; simp [World.frozen?, hg]
  refine r_eff ?_ hw (hk _ (H.row_set hj hf he))
  simp [execOp, hx, hy, Instr.storeAt, Instr.sureAddr, run_storeVar1 hT h1 hc hfz]
theorem r_stx0 {A : Option Addr} {ad : Addr} {m c' j : Nat} {e : α} {v : Value} (e' : α) (hA : A = some ad) (hT : Ld1 P t) (hx : ev n ρ x = .pointer (some (ad.add (j * K.sz)))) (hy : ev n ρ y = v) (h1 : v.oneCell' = true) (H : Hp w0 (Row K (.slice A m c') xs :: Γ) w) (hj : xs[j]? = some e) (hf : 0 < K.sz) (he : K.enc e' = (K.enc e).set 0 v)
    (hk : ∀ w', Hp w0 (Row K (.slice A m c') (xs.set j e') :: Γ) w' → R P n ops l k (updo ρ dst undef) w') (hw : wn n ops ρ ⟨dst, .store t x y, ty, pos, after, g⟩ = true := by rfl) : R P n ops (⟨dst, .store t x y, ty, pos, after, g⟩ :: l) k ρ w :=
  r_stx1 (e := e) e' hA hT (by rw [hx]; simp [Addr.add]) hy h1 H hj hf he hk hw
/-- an element is stored whole -/
theorem r_stxA {A : Option Addr} {ad : Addr} {m mm c' j : Nat} {vs : List Value} (e' : α) (hA : A = some ad) (hT : LdA P t m) (hx : ev n ρ x = .pointer (some (ad.add (j * K.sz)))) (hy : ev n ρ y = .agg vs.toArray) (hm : K.sz = m) (hvs : K.enc e' = vs) (H : Hp w0 (Row K (.slice A mm c') xs :: Γ) w) (hj : j < xs.length)
    (hk : ∀ w', Hp w0 (Row K (.slice A mm c') (xs.set j e') :: Γ) w' → R P n ops l k (updo ρ dst undef) w') (hw : wn n ops ρ ⟨dst, .store t x y, ty, pos, after, g⟩ = true := by rfl) : R P n ops (⟨dst, .store t x y, ty, pos, after, g⟩ :: l) k ρ w := by
  subst hA
  have hr := H.g0
  subst hvs
  subst hm
  obtain ⟨g0, off, c2, he2⟩ := hr.own (by rintro rfl; simp at hj)
  cases he2
  rcases hr with ⟨A, e3, rfl⟩ | ⟨g2, off2, cap, cur, e3, hg, hc, hmx, hs, hi⟩
  · simp at hj
  · cases e3
    have hfit : off + j * K.sz + (K.enc e').length ≤ cur.size := by
      have h1 : (j + 1) * K.sz ≤ xs.length * K.sz := Nat.mul_le_mul_right _ hj
      have h2 : xs.length * K.sz ≤ c' * K.sz := Nat.mul_le_mul_right _ hc
      rw [Nat.add_mul] at h1
      rw [K.len]; omega
    have hst := run_storeCells_at P g0 (off + j * K.sz) K.ty (K.enc e') 0 cur w hg (by simpa using hfit) (fun u hu => List.all_eq_true.1 (K.one e') u hu)
    simp only [Nat.add_zero] at hst
    refine r_eff ?_ hw (hk _ (H.row_setA (x' := e') hj cur hg))
    simp only [execOp, hx, hy, Instr.storeAt, Instr.sureAddr, storeVar, (hT w).2, Value.cells, Sem.run_bind, Sem.run_pure, Result.andThen_ok, List.size_toArray, K.len, ne_eq, not_true_eq_false, if_false, Addr.add_lit]
    rw [hst]
    simp only [K.len]
    rfl
end
end Go.Proofs.Ytdhekpodgemneaa
