/- A framework for walks: frames as functions, what is still to run as a stack, memory as a list of atoms on disjoint sets of blocks. No program in it. -/
import Derived.WalkKit
import Derived.LoopN
import Derived.Orders
import Derived.KernelRfl
import Derived.ScopeJumps
set_option linter.unusedVariables false
set_option linter.unusedSimpArgs false
namespace Go.Proofs.Ytdhekpodgemneaa
open Go Go.RowKit

/-! ### Frames -/
def upd {β : Type} (ρ : Nat → β) (d : Nat) (v : β) : Nat → β := fun t => if t = d then v else ρ t
def updo (ρ : Nat → Value) (d : Option Nat) (v : Value) : Nat → Value := match d with | some d => upd ρ d v | none => ρ
def Fr (n : Nat) (ρ : Nat → Value) : Array Value := Array.ofFn (n := n) fun i => ρ i
def St (n : Nat) (ρ : Nat → Value) : Act := ⟨Fr n ρ, []⟩
def ev (n : Nat) (ρ : Nat → Value) : Operand → Value
  | .tmp t => if t < n then ρ t else undef
  | .const v => v
  | .global g => .pointer (some ⟨g, 0, none⟩)
  | .func f => .func (.func f) #[] #[]
theorem St_eval (n : Nat) (ρ : Nat → Value) : (St n ρ).eval = ev n ρ := by
  funext x
  cases x with
  | tmp t =>
    simp only [Act.eval, St, Fr, ev]
    split
    · rename_i h; simp [h]
    · rename_i h; simp [h]
  | _ => rfl
theorem St_put (n : Nat) (ρ : Nat → Value) (d : Option Tmp) (v : Value) : (St n ρ).put d v = St n (updo ρ d v) := by
  cases d with
  | none => rfl
  | some d =>
    simp only [Act.put, St, updo]
    congr 1
    apply Array.ext
    · simp [Fr]
    · intro i h1 h2
      by_cases h : d = i
      · subst h; simp [Fr, upd]
      · have h' : ¬ i = d := fun e => h e.symm
        rw [Array.getElem_setIfInBounds_ne (by simpa [Fr] using h2) h]
        simp [Fr, upd, h']
def ini (l : List Value) : Nat → Value := fun t => l.getD t undef
theorem St_ini (n : Nat) (l : List Value) (h : l.length ≤ n) : (⟨l.toArray ++ Array.replicate (n - l.toArray.size) undef, []⟩ : Act) = St n (ini l) := by
  simp only [St]
  congr 1
  apply Array.ext
  · simp [Fr]; omega
  · intro i h1 h2
    simp only [Fr, Array.getElem_ofFn, ini, List.getD_eq_getElem?_getD]
    by_cases hi : i < l.length
    · rw [Array.getElem_append_left (by simpa using hi)]
      simp [hi]
    · rw [Array.getElem_append_right (by simpa using hi)]
      simp [List.getElem?_eq_none (by omega : l.length ≤ i)]

/-! ### What is still to run -/
inductive Kt where
  | fin (fn : Func) (R : Ending → World → Prop)
  | sq (c : Code) (k : Kt)
  | bl (id : Nat) (k : Kt)
  | lp (J : Act → World → Prop) (k : Kt)
  | sc (l : Nat) (J : Act → World → Prop) (k : Kt)
def Kt.den (P : Program) : Kt → Exit → Act → World → Prop
  | .fin fn R => bodyPost P fn R
  | .sq c k => Exit.then (c.wp P (k.den P)) (k.den P)
  | .bl id k => Exit.inBlock id (k.den P)
  | .lp J k => Exit.then J (k.den P)
  | .sc l J k => Exit.jump l J (k.den P)
/-- code c, then k -/
def W (P : Program) (n : Nat) (c : Code) (k : Kt) (ρ : Nat → Value) (w : World) : Prop := c.wp P (k.den P) (St n ρ) w
/-- the operations l of a region, then k -/
def R (P : Program) (n : Nat) (ops : Array Oper) (l : List Oper) (k : Kt) (ρ : Nat → Value) (w : World) : Prop := wpList P ops (k.den P) l (St n ρ) w
/-- k, begun at its head -/
def N (P : Program) (n : Nat) (k : Kt) (ρ : Nat → Value) (w : World) : Prop := k.den P .normal (St n ρ) w

section
variable {P : Program} {n : Nat} {k : Kt} {ρ : Nat → Value} {w : World} {c d : Code} {id : Nat} {ops : Array Oper} {o : Oper} {l : List Oper}

theorem st_enter {f : FuncId} {fn : Func} {args : List Value} {Rr : Ending → World → Prop} (hf : P.funcs[f]? = some fn) (hb : fn.body = some c) (hn : fn.ntmps = n) (ha : args.length ≤ n)
    (h : W P n c (.fin fn Rr) (ini args) w) : Calls P f args.toArray w Rr := by
  refine calls_of_wp hf hb ?_
  rw [hn, St_ini n args ha]
  exact h
theorem st_seq (h : W P n c (.sq d k) ρ w) : W P n (.seq c d) k ρ w := wp_seq h
theorem st_block (h : W P n c (.bl id k) ρ w) : W P n (.block id c) k ρ w := wp_block h
theorem st_skip (h : N P n k ρ w) : W P n .skip k ρ w := wp_skip h
theorem st_label {i : Nat} (h : N P n k ρ w) : W P n (.label i) k ρ w := wp_label h
theorem n_sq (h : W P n c k ρ w) : N P n (.sq c k) ρ w := h
theorem n_bl (h : N P n k ρ w) : N P n (.bl id k) ρ w := h
theorem n_lp {J : Act → World → Prop} (h : J (St n ρ) w) : N P n (.lp J k) ρ w := h
/-- leaving block i -/
def Kt.pop (i : Nat) : Kt → Option Kt
  | .fin _ _ => none
  | .sq _ k => k.pop i
  | .lp _ k => k.pop i
  | .sc _ _ k => k.pop i
  | .bl j k => if i = j then some k else k.pop i
theorem pop_den {i : Nat} {k' : Kt} : ∀ {k : Kt}, k.pop i = some k' → ∀ a w, k'.den P .normal a w → k.den P (.exit i) a w
  | .sq _ k, h, a, w, hk => pop_den (k := k) h a w hk
  | .lp _ k, h, a, w, hk => pop_den (k := k) h a w hk
  | .sc _ _ k, h, a, w, hk => pop_den (k := k) h a w hk
  | .bl j k, h, a, w, hk => by
    simp only [Kt.pop] at h
    simp only [Kt.den, Exit.inBlock]
    split at h
    · rename_i e; subst e; cases h; rw [if_pos rfl]; exact hk
    · rename_i e; rw [if_neg e]; exact pop_den h a w hk
theorem st_exit {i : Nat} {k' : Kt} (hp : k.pop i = some k') (h : N P n k' ρ w) : W P n (.exit i) k ρ w := wp_exit (pop_den hp _ _ h)
def Kt.bot : Kt → Func × (Ending → World → Prop)
  | .fin fn R => (fn, R)
  | .sq _ k => k.bot
  | .lp _ k => k.bot
  | .sc _ _ k => k.bot
  | .bl _ k => k.bot
theorem ret_den : ∀ {k : Kt} {a : Act} {w : World}, bodyPost P k.bot.1 k.bot.2 .ret a w → k.den P .ret a w
  | .fin _ _, _, _, h => h
  | .sq _ k, _, _, h => ret_den (k := k) h
  | .lp _ k, _, _, h => ret_den (k := k) h
  | .sc _ _ k, _, _, h => ret_den (k := k) h
  | .bl _ k, _, _, h => ret_den (k := k) h
theorem St_getD (t : Nat) (ht : t < n) : (St n ρ).tmps.getD t undef = ρ t := by simp [St, Fr, ht]
theorem St_defers : (St n ρ).defers = [] := rfl
theorem st_ret1 {fn : Func} {Rr : Ending → World → Prop} {t : Nat} {v : Value} (hk : k.bot = (fn, Rr)) (hr : fn.results = #[.tmp t]) (ht : t < n) (hv : ρ t = v) (h : Rr (.returned v) w) : W P n .ret k ρ w := by
  refine wp_ret (ret_den ?_)
  rw [hk]
  refine ⟨rfl, v, ?_, h⟩
  rw [results_tmp hr, St_getD t ht, hv]
theorem st_ret0 {fn : Func} {Rr : Ending → World → Prop} (hk : k.bot = (fn, Rr)) (hr : fn.results = #[]) (h : Rr (.returned (.tuple #[])) w) : W P n .ret k ρ w := by
  refine wp_ret (ret_den ?_)
  rw [hk]
  exact ⟨rfl, _, results_none hr _ _ _, h⟩
theorem st_ret2 {fn : Func} {Rr : Ending → World → Prop} {t u : Nat} {v v2 : Value} (hk : k.bot = (fn, Rr)) (hr : fn.results = #[.tmp t, .tmp u]) (ht : t < n) (hu : u < n) (hv : ρ t = v) (hv2 : ρ u = v2) (h : Rr (.returned (.tuple #[v, v2])) w) : W P n .ret k ρ w := by
  refine wp_ret (ret_den ?_)
  rw [hk]
  refine ⟨rfl, _, results_tmp2 hr _ _ _, ?_⟩
  rw [St_getD t ht, St_getD u hu, hv, hv2]; exact h
theorem st_ret3 {fn : Func} {Rr : Ending → World → Prop} {t u s : Nat} {v v2 v3 : Value} (hk : k.bot = (fn, Rr)) (hr : fn.results = #[.tmp t, .tmp u, .tmp s]) (ht : t < n) (hu : u < n) (hs : s < n) (hv : ρ t = v) (hv2 : ρ u = v2) (hv3 : ρ s = v3) (h : Rr (.returned (.tuple #[v, v2, v3])) w) : W P n .ret k ρ w := by
  refine wp_ret (ret_den ?_)
  rw [hk]
  refine ⟨rfl, _, by simp [results, hr]; rfl, ?_⟩
  have h1 := St_getD (ρ := ρ) t ht
  have h2 := St_getD (ρ := ρ) u hu
  have h3 := St_getD (ρ := ρ) s hs
  simp only [Array.getD_eq_getD_getElem?] at h1 h2 h3
  rw [h1, h2, h3, hv, hv2, hv3]; exact h
/-- the end of a function without return -/
theorem n_fin0 {fn : Func} {Rr : Ending → World → Prop} (hr : fn.results = #[]) (h : Rr (.returned (.tuple #[])) w) : N P n (.fin fn Rr) ρ w :=
  ⟨rfl, _, results_none hr _ _ _, h⟩
theorem n_fin1 {fn : Func} {Rr : Ending → World → Prop} {t : Nat} {v : Value} (hr : fn.results = #[.tmp t]) (ht : t < n) (hv : ρ t = v) (h : Rr (.returned v) w) : N P n (.fin fn Rr) ρ w := by
  refine ⟨rfl, v, ?_, h⟩
  rw [results_tmp hr, St_getD t ht, hv]

theorem st_cond_t {x : Operand} (hv : ev n ρ x = .bool true) (h : W P n c k ρ w) : W P n (.cond x c d) k ρ w := wp_cond_true (by rw [St_eval]; exact hv) h
theorem st_cond_f {x : Operand} (hv : ev n ρ x = .bool false) (h : W P n d k ρ w) : W P n (.cond x c d) k ρ w := wp_cond_false (by rw [St_eval]; exact hv) h
theorem st_condt {x : Operand} {b : Bool} (hb : b = true) (hv : ev n ρ x = .bool b) (h : W P n c k ρ w) : W P n (.cond x c d) k ρ w := st_cond_t (by rw [hv, hb]) h
theorem st_condf {x : Operand} {b : Bool} (hb : b = false) (hv : ev n ρ x = .bool b) (h : W P n d k ρ w) : W P n (.cond x c d) k ρ w := st_cond_f (by rw [hv, hb]) h

/-! ### labels -/
theorem n_sc {l : Nat} {J : Act → World → Prop} (h : N P n k ρ w) : N P n (.sc l J k) ρ w := h
def Kt.jmp (i : Nat) : Kt → Option (Act → World → Prop)
  | .fin _ _ => none
  | .sq _ k => k.jmp i
  | .lp _ k => k.jmp i
  | .bl _ k => k.jmp i
  | .sc l J _ => if i = l then some J else none
theorem jmp_den {i : Nat} {J : Act → World → Prop} : ∀ {k : Kt}, k.jmp i = some J → ∀ a w, J a w → k.den P (.goto i) a w
  | .sq _ k, h, a, w, hk => jmp_den (k := k) h a w hk
  | .lp _ k, h, a, w, hk => jmp_den (k := k) h a w hk
  | .bl _ k, h, a, w, hk => jmp_den (k := k) h a w hk
  | .sc l J' k, h, a, w, hk => by
    simp only [Kt.jmp] at h
    split at h
    · rename_i e; subst e; cases h; exact ⟨rfl, hk⟩
    · cases h
theorem st_goto {i : Nat} {J : Act → World → Prop} (hj : k.jmp i = some J) (h : J (St n ρ) w) : W P n (.goto i) k ρ w := wp_goto (jmp_den hj _ _ h)
theorem least {p : Nat → Prop} (h : ∃ m, p m) : ∃ m, p m ∧ ∀ q, p q → m ≤ q := by
  obtain ⟨m, hm⟩ := h
  induction m using Nat.strongRecOn with
  | _ m ih =>
    by_cases hq : ∃ q, q < m ∧ p q
    · obtain ⟨q, h1, h2⟩ := hq; exact ih q h1 h2
    · exact ⟨m, hm, fun q hp => Nat.le_of_not_lt fun hlt => hq ⟨q, hlt, hp⟩⟩
/-- rounds by a label, by fuel -/
theorem st_scopeF {σ τ : Type} {rest : Code} (i : Nat) (hf : findLabel c i = some rest) (f : Nat → σ → Option τ) (Inv : σ → (Nat → Value) → World → Prop) (t : τ) (h0 : ∀ s, f 0 s = none)
    (first : W P n c (.sc i (fun a w => ∃ m s ρ, a = St n ρ ∧ Inv s ρ w ∧ f m s = some t) k) ρ w)
    (step : ∀ m s ρ w, Inv s ρ w → f (m + 1) s = some t → W P n rest (.sc i (fun a w => ∃ s ρ, a = St n ρ ∧ Inv s ρ w ∧ f m s = some t) k) ρ w) : W P n (.scope c) k ρ w := by
  let p : Act → World → Nat → Prop := fun a w m => ∃ s ρ, a = St n ρ ∧ Inv s ρ w ∧ f m s = some t
  let μ : Act → World → Nat := fun a w => open Classical in if h : ∃ m, p a w m then Classical.choose (least h) else 0
  refine wp_scope_jumps i (fun a w => ∃ m, p a w m) μ hf first fun a w hJ => ?_
  have hμ : p a w (μ a w) ∧ ∀ q, p a w q → μ a w ≤ q := by
    have := Classical.choose_spec (least hJ)
    simp only [μ, dif_pos hJ]; exact this
  obtain ⟨⟨s, ρ', rfl, hi, hfm⟩, _⟩ := hμ
  cases hm : μ (St n ρ') w with
  | zero => rw [hm, h0] at hfm; cases hfm
  | succ m =>
    rw [hm] at hfm
    refine wp_mono (step m s ρ' w hi hfm) fun e a' w' he => ?_
    cases e with
    | goto l' =>
      obtain ⟨rfl, s', ρ2, rfl, hi', hf'⟩ := he
      have hJ' : ∃ q, p (St n ρ2) w' q := ⟨m, s', ρ2, rfl, hi', hf'⟩
      refine ⟨rfl, hJ', ?_⟩
      have hle : μ (St n ρ2) w' ≤ m := by
        have := (Classical.choose_spec (least hJ')).2 m ⟨s', ρ2, rfl, hi', hf'⟩
        simp only [μ, dif_pos hJ']; exact this
      omega
    | _ => exact he
theorem st_scopeX {σ τ : Type} {pre X : Code} (i : Nat) (hp : findLabel pre i = none) (f : Nat → σ → Option τ) (Inv : σ → (Nat → Value) → World → Prop) {t : τ} {s0 : σ} {m0 : Nat} (hl : f (m0 + 1) s0 = some t) (h0 : ∀ s, f 0 s = none)
    (first : ∀ J, W P n pre (.lp (fun a w => ∃ ρ, a = St n ρ ∧ Inv s0 ρ w) (.sc i J k)) ρ w)
    (body : ∀ (J : Act → World → Prop) m s ρ w, (∀ s ρ w, Inv s ρ w → f m s = some t → J (St n ρ) w) → Inv s ρ w → f (m + 1) s = some t → W P n X (.sc i J k) ρ w) : W P n (.scope (.seq pre (.seq (.label i) X))) k ρ w := by
  refine st_scopeF (rest := .seq .skip X) i (by simp [findLabel, hp]) f Inv t h0 ?_ fun m s ρ w hi hm => ?_
  · refine wp_seq (wp_mono (first (fun a w => ∃ m s ρ, a = St n ρ ∧ Inv s ρ w ∧ f m s = some t)) fun e a w he => ?_)
    cases e with
    | normal =>
      obtain ⟨ρ', rfl, hi⟩ := he
      refine wp_seq (wp_label ?_)
      exact body _ m0 s0 ρ' w (fun s ρ w hi hm => ⟨m0, s, ρ, rfl, hi, hm⟩) hi hl
    | _ => exact he
  · refine wp_seq (wp_skip ?_)
    exact body _ m s ρ w (fun s ρ w hi hm => ⟨s, ρ, rfl, hi, hm⟩) hi hm
/-- a cut: what is run next is begun in a state of which J alone is known -/
theorem st_cut (J : (Nat → Value) → World → Prop) (h : W P n c (.lp (fun a w => ∃ ρ, a = St n ρ ∧ J ρ w) k) ρ w) (hk : ∀ ρ w, J ρ w → W P n d k ρ w) : W P n (.seq c d) k ρ w := by
  refine wp_seq (wp_mono h ?_)
  intro e a w he
  cases e with
  | normal => obtain ⟨ρ, rfl, hj⟩ := he; exact hk ρ w hj
  | _ => exact he
theorem n_cut {J : (Nat → Value) → World → Prop} (h : J ρ w) : N P n (.lp (fun a w => ∃ ρ, a = St n ρ ∧ J ρ w) k) ρ w := ⟨ρ, rfl, h⟩
/-- a cut behind a block that stands last -/
theorem st_cutb (J : (Nat → Value) → World → Prop) (h : W P n c (.bl id (.lp (fun a w => ∃ ρ, a = St n ρ ∧ J ρ w) k)) ρ w) (hk : ∀ ρ w, J ρ w → N P n k ρ w) : W P n (.block id c) k ρ w := by
  refine wp_mono (wp_block h) ?_
  intro e a w he
  cases e with
  | normal => obtain ⟨ρ, rfl, hj⟩ := he; exact hk ρ w hj
  | _ => exact he
theorem n_cutk (J : (Nat → Value) → World → Prop) (h : W P n c (.lp (fun a w => ∃ ρ, a = St n ρ ∧ J ρ w) k) ρ w) (hk : ∀ ρ w, J ρ w → N P n k ρ w) : W P n c k ρ w := by
  refine wp_mono h ?_
  intro e a w he
  cases e with
  | normal => obtain ⟨ρ, rfl, hj⟩ := he; exact hk ρ w hj
  | _ => exact he

/-- a loop, by rounds -/
def L (P : Program) (n : Nat) (c : Code) (k : Kt) (m : Nat) (ρ : Nat → Value) (w : World) : Prop := Code.rounds P c (k.den P) m (St n ρ) w
theorem st_loop (m : Nat) (h : L P n c k m ρ w) : W P n (.loop c) k ρ w := wp_loop_rounds m h
def rnd (P : Program) (n : Nat) (c : Code) (k : Kt) (m : Nat) : Kt := .lp (Code.rounds P c (k.den P) m) k
theorem l_round {m : Nat} (h : W P n c (rnd P n c k m) ρ w) : L P n c k (m + 1) ρ w := h
theorem n_round {m : Nat} (h : L P n c k m ρ w) : N P n (rnd P n c k m) ρ w := h
theorem pop_rnd {m i : Nat} : (rnd P n c k m).pop i = k.pop i := rfl

/-! ### Regions -/
theorem st_region (h : R P n l.toArray l k ρ w) : W P n (.region id l.toArray false) k ρ w := wp_region_lit h
theorem r_nil (h : N P n k ρ w) : R P n ops [] k ρ w := wpList_nil h
theorem r_seq (h : W P n c k ρ w) : R P n ops [] (.sq c k) ρ w := wpList_nil h
def wn (n : Nat) (ops : Array Oper) (ρ : Nat → Value) (o : Oper) : Bool := Region.wanted o (yielded ops (Fr n ρ))
/-- an operation that yields a value -/
theorem r_val {v : Value} {w' : World} (hr : (execOp (ev n ρ) o).run P w = .ok (.value v) w') (hw : wn n ops ρ o = true) (h : R P n ops l k (updo ρ o.dst v) w') : R P n ops (o :: l) k ρ w := by
  unfold R wpList
  rw [if_pos (show Region.wanted o (yielded ops (St n ρ).tmps) = true from hw)]
  refine .inl ?_
  unfold Oper.wp
  rw [St_eval, hr, Oper.upon_value, St_put]
  exact h
/-- an operation that yields nothing -/
theorem r_eff {w' : World} (hr : (execOp (ev n ρ) o).run P w = .ok .skip w') (hw : wn n ops ρ o = true) (h : R P n ops l k (updo ρ o.dst undef) w') : R P n ops (o :: l) k ρ w := by
  unfold R wpList
  rw [if_pos (show Region.wanted o (yielded ops (St n ρ).tmps) = true from hw)]
  refine .inl ?_
  unfold Oper.wp
  rw [St_eval, hr, Oper.upon_skip, St_put]
  exact h
/-- a guard that says no -/
theorem r_not (hw : wn n ops ρ o = false) (h : R P n ops l k (updo ρ o.dst undef) w) : R P n ops (o :: l) k ρ w := by
  unfold R wpList
  rw [if_neg (by rw [show Region.wanted o (yielded ops (St n ρ).tmps) = false from hw]; simp), St_put]
  exact h
/-- a call -/
theorem r_call {f : FuncId} {args : List Value} {Rr : Ending → World → Prop} {w' : World} (hr : (execOp (ev n ρ) o).run P w = .ok (.enter f args.toArray) w') (hc : Calls P f args.toArray w' Rr) (hw : wn n ops ρ o = true)
    (h : ∀ e w2, Rr e w2 → ∃ v, e = .returned v ∧ R P n ops l k (updo ρ o.dst v) w2) : R P n ops (o :: l) k ρ w := by
  unfold R wpList
  rw [if_pos (show Region.wanted o (yielded ops (St n ρ).tmps) = true from hw)]
  refine .inl ?_
  unfold Oper.wp
  rw [St_eval, hr, Oper.upon_enter]
  refine hc.mono fun e w2 he => ?_
  obtain ⟨v, rfl, h2⟩ := h e w2 he
  dsimp only
  rw [St_put]
  exact h2
theorem wn_t {j d : Nat} {b want : Bool} (hg : o.guard = some (j, want)) (hd : (ops[j]?).bind (·.dst) = some d) (hn : d < n) (hv : ρ d = .bool b) (hb : b = want) : wn n ops ρ o = true := by
  obtain ⟨oj, hoj, hdj⟩ := Option.bind_eq_some_iff.1 hd
  simp [wn, Region.wanted, hg, yielded, hoj, hdj, Fr, hn, hv, hb]
theorem wn_f {j d : Nat} {b want : Bool} (hg : o.guard = some (j, want)) (hd : (ops[j]?).bind (·.dst) = some d) (hn : d < n) (hv : ρ d = .bool b) (hb : b = !want) : wn n ops ρ o = false := by
  obtain ⟨oj, hoj, hdj⟩ := Option.bind_eq_some_iff.1 hd
  simp [wn, Region.wanted, hg, yielded, hoj, hdj, Fr, hn, hv, hb]
theorem wn_u {j d : Nat} {want : Bool} {v : Value} (hg : o.guard = some (j, want)) (hd : (ops[j]?).bind (·.dst) = some d) (hn : d < n) (hv : ρ d = v) (hu : v = undef) : wn n ops ρ o = false := by
  obtain ⟨oj, hoj, hdj⟩ := Option.bind_eq_some_iff.1 hd
  subst hu
  simp [wn, Region.wanted, hg, yielded, hoj, hdj, Fr, hn, hv, undef]
end
end Go.Proofs.Ytdhekpodgemneaa
