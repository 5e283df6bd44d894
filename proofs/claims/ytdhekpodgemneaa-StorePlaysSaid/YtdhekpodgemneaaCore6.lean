/- A region that draws its order: each operation is shown by itself, at the frame of the text's order; then every order does. No program in it. -/
import Derived.Test.YtdhekpodgemneaaCore5
import Derived.Still
import Derived.StillTail
set_option linter.unusedVariables false
set_option linter.unusedSimpArgs false
namespace Go.Proofs.Ytdhekpodgemneaa
open Go Go.RowKit

theorem Hp.perm {w0 w : World} {Γ Δ : List (World → Prop)} (hp : List.Perm Γ Δ) : ∀ pre : List (World → Prop), Hp w0 (pre ++ Γ) w → Hp w0 (pre ++ Δ) w := by
  induction hp with
  | nil => exact fun _ h => h
  | cons x _ ih =>
    intro pre h
    have := ih (pre ++ [x]) (by simpa using h)
    simpa using this
  | swap x y l =>
    intro pre h
    refine h.sel (fun i => if i = pre.length then pre.length + 1 else if i = pre.length + 1 then pre.length else i) (fun i j hi hj e => ?_) fun i A hi => ?_
    · repeat' split at e
      all_goals omega
    · by_cases h1 : i < pre.length
      · rw [if_neg (by omega), if_neg (by omega)]
        rw [List.getElem?_append_left h1] at hi ⊢
        exact hi
      · rw [List.getElem?_append_right (by omega)] at hi
        by_cases h2 : i = pre.length
        · subst h2
          rw [if_pos rfl, List.getElem?_append_right (by omega)]
          simp at hi ⊢; exact hi
        · by_cases h3 : i = pre.length + 1
          · subst h3
            rw [if_neg (by omega), if_pos rfl, List.getElem?_append_right (by omega)]
            simp at hi ⊢; exact hi
          · rw [if_neg h2, if_neg h3, List.getElem?_append_right (by omega)]
            obtain ⟨m, hm⟩ : ∃ m, i - pre.length = m + 2 := ⟨i - pre.length - 2, by omega⟩
            rw [hm] at hi ⊢
            simpa using hi
  | trans _ _ ih1 ih2 => exact fun pre h => ih2 pre (ih1 pre h)
theorem Hp.perm0 {w0 w : World} {Γ Δ : List (World → Prop)} (hp : List.Perm Γ Δ) (h : Hp w0 Γ w) : Hp w0 Δ w := Hp.perm hp [] h
theorem Hp.tl {w0 w : World} {Δ Γ : List (World → Prop)} (h : Hp w0 (Δ ++ Γ) w) : Hp w0 Γ w :=
  h.sel (fun i => i + Δ.length) (fun i j _ _ e => by omega) fun i A hi => by
    rw [List.getElem?_append_right (by omega), Nat.add_sub_cancel]; exact hi

/-- values of some operations alone -/
def sub (l : List Nat) (η : Nat → Value × Value) : Nat → Value × Value := fun k => bif l.elem k then η k else (undef, undef)
theorem sub_congr {l : List Nat} {η η' : Nat → Value × Value} (h : ∀ k ∈ l, η k = η' k) : sub l η = sub l η' := by
  funext k
  simp only [sub]
  cases hk : l.elem k with
  | true => exact h k (List.elem_iff.1 hk)
  | false => rfl
structure Slot where
  born : Option Nat
  dies : Option Nat
  at_ : (Nat → Value × Value) → World → Prop
structure Flow where
  ops : List Oper
  an : List (List Nat)
  wr : List (Nat × Nat)
def Flow.anc (F : Flow) (i : Nat) : List Nat := F.an.getD i []
def Flow.chk (F : Flow) : Bool :=
  (F.ops.zipIdx.all fun (o, i) =>
    (o.after.toList.all fun e => !Region.binds .any e || decide (e.on < i)) &&
    ((F.anc i).all fun j => o.after.toList.any fun e => Region.binds .any e && (e.on == j || (F.anc e.on).elem j)) &&
    (match o.dst with | some d => F.wr.lookup d == some i | none => true) &&
    ((o.looksAt F.ops.toArray).all fun t => match F.wr.lookup t with | some j => (if j < i then (F.anc i).elem j else if j = i then true else (F.anc j).elem i) | none => true) &&
    (match o.op with | .select .. => false | _ => true)) &&
  (F.wr.all fun (t, j) => match F.ops[j]? with | some o => o.dst == some t | none => false)
def Flow.slotOk (F : Flow) (s : Option Nat × Option Nat) : Bool :=
  (match s.1 with | some b => decide (b < F.ops.length) | none => true) &&
  (match s.2 with | some d => decide (d < F.ops.length) && (match s.1 with | some b => (F.anc d).elem b | none => true) | none => true)
/-- the frame where just some operations are done -/
def Flow.fr (F : Flow) (ρ : Nat → Value) (done : Nat → Bool) (η : Nat → Value × Value) : Nat → Value := fun t => match F.wr.lookup t with | some j => bif done j then (η j).1 else ρ t | none => ρ t
def lt' (i j : Nat) : Bool := Nat.blt j i
theorem lt'_t {i j : Nat} (h : j < i) : lt' i j = true := by simp only [lt', Nat.blt_eq]; exact h
theorem lt'_f {i j : Nat} (h : i ≤ j) : lt' i j = false := by
  cases hb : lt' i j with
  | false => rfl
  | true => simp only [lt', Nat.blt_eq] at hb; omega
def Flow.env (F : Flow) (s : Slot) (η : Nat → Value × Value) : Nat → Value × Value := match s.born with | some b => sub (b :: F.anc b) η | none => sub [] η
def Flow.alive (done : Nat → Bool) (s : Slot) : Bool := (match s.born with | some b => done b | none => true) && (match s.dies with | some d => !done d | none => true)
def Flow.at_ (F : Flow) (p : Slot → Bool) (η : Nat → Value × Value) (ss : List Slot) : List (World → Prop) := (ss.filter p).map fun s => s.at_ (F.env s η)
def dead : Kt := .fin default fun _ _ => False
theorem dead_den {P : Program} {e : Exit} {a : Act} {w : World} (h : dead.den P e a w) : False := by
  cases e <;> simp [dead, Kt.den, bodyPost] at h

section
variable {P : Program} {n : Nat} {ρ : Nat → Value} {w w0 : World} {Γ : List (World → Prop)}

/-- one operation, whatever the rest of the frame holds -/
theorem op_move {ops : Array Oper} {o : Oper} {ρ ρ' : Nat → Value} {J : Value → World → Prop} (hs : ∀ cs b, o.op ≠ .select cs b) (h : ∀ t ∈ o.looksAt ops, ρ t = ρ' t) {Q : Exit → Act → World → Prop} {i : Nat} (hi : ops[i]? = some o) {K : Act → World → Prop}
    (hJ : ∀ v w, J v w → K (St n (updo ρ' o.dst v)) w)
    (hr : R P n ops [o] (.lp (fun a w' => ∃ v, a = St n (updo ρ o.dst v) ∧ J v w') dead) ρ w) : wpOp P ops Q i K (St n ρ') w := by
  have hev : execOp (ev n ρ) o = execOp (ev n ρ') o := execOp_congr o hs fun x hx => by
    cases x with
    | tmp t =>
      have ht : t ∈ o.looksAt ops := List.mem_append_left _ (List.mem_filterMap.2 ⟨.tmp t, by simpa using hx, rfl⟩)
      simp only [ev, h t ht]
    | _ => rfl
  have hwn : wn n ops ρ o = wn n ops ρ' o := by
    unfold wn Region.wanted
    cases hg : o.guard with
    | none => rfl
    | some gw =>
      obtain ⟨g, want⟩ := gw
      have hy : yielded ops (Fr n ρ) g = yielded ops (Fr n ρ') g := by
        unfold yielded
        cases ht : (ops[g]?).bind (·.dst) with
        | none => rfl
        | some t =>
          have htm : t ∈ o.looksAt ops := List.mem_append_right _ (by simp [hg, ht])
          have : (Fr n ρ)[t]? = (Fr n ρ')[t]? := by
            rcases Nat.lt_or_ge t n with hn | hn
            · simp [Fr, hn, h t htm]
            · simp [Fr, Nat.not_lt.2 hn]
          rw [Option.bind_some, Option.bind_some, this]
      show (yielded ops (Fr n ρ) g == some want) = (yielded ops (Fr n ρ') g == some want)
      rw [hy]
  unfold wpOp
  simp only [hi]
  unfold R wpList at hr
  rw [show Region.wanted o (yielded ops (St n ρ').tmps) = wn n ops ρ' o from rfl, ← hwn]
  have e1 : Region.wanted o (yielded ops (St n ρ).tmps) = wn n ops ρ o := rfl
  rw [e1] at hr
  cases hw : wn n ops ρ o with
  | true =>
    rw [if_pos rfl]
    rw [hw, if_pos rfl] at hr
    rcases hr with hr | ⟨_, a, w', hd⟩
    · refine .inl ?_
      unfold Oper.wp at hr ⊢
      rw [St_eval] at hr ⊢
      rw [← hev]
      generalize (execOp (ev n ρ) o).run P w = r at hr ⊢
      have key : ∀ v w', wpList P ops (Kt.den P (.lp (fun a w' => ∃ v, a = St n (updo ρ o.dst v) ∧ J v w') dead)) [] ((St n ρ).put o.dst v) w' → K ((St n ρ').put o.dst v) w' := by
        intro v w' hh
        obtain ⟨v2, he, hj⟩ := hh
        rw [St_put] at he ⊢
        have hv : updo ρ o.dst v = updo ρ o.dst v ∧ K (St n (updo ρ' o.dst v2)) w' := ⟨rfl, hJ v2 w' hj⟩
        cases hd : o.dst with
        | none => rw [hd] at hv; exact hv.2
        | some d =>
          rw [hd] at he hv
          rcases Nat.lt_or_ge d n with hn | hn
          · have := congrArg (fun a => a.tmps.getD d undef) he
            simp only [updo] at this
            rw [St_getD d hn, St_getD d hn] at this
            simp only [upd, if_pos] at this
            subst this
            exact hv.2
          · have hsame : ∀ u : Value, St n (updo ρ' (some d) u) = St n ρ' := by
              intro u
              simp only [St, updo]
              congr 1
              apply Array.ext
              · simp [Fr]
              · intro i h1 h2
                have : i < n := by simpa [Fr] using h1
                have hne : ¬ i = d := by omega
                simp [Fr, upd, hne]
            rw [hsame] at hv ⊢
            exact hv.2
      cases r with
      | ok nx w' =>
        cases nx <;> simp only [Oper.upon] at hr ⊢ <;> try exact hr.elim
        case value v => exact key v w' hr
        case skip => exact key undef w' hr
        case defer d =>
          obtain ⟨v2, he, _⟩ := hr
          have hd : ∀ (a : Act) dd v, (a.put dd v).defers = a.defers := by intro a dd v; cases dd <;> rfl
          have := congrArg Act.defers he
          rw [hd] at this
          cases this
        case enter f args =>
          refine hr.mono fun e w'' he => ?_
          cases e with
          | returned v => exact key v w'' he
          | panicked ch => have he' : dead.den P (.panic ch) (St n ρ) w'' := he; exact (dead_den he').elim
          | outgrown => obtain ⟨a, w3, hh⟩ := he; have he' : dead.den P .outgrown a w3 := hh; exact (dead_den he').elim
        case row row args => exact hr.mono fun v w'' he => key v w'' he
      | halt x w' =>
        cases x <;> simp only [Oper.upon] at hr ⊢ <;> try exact hr.elim
        rename_i pv
        have he' : dead.den P (.panic [{ v := pv, recovered := false }]) (St n ρ) w' := hr
        exact (dead_den he').elim
    · have he' : dead.den P .outgrown a w' := hd
      exact (dead_den he').elim
  | false =>
    rw [if_neg (by simp)]
    rw [hw, if_neg (by simp)] at hr
    obtain ⟨v2, he, hj⟩ := hr
    have hk := hJ v2 w hj
    rw [St_put] at he ⊢
    cases hd : o.dst with
    | none => rw [hd] at hk; exact hk
    | some d =>
      rw [hd] at he hk
      rcases Nat.lt_or_ge d n with hn | hn
      · have := congrArg (fun a => a.tmps.getD d undef) he
        simp only [updo] at this
        rw [St_getD d hn, St_getD d hn] at this
        simp only [upd, if_pos] at this
        subst this
        exact hk
      · have hsame : ∀ u : Value, St n (updo ρ' (some d) u) = St n ρ' := by
          intro u
          simp only [St, updo]
          congr 1
          apply Array.ext
          · simp [Fr]
          · intro i h1 h2
            have : i < n := by simpa [Fr] using h1
            have hne : ¬ i = d := by omega
            simp [Fr, upd, hne]
        rw [hsame] at hk ⊢
        exact hk

/-- what operation i may read: it is there whenever i is run -/
def Flow.reads (F : Flow) (i : Nat) (s : Slot) : Bool := (match s.born with | some b => (F.anc i).elem b | none => true) && (match s.dies with | some d => !(d == i) && (F.anc d).elem i | none => true)
/-- of two that follow each other operation i finds the one or the other -/
def Flow.alt (F : Flow) (i : Nat) (s s' : Slot) : Bool := (match s.born with | some b => (F.anc i).elem b | none => true) && (match s.dies, s'.born with | some d, some d' => d == d' && !(d == i) | _, _ => false) && (match s'.dies with | some d => !(d == i) && (F.anc d).elem i | none => true)
/-- what is shown of operation i -/
def Flow.Sp (F : Flow) (P : Program) (n : Nat) (ρ : Nat → Value) (w0 : World) (Γ : List (World → Prop)) (V : List ((Nat → Value × Value) → Value × Value → Prop)) (ss : List Slot) (i : Nat) (o : Oper) : Prop :=
  ∀ η w Δ, (∀ j ∈ F.anc i, V.getD j (fun _ _ => True) (sub (F.anc j) η) (η j)) → (∀ s ∈ ss, F.reads i s = true → s.at_ (F.env s η) ∈ Δ) → (∀ s ∈ ss, ∀ s' ∈ ss, F.alt i s s' = true → s.at_ (F.env s η) ∈ Δ ∨ s'.at_ (F.env s' η) ∈ Δ) → Hp w0 (F.at_ (fun s => s.dies == some i) η ss ++ (Δ ++ Γ)) w →
    R P n F.ops.toArray [o] (.lp (fun a w' => ∃ v, a = St n (updo (F.fr ρ (lt' i) η) o.dst v) ∧ ∃ g, V.getD i (fun _ _ => True) (sub (F.anc i) η) (v, g) ∧ Hp w0 (F.at_ (fun s => s.born == some i) (upd η i (v, g)) ss ++ (Δ ++ Γ)) w') dead) (F.fr ρ (lt' i) η) w

theorem Flow.run (F : Flow) (V : List ((Nat → Value × Value) → Value × Value → Prop)) (ss : List Slot) {id : Nat} {k : Kt} (hm : P.follows .mixedOrders = true) (hc : F.chk = true) (hs : (ss.map fun s => (s.born, s.dies)).all F.slotOk = true)
    (hsp : ∀ i o, F.ops[i]? = some o → F.Sp P n ρ w0 Γ V ss i o)
    (H : Hp w0 (F.at_ (fun s => s.born == none) (fun _ => (undef, undef)) ss ++ Γ) w)
    (hk : ∀ η w', (∀ i, i < F.ops.length → V.getD i (fun _ _ => True) (sub (F.anc i) η) (η i)) → Hp w0 (F.at_ (fun s => s.dies == none) η ss ++ Γ) w' → N P n k (F.fr ρ (fun _ => true) η) w') : W P n (.region id F.ops.toArray true) k ρ w := by
  simp only [Flow.chk, Bool.and_eq_true, List.all_eq_true] at hc
  obtain ⟨hc1, hc2⟩ := hc
  have hop : ∀ i o, F.ops[i]? = some o → (o, i) ∈ F.ops.zipIdx := fun i o h => by
    rw [List.mem_zipIdx_iff_getElem?]; exact h
  have hedge : ∀ i o, F.ops[i]? = some o → ∀ e ∈ o.after, Region.binds .any e = true → e.on < i := fun i o h e he hb => by
    have := (hc1 (o, i) (hop i o h)).1.1.1.1 e (by simpa using he)
    simpa [hb] using this
  have hanc : ∀ i o, F.ops[i]? = some o → ∀ j ∈ F.anc i, ∃ e ∈ o.after, Region.binds .any e = true ∧ (e.on = j ∨ j ∈ F.anc e.on) := fun i o h j hj => by
    have := (hc1 (o, i) (hop i o h)).1.1.1.2 j hj
    obtain ⟨e, he, h2⟩ := List.any_eq_true.1 this
    simp only [Bool.and_eq_true, Bool.or_eq_true, beq_iff_eq, List.elem_eq_mem, decide_eq_true_eq] at h2
    exact ⟨e, by simpa using he, h2⟩
  have hwr : ∀ i o d, F.ops[i]? = some o → o.dst = some d → F.wr.lookup d = some i := fun i o d h hd => by
    have := (hc1 (o, i) (hop i o h)).1.1.2
    simpa [hd] using this
  have hrd : ∀ (i : Nat) (o : Oper), F.ops[i]? = some o → ∀ t ∈ o.looksAt F.ops.toArray, ∀ j, F.wr.lookup t = some j → (j < i ∧ j ∈ F.anc i) ∨ j = i ∨ (i < j ∧ i ∈ F.anc j) := fun i o h t ht j hj => by
    have := (hc1 (o, i) (hop i o h)).1.2 t ht
    simp only [hj] at this
    by_cases h1 : j < i
    · rw [if_pos h1] at this; exact .inl ⟨h1, by simpa using this⟩
    · rw [if_neg h1] at this
      by_cases h2 : j = i
      · exact .inr (.inl h2)
      · rw [if_neg h2] at this; exact .inr (.inr ⟨by omega, by simpa using this⟩)
  have hsel : ∀ (i : Nat) (o : Oper), F.ops[i]? = some o → ∀ cs b, o.op ≠ .select cs b := fun i o h cs b he => by
    have := (hc1 (o, i) (hop i o h)).2
    rw [he] at this; cases this
  have hwr2 : ∀ t j, F.wr.lookup t = some j → ∃ o, F.ops[j]? = some o ∧ o.dst = some t := fun t j h => by
    have hmem : (t, j) ∈ F.wr := by
      have hl : ∀ (l : List (Nat × Nat)), l.lookup t = some j → (t, j) ∈ l := by
        intro l
        induction l with
        | nil => intro h; simp at h
        | cons a l ih =>
          intro h
          rw [List.lookup_cons] at h
          by_cases ha : t == a.1
          · simp only [ha] at h
            have : a = (t, j) := by
              obtain ⟨a1, a2⟩ := a
              simp at ha h; simp [ha, h]
            rw [this]; exact List.mem_cons_self
          · have ha' : (t == a.1) = false := by simpa using ha
            simp only [ha'] at h
            exact List.mem_cons_of_mem _ (ih h)
      exact hl _ h
    have := hc2 (t, j) hmem
    simp only at this
    cases ho : F.ops[j]? with
    | none => rw [ho] at this; cases this
    | some o => rw [ho] at this; exact ⟨o, rfl, by simpa using this⟩
  have hborn : ∀ s ∈ ss, ∀ b, s.born = some b → b < F.ops.length := fun s hs' b hb => by
    have := List.all_eq_true.1 hs (s.born, s.dies) (List.mem_map.2 ⟨s, hs', rfl⟩)
    simp only [Flow.slotOk, hb, Bool.and_eq_true, decide_eq_true_eq] at this
    exact this.1
  have hdies : ∀ s ∈ ss, ∀ d, s.dies = some d → d < F.ops.length ∧ ∀ b, s.born = some b → b ∈ F.anc d := fun s hs' d hd => by
    have := List.all_eq_true.1 hs (s.born, s.dies) (List.mem_map.2 ⟨s, hs', rfl⟩)
    simp only [Flow.slotOk, hd, Bool.and_eq_true, decide_eq_true_eq] at this
    refine ⟨this.2.1, fun b hb => ?_⟩
    have h2 := this.2.2
    rw [hb] at h2
    simpa using h2
  refine wp_region_any hm ?_
  have hready : ∀ (listed : Array Bool) i, i ∈ Region.ready .any F.ops.toArray listed → listed.getD i true = false ∧ ∃ o, F.ops[i]? = some o ∧ ∀ e ∈ o.after, Region.binds .any e = true → listed.getD e.on false = true := fun listed i h => by
    obtain ⟨h1, o, ho, h2⟩ := mem_ready.1 h
    exact ⟨h1, o, by simpa using ho, h2⟩
  -- the state in between
  have main : ∀ (fuel : Nat) (listed : Array Bool) (a : Act) (w : World), listed.size = F.ops.length →
      (∀ i o, F.ops[i]? = some o → listed.getD i false = true → ∀ e ∈ o.after, Region.binds .any e = true → listed.getD e.on false = true) →
      (∃ η, a = St n (F.fr ρ (fun j => listed.getD j false) η) ∧ (∀ i, i < F.ops.length → listed.getD i false = true → V.getD i (fun _ _ => True) (sub (F.anc i) η) (η i)) ∧ Hp w0 (F.at_ (Flow.alive fun j => listed.getD j false) η ss ++ Γ) w) →
      (listed.toList.count false) ≤ fuel → wpAny P .any F.ops.toArray (k.den P) fuel listed a w := by
    intro fuel
    -- ancestors of what is listed are listed
    have hclo : ∀ (listed : Array Bool), (∀ i o, F.ops[i]? = some o → listed.getD i false = true → ∀ e ∈ o.after, Region.binds .any e = true → listed.getD e.on false = true) → listed.size = F.ops.length →
        ∀ i, listed.getD i false = true → ∀ j ∈ F.anc i, listed.getD j false = true := by
      intro listed hcl hsz i
      induction i using Nat.strongRecOn with
      | _ i ih =>
        intro hi j hj
        have hlt : i < F.ops.length := by
          rw [← hsz]
          rcases Nat.lt_or_ge i listed.size with h | h
          · exact h
          · simp [Array.getElem?_eq_none h] at hi
        obtain ⟨e, he, hb, h2⟩ := hanc i _ (List.getElem?_eq_getElem hlt) j hj
        have hl := hcl i _ (List.getElem?_eq_getElem hlt) hi e he hb
        rcases h2 with h2 | h2
        · rw [← h2]; exact hl
        · exact ih e.on (hedge i _ (List.getElem?_eq_getElem hlt) e he hb) hl j h2
    -- if nothing is ready all is listed
    have hall : ∀ (listed : Array Bool), listed.size = F.ops.length → Region.ready .any F.ops.toArray listed = [] → ∀ i, i < F.ops.length → listed.getD i false = true := by
      intro listed hsz hr i
      induction i using Nat.strongRecOn with
      | _ i ih =>
        intro hi
        cases hl : listed.getD i false with
        | true => rfl
        | false =>
          have : i ∈ Region.ready .any F.ops.toArray listed := mem_ready.2 ⟨by
            have : i < listed.size := by omega
            simp [this] at hl ⊢; exact hl, F.ops[i], by simp, fun e he hb => ih e.on (hedge i _ (List.getElem?_eq_getElem hi) e he hb) (by have := hedge i _ (List.getElem?_eq_getElem hi) e he hb; omega)⟩
          rw [hr] at this; cases this
    have hfin : ∀ (listed : Array Bool) (a : Act) (w : World), listed.size = F.ops.length → (∀ i, i < F.ops.length → listed.getD i false = true) →
        (∃ η, a = St n (F.fr ρ (fun j => listed.getD j false) η) ∧ (∀ i, i < F.ops.length → listed.getD i false = true → V.getD i (fun _ _ => True) (sub (F.anc i) η) (η i)) ∧ Hp w0 (F.at_ (Flow.alive fun j => listed.getD j false) η ss ++ Γ) w) → k.den P .normal a w := by
      rintro listed a w hsz hl ⟨η, rfl, hv, hh⟩
      have e1 : F.fr ρ (fun j => listed.getD j false) η = F.fr ρ (fun _ => true) η := by
        funext t
        simp only [Flow.fr]
        cases ht : F.wr.lookup t with
        | none => rfl
        | some j =>
          obtain ⟨o, ho, _⟩ := hwr2 t j ht
          have hj := hl j (List.getElem?_eq_some_iff.1 ho).1
          simp only [hj]
      rw [e1]
      refine hk η w (fun i hi => hv i hi (hl i hi)) ?_
      have e2 : ss.filter (Flow.alive fun j => listed.getD j false) = ss.filter (fun s => s.dies == none) := by
        apply List.filter_congr
        intro s hs'
        simp only [Flow.alive]
        cases hb : s.born with
        | none =>
          cases hd : s.dies with
          | none => rfl
          | some d => have := hl d (hdies s hs' d hd).1; simp [this]
        | some b =>
          have h1 := hl b (hborn s hs' b hb)
          cases hd : s.dies with
          | none => simp [h1]
          | some d => have := hl d (hdies s hs' d hd).1; simp [this, h1]
      simp only [Flow.at_] at hh ⊢
      rw [← e2]; exact hh
    induction fuel with
    | zero =>
      intro listed a w hsz hcl hinv hcount
      have hl : ∀ i, i < F.ops.length → listed.getD i false = true := by
        intro i hi
        have hi' : i < listed.size := by omega
        cases hl : listed.getD i false with
        | true => rfl
        | false =>
          have : false ∈ listed.toList := by
            simp [hi'] at hl
            rw [← hl]; simp
          have := List.count_pos_iff.2 this
          omega
      refine ⟨?_, hfin listed a w hsz hl hinv⟩
      apply List.eq_nil_iff_forall_not_mem.2
      intro i hi
      obtain ⟨h1, o, ho, _⟩ := hready listed i hi
      have hlt := (List.getElem?_eq_some_iff.1 ho).1
      have := hl i hlt
      have hi' : i < listed.size := by omega
      simp [hi'] at h1 this
      rw [h1] at this; cases this
    | succ fuel ih =>
      intro listed a w hsz hcl hinv hcount
      refine ⟨fun hr => hfin listed a w hsz (hall listed hsz hr) hinv, fun i hi => ?_⟩
      obtain ⟨h1, o, ho, hpre⟩ := hready listed i hi
      have hlt := (List.getElem?_eq_some_iff.1 ho).1
      have hi' : i < listed.size := by omega
      have hif : listed.getD i false = false := by simp [hi'] at h1 ⊢; exact h1
      obtain ⟨η, rfl, hv, hh⟩ := hinv
      have hanl : ∀ j ∈ F.anc i, listed.getD j false = true := by
        intro j hj
        obtain ⟨e, he, hb, h2⟩ := hanc i o ho j hj
        rcases h2 with h2 | h2
        · rw [← h2]; exact hpre e he hb
        · exact hclo listed hcl hsz e.on (hpre e he hb) j h2
      have hset : ∀ j, (listed.setIfInBounds i true).getD j false = if j = i then true else listed.getD j false := by
        intro j
        by_cases hj : j = i
        · subst hj; simp [hi']
        · have hj' : i ≠ j := fun e => hj e.symm
          simp [Array.getElem?_setIfInBounds_ne hj', hj]
      -- what is alive: what dies here and the rest
      have hperm := List.filter_append_perm (fun s : Slot => s.dies == some i) (ss.filter (Flow.alive fun j => listed.getD j false))
      have hdie : (ss.filter (Flow.alive fun j => listed.getD j false)).filter (fun s => s.dies == some i) = ss.filter (fun s => s.dies == some i) := by
        rw [List.filter_filter]
        apply List.filter_congr
        intro s hs'
        cases hd : (s.dies == some i) with
        | false => simp
        | true =>
          have hd' : s.dies = some i := by simpa using hd
          simp only [Bool.true_and, Flow.alive, hd', hif]
          cases hb : s.born with
          | none => rfl
          | some b => have := hanl b ((hdies s hs' i hd').2 b hb); simp [this]
      let rest := (ss.filter (Flow.alive fun j => listed.getD j false)).filter (fun s => !(s.dies == some i))
      have hh2 : Hp w0 (F.at_ (fun s => s.dies == some i) η ss ++ (rest.map (fun s => s.at_ (F.env s η)) ++ Γ)) w := by
        refine Hp.perm0 ?_ hh
        rw [← List.append_assoc]
        refine List.Perm.append_right Γ ?_
        simp only [Flow.at_]
        rw [← hdie, ← List.map_append]
        exact (hperm.map _).symm
      have hspec := hsp i o ho η w (rest.map fun s => s.at_ (F.env s η)) (fun j hj => hv j (by
        have hl := hanl j hj
        rcases Nat.lt_or_ge j listed.size with h | h
        · omega
        · simp [Array.getElem?_eq_none h] at hl) (hanl j hj)) (fun s hs' hr => by
        refine List.mem_map.2 ⟨s, List.mem_filter.2 ⟨List.mem_filter.2 ⟨hs', ?_⟩, ?_⟩, rfl⟩
        · simp only [Flow.reads, Bool.and_eq_true] at hr
          obtain ⟨hr1, hr2⟩ := hr
          simp only [Flow.alive, Bool.and_eq_true]
          constructor
          · cases hb : s.born with
            | none => rfl
            | some b => rw [hb] at hr1; exact hanl b (by simpa using hr1)
          · cases hd : s.dies with
            | none => rfl
            | some d =>
              rw [hd] at hr2
              simp only [Bool.and_eq_true] at hr2
              cases hl : listed.getD d false with
              | false => show (!listed.getD d false) = true; rw [hl]; rfl
              | true => rw [hclo listed hcl hsz d hl i (by simpa using hr2.2)] at hif; cases hif
        · cases hd : s.dies with
          | none => rfl
          | some d =>
            simp only [Flow.reads, Bool.and_eq_true, hd] at hr
            have h3 : (d == i) = false := by simpa using hr.2.1
            simpa using h3) (fun s hs1 s' hs2 hr => by
        simp only [Flow.alt, Bool.and_eq_true] at hr
        obtain ⟨⟨hr1, hr2⟩, hr3⟩ := hr
        cases hd : s.dies with
        | none => rw [hd] at hr2; cases s'.born <;> cases hr2
        | some d =>
          cases hb' : s'.born with
          | none => rw [hd, hb'] at hr2; cases hr2
          | some d' =>
            rw [hd, hb'] at hr2
            simp only [Bool.and_eq_true, beq_iff_eq, Bool.not_eq_true', beq_eq_false_iff_ne, ne_eq] at hr2
            obtain ⟨rfl, hdi⟩ := hr2
            cases hl : listed.getD d false with
            | false =>
              refine .inl (List.mem_map.2 ⟨s, List.mem_filter.2 ⟨List.mem_filter.2 ⟨hs1, ?_⟩, ?_⟩, rfl⟩)
              · simp only [Flow.alive, Bool.and_eq_true]
                constructor
                · cases hb : s.born with
                  | none => rfl
                  | some b => rw [hb] at hr1; exact hanl b (by simpa using hr1)
                · rw [hd]; show (!listed.getD d false) = true; rw [hl]; rfl
              · rw [hd]; simpa using hdi
            | true =>
              refine .inr (List.mem_map.2 ⟨s', List.mem_filter.2 ⟨List.mem_filter.2 ⟨hs2, ?_⟩, ?_⟩, rfl⟩)
              · simp only [Flow.alive, Bool.and_eq_true]
                constructor
                · rw [hb']; exact hl
                · cases hd2 : s'.dies with
                  | none => rfl
                  | some d2 =>
                    rw [hd2] at hr3
                    simp only [Bool.and_eq_true] at hr3
                    cases hl2 : listed.getD d2 false with
                    | false => show (!listed.getD d2 false) = true; rw [hl2]; rfl
                    | true => rw [hclo listed hcl hsz d2 hl2 i (by simpa using hr3.2)] at hif; cases hif
              · cases hd2 : s'.dies with
                | none => rfl
                | some d2 =>
                  rw [hd2] at hr3
                  simp only [Bool.and_eq_true] at hr3
                  have h3 : (d2 == i) = false := by simpa using hr3.1
                  simpa using h3) hh2
      refine op_move (hsel i o ho) (fun t ht => ?_) (by simpa using ho) (fun v w' hvw => ?_) hspec
      · -- what it looks at
        simp only [Flow.fr]
        cases htw : F.wr.lookup t with
        | none => rfl
        | some j =>
          rcases hrd i o ho t ht j htw with ⟨h2, h3⟩ | h2 | ⟨h2, h3⟩
          · have hb : lt' i j = true := lt'_t h2
            simp only [hb, hanl j h3]
          · subst h2
            have hb : lt' j j = false := lt'_f (Nat.le_refl _)
            simp only [hb, hif]
          · have hb : lt' i j = false := lt'_f (Nat.le_of_lt h2)
            have hjl : listed.getD j false = false := by
              cases hl : listed.getD j false with
              | false => rfl
              | true => rw [hclo listed hcl hsz j hl i h3] at hif; cases hif
            simp only [hb, hjl]
      · obtain ⟨gh, hvv, hh3⟩ := hvw
        have hup : ∀ j, j ≠ i → upd η i (v, gh) j = η j := fun j hj => by simp [upd, hj]
        have hupi : upd η i (v, gh) i = (v, gh) := by simp [upd]
        have hni : ∀ j, listed.getD j false = true → i ∉ F.anc j := fun j hj hm => by
          rw [hclo listed hcl hsz j hj i hm] at hif; cases hif
        have hai : i ∉ F.anc i := fun hm => by have := hanl i hm; rw [hif] at this; cases this
        refine ih _ _ _ (by simpa using hsz) ?_ ⟨upd η i (v, gh), ?_, ?_, ?_⟩ ?_
        · intro j oj hoj hj e he hb
          rw [hset] at hj ⊢
          by_cases hji : j = i
          · subst hji
            have : oj = o := Option.some.inj (hoj.symm.trans ho)
            subst this
            split
            · rfl
            · exact hpre e he hb
          · rw [if_neg hji] at hj
            split
            · rfl
            · exact hcl j oj hoj hj e he hb
        · congr 1
          funext t
          simp only [Flow.fr]
          cases hd : o.dst with
          | none =>
            simp only [updo]
            have e0 : F.fr ρ (fun j => listed.getD j false) η t = (match F.wr.lookup t with | some j => bif listed.getD j false then (η j).1 else ρ t | none => ρ t) := rfl
            rw [e0]
            cases htw : F.wr.lookup t with
            | none => rfl
            | some j =>
              have hji : j ≠ i := fun e => by
                subst e
                obtain ⟨o', ho', hd'⟩ := hwr2 t j htw
                have : o' = o := Option.some.inj (ho'.symm.trans ho)
                rw [this, hd] at hd'; cases hd'
              simp only [hset, if_neg hji, hup j hji]
          | some d =>
            simp only [updo]
            by_cases htd : t = d
            · subst htd
              rw [hwr i o t ho hd]
              simp [upd, hset]
            · have hne : upd (β := Value) (fun t => match F.wr.lookup t with | some j => bif listed.getD j false then (η j).1 else ρ t | none => ρ t) d v t = (match F.wr.lookup t with | some j => bif listed.getD j false then (η j).1 else ρ t | none => ρ t) := by simp only [upd, if_neg htd]
              refine hne.trans ?_
              cases htw : F.wr.lookup t with
              | none => rfl
              | some j =>
                have hji : j ≠ i := fun e => by
                  subst e
                  obtain ⟨o', ho', hd'⟩ := hwr2 t j htw
                  have : o' = o := Option.some.inj (ho'.symm.trans ho)
                  rw [this, hd] at hd'; cases hd'; exact htd rfl
                simp only [hset, if_neg hji, hup j hji]
        · intro j hj hjl
          rw [hset] at hjl
          by_cases hji : j = i
          · subst hji
            rw [hupi]
            rw [sub_congr (η' := η) fun k hk => hup k (fun e => absurd hk (by rw [e]; exact hai))]
            exact hvv
          · rw [if_neg hji] at hjl
            rw [hup j hji, sub_congr (η' := η) fun k hk => hup k (fun e => hni j hjl (e ▸ hk))]
            exact hv j hj hjl
        · refine Hp.perm0 ?_ hh3
          rw [← List.append_assoc]
          refine List.Perm.append_right Γ ?_
          have hal : ∀ s ∈ ss, Flow.alive (fun j => (listed.setIfInBounds i true).getD j false) s = ((s.born == some i) || (Flow.alive (fun j => listed.getD j false) s && !(s.dies == some i))) := by
            intro s hs'
            simp only [Flow.alive]
            cases hb : s.born with
            | none =>
              cases hd : s.dies with
              | none => rfl
              | some d =>
                simp only [hset]
                by_cases hdi : d = i
                · subst hdi; simp
                · simp [hdi]
            | some b =>
              simp only [hset]
              by_cases hbi : b = i
              · subst hbi
                cases hd : s.dies with
                | none => simp
                | some d =>
                  have hda := (hdies s hs' d hd).2 b hb
                  have hdb : d ≠ b := fun e => by subst e; exact hai hda
                  have hdl : listed.getD d false = false := by
                    cases hl : listed.getD d false with
                    | false => rfl
                    | true => exact absurd hda (hni d hl)
                  simp [hdb, hdl]
              · have hbi' : (some b == some i) = false := by simpa using hbi
                cases hd : s.dies with
                | none => simp [hbi]
                | some d =>
                  by_cases hdi : d = i
                  · subst hdi; simp [hbi]
                  · have hb2 : (b == i) = false := by simpa using hbi
                    have hd2 : (d == i) = false := by simpa using hdi
                    simp [hdi, hbi, hb2, hd2]
          have hp2 := List.filter_append_perm (fun s : Slot => s.born == some i) (ss.filter (Flow.alive fun j => (listed.setIfInBounds i true).getD j false))
          have hb1 : (ss.filter (Flow.alive fun j => (listed.setIfInBounds i true).getD j false)).filter (fun s => s.born == some i) = ss.filter (fun s => s.born == some i) := by
            rw [List.filter_filter]
            apply List.filter_congr
            intro s hs'
            rw [hal s hs']
            cases (s.born == some i) <;> simp
          have hb2 : (ss.filter (Flow.alive fun j => (listed.setIfInBounds i true).getD j false)).filter (fun s => !(s.born == some i)) = rest := by
            simp only [rest]
            rw [List.filter_filter, List.filter_filter]
            apply List.filter_congr
            intro s hs'
            rw [hal s hs']
            have hx : (s.born == some i) = true → Flow.alive (fun j => listed.getD j false) s = false := by
              intro hb
              have hb' : s.born = some i := by simpa using hb
              simp [Flow.alive, hb', hif]
            cases hb : (s.born == some i) with
            | true => rw [hx hb]; simp
            | false => simp [Bool.and_comm]
          have henv : rest.map (fun s => s.at_ (F.env s η)) = rest.map (fun s => s.at_ (F.env s (upd η i (v, gh)))) := by
            apply List.map_congr_left
            intro s hs'
            have hs1 := List.mem_filter.1 (List.mem_filter.1 hs').1
            congr 1
            simp only [Flow.env]
            cases hb : s.born with
            | none => exact sub_congr fun k hk => by simp at hk
            | some b =>
              have hbl : listed.getD b false = true := by
                have := hs1.2
                simp only [Flow.alive, hb, Bool.and_eq_true] at this
                exact this.1
              refine sub_congr fun k hk => ?_
              have hki : k ≠ i := fun e => by
                subst e
                rcases List.mem_cons.1 hk with h | h
                · subst h; rw [hif] at hbl; cases hbl
                · exact hni b hbl h
              exact (hup k hki).symm
          rw [henv]
          simp only [Flow.at_]
          rw [← hb1, ← hb2, ← List.map_append]
          exact hp2.map _
        · -- one less
          have : (listed.setIfInBounds i true).toList = listed.toList.set i true := by simp
          rw [this]
          have hmem : listed.toList[i]? = some false := by
            simp [hi'] at hif
            simp [hi', hif]
          have hcnt : ∀ (l : List Bool) (i : Nat), l[i]? = some false → (l.set i true).count false + 1 = l.count false := by
            intro l
            induction l with
            | nil => intro i h; simp at h
            | cons a l ih =>
              intro i h
              cases i with
              | zero => simp at h; subst h; simp
              | succ i =>
                have := ih i (by simpa using h)
                simp only [List.set_cons_succ, List.count_cons]
                omega
          have := hcnt _ i hmem
          omega
  refine main _ _ _ _ (by simp) ?_ ⟨fun _ => (undef, undef), ?_, ?_, ?_⟩ ?_
  · intro i o ho hi
    have : (Array.replicate F.ops.toArray.size false).getD i false = false := getD_replicate_false _ _
    rw [this] at hi; cases hi
  · congr 1
    funext t
    simp only [Flow.fr]
    cases F.wr.lookup t with
    | none => rfl
    | some j => simp only [getD_replicate_false, cond_false]
  · intro i hi hl
    rw [getD_replicate_false] at hl; cases hl
  · have e : ss.filter (Flow.alive fun j => (Array.replicate F.ops.toArray.size false).getD j false) = ss.filter (fun s => s.born == none) := by
      apply List.filter_congr
      intro s hs'
      simp only [Flow.alive, getD_replicate_false]
      cases hb : s.born with
      | none => cases s.dies <;> rfl
      | some b => rfl
    simp only [Flow.at_] at H ⊢
    rw [e]
    exact H.drawn _
  · simp
/-- the operations one by one -/
def Flow.All (F : Flow) (P : Program) (n : Nat) (ρ : Nat → Value) (w0 : World) (Γ : List (World → Prop)) (V : List ((Nat → Value × Value) → Value × Value → Prop)) (ss : List Slot) : List Oper → Nat → Prop
  | [], _ => True
  | o :: l, i => F.Sp P n ρ w0 Γ V ss i o ∧ Flow.All F P n ρ w0 Γ V ss l (i + 1)
theorem Flow.all_sp (F : Flow) {V : List ((Nat → Value × Value) → Value × Value → Prop)} {ss : List Slot} : ∀ {l : List Oper} {b : Nat}, F.All P n ρ w0 Γ V ss l b → ∀ i o, l[i]? = some o → F.Sp P n ρ w0 Γ V ss (b + i) o
  | [], _, _, _, _, h => by simp at h
  | o :: l, b, h, 0, _, ho => by simp at ho; subst ho; exact h.1
  | o :: l, b, h, i + 1, _, ho => by
    have := Flow.all_sp F h.2 i _ (by simpa using ho)
    rwa [show b + 1 + i = b + (i + 1) by omega] at this
theorem Flow.run' (an : List (List Nat)) (wr : List (Nat × Nat)) (V : List ((Nat → Value × Value) → Value × Value → Prop)) (ss : List Slot) {l : List Oper} {id : Nat} {k : Kt} (hm : P.follows .mixedOrders = true) (hc : Flow.chk ⟨l, an, wr⟩ = true) (hs : (ss.map fun s => (s.born, s.dies)).all (Flow.slotOk ⟨l, an, wr⟩) = true)
    (H : Hp w0 (Flow.at_ ⟨l, an, wr⟩ (fun s => s.born == none) (fun _ => (undef, undef)) ss ++ Γ) w)
    (hsp : Flow.All ⟨l, an, wr⟩ P n ρ w0 Γ V ss l 0)
    (hk : ∀ η w', (∀ i, Nat.blt i l.length = true → V.getD i (fun _ _ => True) (sub (Flow.anc ⟨l, an, wr⟩ i) η) (η i)) → Hp w0 (Flow.at_ ⟨l, an, wr⟩ (fun s => s.dies == none) η ss ++ Γ) w' → N P n k (Flow.fr ⟨l, an, wr⟩ ρ (fun _ => true) η) w') : W P n (.region id l.toArray true) k ρ w :=
  Flow.run ⟨l, an, wr⟩ V ss hm hc hs (fun i o ho => by have := Flow.all_sp _ hsp i o ho; rwa [Nat.zero_add] at this) H fun η w' hv hh => hk η w' (fun i hi => hv i (by simpa [Nat.blt_eq] using hi)) hh
end
end Go.Proofs.Ytdhekpodgemneaa
