/- More rules: arrays that are built; maps with keys of any kind, written through their entries, and walked. No program in it. -/
import Derived.Test.YtfhekejaobmacaaCore12
import Derived.Maps.RangeRun
import Derived.MapKept
set_option linter.unusedVariables false
set_option linter.unusedSimpArgs false
set_option linter.unusedSectionVars false
namespace Go.Proofs.Ytfhekejaobmacaa
open Go Go.RowKit Go.ChangeShapes Go.WideShapes
open Go.ChangeMaps (setBlock)

def vN : Value → Nat
  | .int _ x => x.toNat
  | _ => 0
/-! ### maps as lists -/
section
variable {κ ν : Type} [DecidableEq κ]
def pget : List (κ × ν) → κ → Option ν
  | [], _ => none
  | (k, u) :: m, x => if k = x then some u else pget m x
def pgetD (z : ν) (m : List (κ × ν)) (x : κ) : ν := (pget m x).getD z
def pput : List (κ × ν) → κ → ν → List (κ × ν)
  | [], x, v => [(x, v)]
  | (k, u) :: m, x, v => if k = x then (k, v) :: m else (k, u) :: pput m x v
theorem pget_put (m : List (κ × ν)) (x : κ) (v : ν) (y : κ) : pget (pput m x v) y = if y = x then some v else pget m y := by
  induction m with
  | nil => simp only [pput, pget]; by_cases h : x = y <;> simp [h, eq_comm]
  | cons p m ih =>
    obtain ⟨k, u⟩ := p
    simp only [pput]
    by_cases h : k = x
    · subst h
      rw [if_pos rfl]; simp only [pget]
      by_cases h2 : k = y
      · simp [h2]
      · simp [h2, show ¬ y = k from fun e => h2 e.symm]
    · rw [if_neg h]; simp only [pget, ih]
      by_cases h2 : k = y
      · subst h2; simp [h]
      · simp [h2]
theorem pput_self (z : ν) (m : List (κ × ν)) (x y : κ) : pgetD z (pput m x (pgetD z m x)) y = pgetD z m y := by
  simp only [pgetD, pget_put]
  by_cases h : y = x
  · subst h; simp
  · simp [h]
theorem pget_none {m : List (κ × ν)} {x : κ} : pget m x = none ↔ ∀ p ∈ m, p.1 ≠ x := by
  induction m with
  | nil => simp [pget]
  | cons p m ih =>
    obtain ⟨k, u⟩ := p
    simp only [pget]
    by_cases h : k = x
    · simp [h]
    · simp [h, ih]
theorem pput_none {m : List (κ × ν)} {x : κ} {v : ν} (h : pget m x = none) : pput m x v = m ++ [(x, v)] := by
  induction m with
  | nil => rfl
  | cons p m ih =>
    obtain ⟨k, u⟩ := p
    simp only [pget] at h
    by_cases hk : k = x
    · simp [hk] at h
    · simp only [hk, if_false] at h; simp [pput, hk, ih h]
theorem pput_at {m : List (κ × ν)} {x : κ} {v u : ν} {j : Nat} (hd : (m.map (·.1)).Nodup) (hj : m[j]? = some (x, u)) : pput m x v = m.modify j fun p => (p.1, v) := by
  induction m generalizing j with
  | nil => simp at hj
  | cons p m ih =>
    obtain ⟨k, q⟩ := p
    simp only [List.map_cons, List.nodup_cons] at hd
    cases j with
    | zero => simp at hj; obtain ⟨rfl, rfl⟩ := hj; simp [pput]
    | succ j =>
      have hm : (x, u) ∈ m := List.mem_of_getElem? (by simpa using hj)
      have hk : k ≠ x := fun e => hd.1 (List.mem_map.2 ⟨(x, u), hm, e.symm⟩)
      simp [pput, hk, ih hd.2 (by simpa using hj)]
theorem pget_at {m : List (κ × ν)} {x : κ} {u : ν} (hd : (m.map (·.1)).Nodup) (hm : (x, u) ∈ m) : pget m x = some u := by
  induction m with
  | nil => simp at hm
  | cons p m ih =>
    obtain ⟨k, q⟩ := p
    simp only [List.map_cons, List.nodup_cons] at hd
    rcases List.mem_cons.1 hm with h | h
    · cases h; simp [pget]
    · have hk : k ≠ x := fun e => hd.1 (List.mem_map.2 ⟨(x, u), h, e.symm⟩)
      simp [pget, hk, ih hd.2 h]
end

section
variable {κ ν : Type} [DecidableEq κ]
theorem pput_pput (m : List (κ × ν)) (x : κ) (u v : ν) : pput (pput m x u) x v = pput m x v := by
  induction m with
  | nil => simp [pput]
  | cons p m ih =>
    obtain ⟨k, q⟩ := p
    simp only [pput]
    by_cases h : k = x
    · simp [h, pput]
    · simp [h, pput, ih]
end
/-! ### how keys and values stand -/
structure ME (κ ν : Type) where
  ke : κ → Value
  ve : ν → Value
  z : ν
def ME.en {κ ν : Type} (E : ME κ ν) (p : κ × ν) : Value × Value := (E.ke p.1, E.ve p.2)
theorem ME.inj {κ ν : Type} {E : ME κ ν} (hk : ∀ a b, E.ke a = E.ke b → a = b) (hv : ∀ a b, E.ve a = E.ve b → a = b) : ∀ p q, E.en p = E.en q → p = q := fun p q h => by
  have h1 := congrArg Prod.fst h
  have h2 := congrArg Prod.snd h
  exact Prod.ext (hk _ _ h1) (hv _ _ h2)
def ev2 (e : MapEntry) : Value × Value := (e.key, e.val)
structure MeT (P : Program) (t kt et : Nat) {κ ν : Type} (E : ME κ ν) : Prop where
  und : P.underlying t = some (.map kt et)
  inj : ∀ a b, E.ke a = E.ke b → a = b
  check : ∀ (em : Bool) x w, (Instr.checkKey em 10000 kt (E.ke x)).run P w = .ok () w
  find : ∀ x (es : List MapEntry) (w : World), (∀ e ∈ es, ∃ y, e.key = E.ke y) →
    ((Instr.findKey kt (E.ke x) es).run P w = .ok none w ∧ ∀ e ∈ es, e.key ≠ E.ke x) ∨ ∃ j e, (Instr.findKey kt (E.ke x) es).run P w = .ok (some (j, e.val)) w ∧ es[j]? = some e ∧ e.key = E.ke x
  stays : ∀ x w, (Instr.keyThatStays (E.ke x) (E.ke x)).run P w = .ok (E.ke x) w
  zero : ∀ w, (zeroValue et).run P w = .ok (E.ve E.z) w
/-- keys that are pairs of texts -/
def kSS (x : ByteArray × ByteArray) : Value := .agg #[.string x.1, .string x.2]
theorem run_eqSS {P : Program} {kt st : Nat} (hk : P.underlying kt = some (.array 2 st)) (hs : P.underlying st = some .string) (hl : Ld1 P st) (x y : ByteArray × ByteArray) (w : World) :
    ∃ r, (Op.equal kt (kSS x) (kSS y)).run P w = .ok r w ∧ (r = true ↔ x = y) := by
  have h1 := fun w => (hl w).1
  have h2 := fun w => (hl w).2
  have hp : ∀ (a b : ByteArray) (i : Nat) (v : Value) w, #[Value.string a, Value.string b][i]? = some v → (part st #[Value.string a, Value.string b] i).run P w = .ok v w := by
    intro a b i v w hv
    simp only [part, Sem.run_bind, h1, Result.andThen_ok, Bool.false_eq_true, if_false, hv, Sem.run_pure]
  have hq : ∀ (a b : ByteArray) w, (Op.equalIn 9999 st (.string a) (.string b)).run P w = .ok (a.toList == b.toList) w := fun a b w => run_equalIn_string w 9998 st a b hs
  refine ⟨x.1.toList == y.1.toList && x.2.toList == y.2.toList, ?_, ?_⟩
  · show (Op.equalIn 10000 kt (kSS x) (kSS y)).run P w = _
    have hr : List.range' 0 2 = [0, 1] := rfl
    unfold Op.equalIn kSS
    simp only [Sem.run_bind, run_underlying hk, h2, Result.andThen_ok, Std.Legacy.Range.forIn_eq_forIn_range', Std.Legacy.Range.size, Nat.sub_zero, Nat.add_one_sub_one, Nat.div_one, hr, List.forIn_cons, List.forIn_nil, Nat.mul_one, hp _ _ 0 _ _ rfl, hp _ _ 1 _ _ rfl, hq]
    cases h : (x.1.toList == y.1.toList) <;> cases h' : (x.2.toList == y.2.toList) <;> simp [Sem.run_bind, Result.andThen, hp _ _ 1 _ _ rfl, hq, h, h']
  · rw [str_eq, str_eq, Bool.and_eq_true, decide_eq_true_eq, decide_eq_true_eq]
    exact ⟨fun h => Prod.ext h.1 h.2, fun h => by rw [h]; exact ⟨rfl, rfl⟩⟩
theorem findAsking_of {P : Program} {kt : Nat} {κ : Type} {ke : κ → Value} (inj : ∀ a b, ke a = ke b → a = b) (x : κ) (w : World) (heq : ∀ y, ∃ r, (Op.equal kt (ke x) (ke y)).run P w = .ok r w ∧ (r = true ↔ x = y)) : ∀ (es : List MapEntry) (i : Nat), (∀ e ∈ es, ∃ y, e.key = ke y) →
    ((Instr.findAsking kt (ke x) es i).run P w = .ok none w ∧ ∀ e ∈ es, e.key ≠ ke x) ∨ ∃ j e, (Instr.findAsking kt (ke x) es i).run P w = .ok (some (i + j, e.val)) w ∧ es[j]? = some e ∧ e.key = ke x
  | [], i, _ => .inl ⟨by simp [Instr.findAsking], by simp⟩
  | e :: es, i, hall => by
    obtain ⟨y, hy⟩ := hall e (by simp)
    obtain ⟨r, hr, hiff⟩ := heq y
    rw [← hy] at hr
    cases r
    · have hne : e.key ≠ ke x := fun h => by
        have := hiff.2 (inj _ _ (by rw [← h, hy])); cases this
      rcases findAsking_of inj x w heq es (i + 1) (fun q hq => hall q (by simp [hq])) with ⟨h1, h2⟩ | ⟨j, e', h1, h2, h3⟩
      · refine .inl ⟨by simp [Instr.findAsking, hr, h1], fun q hq => ?_⟩
        rcases List.mem_cons.1 hq with rfl | hq
        · exact hne
        · exact h2 q hq
      · exact .inr ⟨j + 1, e', by simp [Instr.findAsking, hr, h1, Nat.add_assoc, Nat.add_comm 1 j], by simpa using h2, h3⟩
    · exact .inr ⟨0, e, by simp [Instr.findAsking, hr], rfl, by rw [hy, hiff.1 rfl]⟩
theorem MeT.ss {P : Program} {t kt st et : Nat} {ν : Type} {ve : ν → Value} {z : ν} (hu : P.underlying t = some (.map kt et)) (hk : P.underlying kt = some (.array 2 st)) (hs : P.underlying st = some .string) (hl : Ld1 P st) (hz : ∀ w, (zeroValue et).run P w = .ok (ve z) w) : MeT P t kt et (⟨kSS, ve, z⟩ : ME (ByteArray × ByteArray) ν) := by
  have hinj : ∀ a b, kSS a = kSS b → a = b := fun a b h => by
    unfold kSS at h
    simp at h
    exact Prod.ext h.1 h.2
  refine ⟨hu, hinj, fun em x w => ?_, fun x es w hes => ?_, fun x w => ?_, hz⟩
  · have h1 := fun w => (hl w).1
    have h2 := fun w => (hl w).2
    have hr : List.range' 0 2 = [0, 1] := rfl
    have hp : ∀ (a b : ByteArray) (i : Nat) (v : Value) w, #[Value.string a, Value.string b][i]? = some v → (part st #[Value.string a, Value.string b] i).run P w = .ok v w := by
      intro a b i v w hv
      simp only [part, Sem.run_bind, h1, Result.andThen_ok, Bool.false_eq_true, if_false, hv, Sem.run_pure]
    have hc : ∀ (a : ByteArray) w, (Instr.checkKey em 9999 st (.string a)).run P w = .ok () w := fun a w => by
      unfold Instr.checkKey
      simp [Sem.run_bind, run_underlying hs, Result.andThen]
    show (Instr.checkKey em 10000 kt (kSS x)).run P w = _
    unfold Instr.checkKey kSS
    simp only [Sem.run_bind, run_underlying hk, h2, Result.andThen_ok, Std.Legacy.Range.forIn_eq_forIn_range', Std.Legacy.Range.size, Nat.sub_zero, Nat.add_one_sub_one, Nat.div_one, hr, List.forIn_cons, List.forIn_nil, Nat.mul_one, Nat.zero_mul, Nat.one_mul, hp x.1 x.2 0 (.string x.1) _ rfl, hp x.1 x.2 1 (.string x.2) _ rfl, hc, Sem.run_pure]
  · have h1 : (Instr.findKey kt (kSS x) es).run P w = (Instr.findAsking kt (kSS x) es).run P w := by
      unfold Instr.findKey
      simp only [Sem.run_bind, run_underlying hk, Result.andThen_ok]
      cases es with
      | nil => simp [Instr.findNow, Instr.findAsking]
      | cons e es => rfl
    rcases findAsking_of hinj x w (fun y => run_eqSS hk hs hl x y w) es 0 hes with h | ⟨j, e, h2, h3⟩
    · exact .inl (by rw [show (⟨kSS, ve, z⟩ : ME (ByteArray × ByteArray) ν).ke x = kSS x from rfl, h1]; exact h)
    · exact .inr ⟨j, e, by rw [show (⟨kSS, ve, z⟩ : ME (ByteArray × ByteArray) ν).ke x = kSS x from rfl, h1, h2, Nat.zero_add], h3⟩
  · have : Instr.sameBits 10000 (kSS x) (kSS x) = true := by
      unfold kSS
      have hb : ∀ a : ByteArray, (a == a) = true := fun a => (MapKept.bytes_beq a a).2 rfl
      simp [Instr.sameBits, hb]
    show (Instr.keyThatStays (kSS x) (kSS x)).run P w = _
    unfold Instr.keyThatStays
    rw [if_pos this, Sem.run_pure]

/-! ### a map of the code's own -/
section
variable {P : Program} {t kt et : Nat} {κ ν : Type} [DecidableEq κ] {E : ME κ ν} {w w0 : World} {Γ : List (World → Prop)}
def MpP (E : ME κ ν) (b : Nat) (m : List (κ × ν)) (w : World) : Prop := ∃ es clock, w.heap[b]? = some (.map es clock) ∧ es.toList.map ev2 = m.map E.en ∧ MapKept.Stamped es clock
/-- the entry of a key, by its stamp -/
def MpE (E : ME κ ν) (b : Nat) (m : List (κ × ν)) (k : κ) (s : Nat) (w : World) : Prop := ∃ es clock, w.heap[b]? = some (.map es clock) ∧ es.toList.map ev2 = (pput m k (pgetD E.z m k)).map E.en ∧ MapKept.Stamped es clock ∧ ∃ (j : Nat) (e : MapEntry), es.toList[j]? = some e ∧ e.key = E.ke k ∧ e.born = s
/-- the map as it is walked: what is left, and the entry that came last -/
def MpW (E : ME κ ν) (b r : Nat) (m rem : List (κ × ν)) (c : Option (κ × ν)) (w : World) : Prop :=
  ∃ es clock since seen c0, w.heap[b]? = some (.map es clock) ∧ es.toList.map ev2 = m.map E.en ∧ MapKept.Stamped es clock ∧ w.heap[r]? = some (.mapIter (some b) since seen c0) ∧ (∀ x ∈ es.toList, x.born < since) ∧ (since ≤ c0 ∧ since ≤ clock) ∧
    ((leftOf es seen).toList.map ev2).Perm (rem.map E.en) ∧ ∀ p, c = some p → c0 = clock ∧ ∃ (s0 : Array Nat) (e : MapEntry), seen = s0.push e.born ∧ e ∈ es.toList ∧ ev2 e = E.en p
theorem MpP.stb {b : Nat} {m : List (κ × ν)} {u : World} (h : MpP E b m w) (hh : u.heap[b]? = w.heap[b]?) : MpP E b m u := by
  obtain ⟨es, c, h1, h2⟩ := h
  exact ⟨es, c, hh.trans h1, h2⟩
theorem MpE.stb {b s : Nat} {m : List (κ × ν)} {k : κ} {u : World} (h : MpE E b m k s w) (hh : u.heap[b]? = w.heap[b]?) : MpE E b m k s u := by
  obtain ⟨es, c, h1, h2⟩ := h
  exact ⟨es, c, hh.trans h1, h2⟩
theorem MpP.obj {b : Nat} {m : List (κ × ν)} (h : MpP E b m w) : ∃ es c, w.heap[b]? = some (.map es c) := by
  obtain ⟨es, c, h1, _⟩ := h
  exact ⟨es, c, h1⟩
theorem MpE.obj {b s : Nat} {m : List (κ × ν)} {k : κ} (h : MpE E b m k s w) : ∃ es c, w.heap[b]? = some (.map es c) := by
  obtain ⟨es, c, h1, _⟩ := h
  exact ⟨es, c, h1⟩
theorem MpE.mp {b s : Nat} {m : List (κ × ν)} {k : κ} (h : MpE E b m k s w) : MpP E b (pput m k (pgetD E.z m k)) w := by
  obtain ⟨es, c, h1, h2, h3, _⟩ := h
  exact ⟨es, c, h1, h2, h3⟩
theorem MpW.mp {b r : Nat} {m rem : List (κ × ν)} {c : Option (κ × ν)} (h : MpW E b r m rem c w) : MpP E b m w := by
  obtain ⟨es, c, _, _, _, h1, h2, h3, _⟩ := h
  exact ⟨es, c, h1, h2, h3⟩
theorem ents_key {es : List MapEntry} {m : List (κ × ν)} (h : es.map ev2 = m.map E.en) : ∀ e ∈ es, ∃ y, e.key = E.ke y := fun e he => by
  have : ev2 e ∈ m.map E.en := by rw [← h]; exact List.mem_map.2 ⟨e, he, rfl⟩
  obtain ⟨p, _, hp⟩ := List.mem_map.1 this
  exact ⟨p.1, by have := congrArg Prod.fst hp; exact this.symm⟩
theorem ents_at {es : List MapEntry} {m : List (κ × ν)} (h : es.map ev2 = m.map E.en) {j : Nat} {e : MapEntry} (hj : es[j]? = some e) : ∃ p, m[j]? = some p ∧ e.key = E.ke p.1 ∧ e.val = E.ve p.2 := by
  have := congrArg (·[j]?) h
  simp only [List.getElem?_map, hj, Option.map_some] at this
  cases hm : m[j]? with
  | none => rw [hm] at this; cases this
  | some p =>
    rw [hm] at this
    have := Option.some.inj this
    exact ⟨p, rfl, congrArg Prod.fst this, congrArg Prod.snd this⟩
theorem ents_nodup (inj : ∀ a b, E.ke a = E.ke b → a = b) {es : List MapEntry} {m : List (κ × ν)} (h : es.map ev2 = m.map E.en) (hd : (es.map (·.key)).Nodup) : (m.map (·.1)).Nodup := by
  have e1 : es.map (·.key) = (m.map (·.1)).map E.ke := by
    have := congrArg (List.map Prod.fst) h
    simpa [List.map_map, Function.comp_def, ev2, ME.en] using this
  rw [e1] at hd
  have := List.pairwise_map.1 hd
  exact List.Pairwise.imp (fun {a b} hne e => hne (by rw [e])) this
/-- whether a key is there -/
theorem ents_find (hT : MeT P t kt et E) {es : List MapEntry} {m : List (κ × ν)} (h : es.map ev2 = m.map E.en) (hd : (es.map (·.key)).Nodup) (x : κ) (w : World) :
    ((Instr.findKey kt (E.ke x) es).run P w = .ok none w ∧ pget m x = none ∧ ∀ e ∈ es, e.key ≠ E.ke x) ∨ ∃ j e v, (Instr.findKey kt (E.ke x) es).run P w = .ok (some (j, E.ve v)) w ∧ es[j]? = some e ∧ e.key = E.ke x ∧ pget m x = some v ∧ m[j]? = some (x, v) := by
  rcases hT.find x es w (ents_key h) with ⟨h1, h2⟩ | ⟨j, e, h1, h2, h3⟩
  · refine .inl ⟨h1, pget_none.2 fun p hp => ?_, h2⟩
    intro hpx
    have : E.en p ∈ es.map ev2 := by rw [h]; exact List.mem_map.2 ⟨p, hp, rfl⟩
    obtain ⟨e, he, hh⟩ := List.mem_map.1 this
    exact h2 e he (by rw [← hpx]; exact congrArg Prod.fst hh)
  · obtain ⟨p, hp, hk, hv⟩ := ents_at h h2
    have hx : p.1 = x := hT.inj _ _ (by rw [← hk, h3])
    obtain ⟨k, v⟩ := p
    cases hx
    exact .inr ⟨j, e, v, by rw [← hv]; exact h1, h2, h3, pget_at (ents_nodup hT.inj h hd) (List.mem_of_getElem? hp), hp⟩
theorem MpP.look (hT : MeT P t kt et E) {b : Nat} {m : List (κ × ν)} (h : MpP E b m w) (x : κ) : (Instr.lookup t (.map (some b)) (E.ke x) false).run P w = .ok (E.ve (pgetD E.z m x)) w := by
  obtain ⟨es, c, h1, h2, h3⟩ := h
  unfold Instr.lookup
  simp only [Sem.run_bind, run_underlying hT.und, Result.andThen_ok, MapKept.run_getObj_map h1, hT.check, Sem.run_pure]
  rcases ents_find hT h2 h3.2.2 x w with ⟨f1, f2, _⟩ | ⟨j, e, v, f1, _, _, f4, _⟩
  · simp [f1, Result.andThen, hT.zero, pgetD, f2]
  · simp [f1, Result.andThen, pgetD, f4]
/-- the value that a map holds of each key -/
def LkP (P : Program) (t : Nat) (E : ME κ ν) (b : Nat) (m : List (κ × ν)) (w : World) : Prop := ∀ x, (Instr.lookup t (.map (some b)) (E.ke x) false).run P w = .ok (E.ve (pgetD E.z m x)) w
theorem MpP.lk (hT : MeT P t kt et E) {b : Nat} {m : List (κ × ν)} (h : MpP E b m w) : LkP P t E b m w := fun x => h.look hT x
theorem MpE.lk (hT : MeT P t kt et E) {b s : Nat} {m : List (κ × ν)} {k : κ} (h : MpE E b m k s w) : LkP P t E b m w := fun x => by
  rw [h.mp.look hT x, pput_self]
/-- the first atom stands on b and r, and r is written -/
theorem Hp.at3 {A B : World → Prop} {b r : Nat} {w' : World} (h : Hp w0 (A :: Γ) w) (hbl : b < w.heap.size) (hrl : r < w.heap.size) (hA : ∀ u : World, u.heap[b]? = some (.cells #[] 0 (0, 0)) ∨ u.heap[r]? = some (.cells #[] 0 (0, 0)) → ¬ A u) (hg : w.grownBy w' (some r)) (hB : ∀ u : World, u.heap[b]? = w'.heap[b]? → u.heap[r]? = w'.heap[r]? → B u) : Hp w0 (B :: Γ) w' := by
  obtain ⟨hq, F, f1, f2, f3⟩ := h
  have hmem : ∀ c, c < w.heap.size → (c = b ∨ c = r) → F 0 c := fun c hc he => by
    apply Classical.byContradiction
    intro hn
    have hu := f3 0 A rfl { w with heap := w.heap.setIfInBounds c (.cells #[] 0 (0, 0)) } fun b' hb' => by
      have hne : c ≠ b' := fun e => hn (e ▸ hb')
      simp [Array.getElem?_setIfInBounds_ne hne]
    refine hA _ ?_ hu
    rcases he with rfl | rfl
    · exact .inl (by simp [hc])
    · exact .inr (by simp [hc])
  obtain ⟨q1, q2, q3⟩ := hq
  refine ⟨⟨hg.os.trans q1, hg.tape.trans q2, hg.output.trans q3⟩, F, fun i b' hb' => Nat.lt_of_lt_of_le (f1 i b' hb') hg.size, f2, fun i X hX => ?_⟩
  cases i with
  | zero =>
    simp at hX; subst hX
    exact fun u hu => hB u (hu b (hmem b hbl (.inl rfl))) (hu r (hmem r hrl (.inr rfl)))
  | succ i =>
    intro u hu
    refine f3 (i + 1) X hX u fun b' hb' => ?_
    rw [hu b' hb']
    refine hg.block b' (f1 _ _ hb') fun e => ?_
    cases e
    have := f2 _ _ r (hmem r hrl (.inr rfl)) hb'; omega
end
section
variable {P : Program} {n : Nat} {k : Kt} {ρ : Nat → Value} {w w0 : World} {ops : Array Oper} {l : List Oper} {Γ : List (World → Prop)}
variable {dst : Option Tmp} {ty : TypeId} {pos : String} {after : Array Edge} {g : Option (Nat × Bool)}
variable {v : Value} {t : TypeId} {x y z : Operand} {i : Nat}
variable {kt et : Nat} {κ ν : Type} [DecidableEq κ] {E : ME κ ν}
theorem r_makeMapP (hT : MeT P t kt et E) (H : Hp w0 Γ w) (hk : ∀ (b : Nat) (w' : World), Hp w0 (MpP E b [] :: Γ) w' → R P n ops l k (updo ρ dst (.map (some b))) w')
    (hw : wn n ops ρ ⟨dst, .makeMap t none, ty, pos, after, g⟩ = true := by rfl) : R P n ops (⟨dst, .makeMap t none, ty, pos, after, g⟩ :: l) k ρ w := by
  refine r_val (v := .map (some w.heap.size)) (w' := w.alloc (.map #[] 0)) ?_ hw (hk _ _ (H.alloc _ fun u hu => ?_))
  · simp [execOp, run_makeMap]
  · exact ⟨#[], 0, hu, rfl, MapKept.stamped_empty 0⟩
theorem r_lookP {b : Nat} {m : List (κ × ν)} (q : κ) (u : Value) (hu : E.ve (pgetD E.z m q) = u) (hx : ev n ρ x = .map (some b)) (hy : ev n ρ y = E.ke q) (hm : LkP P t E b m w) (hk : R P n ops l k (updo ρ dst u) w)
    (hw : wn n ops ρ ⟨dst, .lookup t x y false, ty, pos, after, g⟩ = true := by rfl) : R P n ops (⟨dst, .lookup t x y false, ty, pos, after, g⟩ :: l) k ρ w :=
  r_val (by simp [execOp, hx, hy, hm q, hu]) hw hk
theorem r_mapEntry {b : Nat} {m : List (κ × ν)} (q : κ) (hT : MeT P t kt et E) (hx : ev n ρ x = .map (some b)) (hy : ev n ρ y = E.ke q) (H : Hp w0 (MpP E b m :: Γ) w)
    (hk : ∀ (s : Nat) w', Hp w0 (MpE E b m q s :: Γ) w' → R P n ops l k (updo ρ dst (.tuple #[E.ve (pgetD E.z m q), .int .i64 s])) w')
    (hw : wn n ops ρ ⟨dst, .mapEntry t x y, ty, pos, after, g⟩ = true := by rfl) : R P n ops (⟨dst, .mapEntry t x y, ty, pos, after, g⟩ :: l) k ρ w := by
  obtain ⟨es, c, h1, h2, h3⟩ := H.g0
  have key : ∃ (s : Nat) (es' : Array MapEntry) (c' : Nat), (Instr.mapEntry t (.map (some b)) (E.ke q)).run P w = .ok (.tuple #[E.ve (pgetD E.z m q), .int .i64 s]) { w with heap := w.heap.setIfInBounds b (.map es' c') } ∧ es'.toList.map ev2 = (pput m q (pgetD E.z m q)).map E.en ∧ MapKept.Stamped es' c' ∧ ∃ (j : Nat) (e : MapEntry), es'.toList[j]? = some e ∧ e.key = E.ke q ∧ e.born = s := by
    unfold Instr.mapEntry
    simp only [Sem.run_bind, run_underlying hT.und, Result.andThen_ok, MapKept.run_getObj_map h1, hT.check]
    rcases ents_find hT h2 h3.2.2 q w with ⟨f1, f2, f3⟩ | ⟨j, e, v, f1, f2, f3, f4, f5⟩
    · refine ⟨c, es.push ⟨E.ke q, E.ve E.z, c⟩, c + 1, ?_, ?_, MapKept.stamped_push h3 f3, es.toList.length, ⟨E.ke q, E.ve E.z, c⟩, by simp, rfl, rfl⟩
      · simp [f1, Result.andThen, hT.zero, MapKept.run_setObj_map _ h1, pgetD, f2, goInt]
      · simp only [Array.toList_push, List.map_append, h2, List.map_cons, List.map_nil, pgetD, f2, Option.getD_none, pput_none f2]
        rfl
    · have hj : es[j]? = some e := by simpa using f2
      refine ⟨e.born, es.modify j fun e => { e with key := E.ke q }, c, ?_, ?_, MapKept.stamped_modify h3 j _ (fun _ _ => rfl) (fun e' _ he' => ?_), j, e, ?_, f3, rfl⟩
      · simp only [f1, Result.andThen_ok, Sem.run_bind, hj, Option.map_some, Option.getD_some, f3, hT.stays, MapKept.run_setObj_map _ h1, Sem.run_pure, pgetD, f4]
        rfl
      · have e1 : (es.modify j fun e => { e with key := E.ke q }).toList = es.toList := by
          apply List.ext_getElem?
          intro i
          simp only [Array.getElem?_toList, Array.getElem?_modify]
          by_cases hij : j = i
          · subst hij; rw [if_pos rfl, hj, Option.map_some, ← f3]
          · rw [if_neg hij]
        rw [e1, h2]
        have : pput m q (pgetD E.z m q) = m := by
          rw [pput_at (ents_nodup hT.inj h2 h3.2.2) f5]
          simp only [pgetD, f4, Option.getD_some]
          apply List.ext_getElem?
          intro i
          rw [List.getElem?_modify]
          by_cases hij : j = i
          · subst hij; rw [f5]; simp
          · cases m[i]? <;> simp [hij]
        rw [this]
      · rw [hj] at he'; cases he'; exact f3.symm
      · simp only [Array.getElem?_toList, Array.getElem?_modify, if_pos, hj, Option.map_some, ← f3]
  obtain ⟨s, es', c', k1, k2, k3, k4⟩ := key
  refine r_val (w' := { w with heap := w.heap.setIfInBounds b (.map es' c') }) (by simp [execOp, hx, hy, k1]) hw (hk s _ ?_)
  have hb := MapKept.heap_set (o' := .map es' c') h1
  refine H.at1 (fun u hu => hu.obj) ⟨rfl, rfl, rfl, by simp, fun i _ hi => hb.2 i fun e => hi (by rw [e])⟩ fun u hu => ⟨es', c', hu.trans hb.1, k2, k3, k4⟩
theorem r_entryStore {b s : Nat} {m : List (κ × ν)} {q : κ} (u : ν) (hT : MeT P t kt et E) (hx : ev n ρ x = .map (some b)) (hy : ev n ρ y = .int .i64 s) (hz : ev n ρ z = E.ve u) (H : Hp w0 (MpE E b m q s :: Γ) w)
    (hk : ∀ w', Hp w0 (MpP E b (pput m q u) :: Γ) w' → R P n ops l k (updo ρ dst undef) w')
    (hw : wn n ops ρ ⟨dst, .entryStore t x y z, ty, pos, after, g⟩ = true := by rfl) : R P n ops (⟨dst, .entryStore t x y z, ty, pos, after, g⟩ :: l) k ρ w := by
  obtain ⟨es, c, h1, h2, h3, j, e, h4, h5, h6⟩ := H.g0
  have hj : es[j]? = some e := by simpa using h4
  obtain ⟨p, hp, hpk, hpv⟩ := ents_at h2 h4
  have hq : p.1 = q := hT.inj _ _ (by rw [← hpk, h5])
  have hf : es.findIdx? (fun e => (e.born : Int) == (s : Int)) = some j := by
    rw [Array.findIdx?_eq_some_iff_getElem]
    have hlt := (Array.getElem?_eq_some_iff.1 hj).1
    refine ⟨hlt, ?_, fun i hi => ?_⟩
    · have := (Array.getElem?_eq_some_iff.1 hj).2
      rw [this]; simp [h6]
    · have hd := h3.2.1
      have hil : i < es.size := by omega
      have hne : es[i].born ≠ s := fun heq => by
        have hp := List.pairwise_iff_getElem.1 hd i j (by simpa using hil) (by simpa using hlt) hi
        simp only [List.getElem_map, Array.getElem_toList] at hp
        rw [(Array.getElem?_eq_some_iff.1 hj).2] at hp
        exact hp (by rw [heq, h6])
      simp; omega
  have hr : (Instr.entryStore t (.map (some b)) (.int .i64 s) (E.ve u)).run P w = .ok () { w with heap := w.heap.setIfInBounds b (.map (es.modify j fun e => { e with val := E.ve u }) c) } := by
    unfold Instr.entryStore
    simp [Sem.run_bind, MapKept.run_getObj_map h1, Result.andThen, asInt, asIntOf, hf, MapKept.run_setObj_map _ h1]
  refine r_eff (w' := { w with heap := w.heap.setIfInBounds b (.map (es.modify j fun e => { e with val := E.ve u }) c) }) (by simp [execOp, hx, hy, hz, hr]) hw (hk _ ?_)
  have hb := MapKept.heap_set (o' := .map (es.modify j fun e => { e with val := E.ve u }) c) h1
  refine H.at1 (fun u hu => hu.obj) ⟨rfl, rfl, rfl, by simp, fun i _ hi => hb.2 i fun e => hi (by rw [e])⟩ fun u' hu => ⟨_, c, hu.trans hb.1, ?_, MapKept.stamped_modify h3 j _ (fun _ _ => rfl) fun _ _ _ => rfl⟩
  obtain ⟨pk, pv⟩ := p
  cases hq
  rw [← pput_pput m pk (pgetD E.z m pk) u, pput_at (ents_nodup hT.inj h2 h3.2.2) hp]
  generalize pput m pk (pgetD E.z m pk) = m at h2 hp
  apply List.ext_getElem?
  intro i
  have h2' := congrArg (·[i]?) h2
  simp only [List.getElem?_map, Array.getElem?_toList] at h2'
  simp only [List.getElem?_map, Array.getElem?_toList, Array.getElem?_modify, List.getElem?_modify]
  by_cases hij : j = i
  · subst hij
    rw [hj, hp]
    simp [ev2, ME.en, hpk]
  · rw [if_neg hij, h2']
    cases m[i]? <;> simp [hij]
/-! ### a map that is walked -/
theorem r_range {b : Nat} {m : List (κ × ν)} (hT : MeT P t kt et E) (hx : ev n ρ x = .map (some b)) (H : Hp w0 (MpP E b m :: Γ) w)
    (hk : ∀ (r : Nat) w', Hp w0 (MpW E b r m m none :: Γ) w' → R P n ops l k (updo ρ dst (.pointer (some ⟨r, 0, none⟩))) w')
    (hw : wn n ops ρ ⟨dst, .range t x, ty, pos, after, g⟩ = true := by rfl) : R P n ops (⟨dst, .range t x, ty, pos, after, g⟩ :: l) k ρ w := by
  obtain ⟨es, c, h1, h2, h3⟩ := H.g0
  have hr : (Instr.range t (.map (some b))).run P w = .ok (.pointer (some ⟨w.heap.size, 0, none⟩)) (w.alloc (.mapIter (some b) c #[] c)) := by
    unfold Instr.range
    simp [Sem.run_bind, run_underlying hT.und, MapKept.run_getObj_map h1, Result.andThen]
  refine r_val (v := .pointer (some ⟨w.heap.size, 0, none⟩)) (w' := w.alloc (.mapIter (some b) c #[] c)) (by simp [execOp, hx, hr]) hw (hk _ _ ?_)
  have H1 : Hp w0 ((fun u : World => u.heap[b]? = some (.map es c)) :: Γ) w := H.at1 (fun u hu => hu.obj) (World.grownBy.refl w (some b)) fun u hu => hu.trans h1
  have H2 := H1.alloc (A := fun u : World => u.heap[w.heap.size]? = some (.mapIter (some b) c #[] c)) (.mapIter (some b) c #[] c) fun u hu => hu
  refine H2.two fun u hr hb => ⟨es, c, c, #[], c, hb, h2, h3, hr, h3.1, ⟨Nat.le_refl _, Nat.le_refl _⟩, ?_, fun p hp => by cases hp⟩
  have : leftOf es #[] = es := by simp [leftOf]
  rw [this, h2]
theorem setB {w : World} {r : Nat} {o o' : Obj} (h : w.heap[r]? = some o) : (setBlock w r o').heap[r]? = some o' ∧ ∀ i, i ≠ r → (setBlock w r o').heap[i]? = w.heap[i]? := MapKept.heap_set (o' := o') h
theorem r_next0 {b r : Nat} {m : List (κ × ν)} {c : Option (κ × ν)} (hx : ev n ρ x = .pointer (some ⟨r, 0, none⟩)) (H : Hp w0 (MpW E b r m [] c :: Γ) w)
    (hk : R P n ops l k (updo ρ dst (.tuple #[.bool false])) w)
    (hw : wn n ops ρ ⟨dst, .next x false, ty, pos, after, g⟩ = true := by rfl) : R P n ops (⟨dst, .next x false, ty, pos, after, g⟩ :: l) k ρ w := by
  obtain ⟨es, cl, since, seen, c0, h1, h2, h3, h4, h5, h6, h7, h8⟩ := H.g0
  have h0 : (leftOf es seen).size = 0 := by
    have := h7.length_eq
    simpa using this
  rcases run_next_at (P := P) w ty r b since c0 seen es cl h4 h1 h5 h6.1 with ⟨_, hr⟩ | ⟨e, he, _⟩
  · exact r_val (by simp [execOp, hx, hr]) hw hk
  · have := Array.eq_empty_of_size_eq_zero h0
    rw [this] at he; simp at he
theorem r_next1 {b r : Nat} {m rem : List (κ × ν)} {c : Option (κ × ν)} (hinj : ∀ p q : κ × ν, E.en p = E.en q → p = q) (hne : rem ≠ []) (hx : ev n ρ x = .pointer (some ⟨r, 0, none⟩)) (H : Hp w0 (MpW E b r m rem c :: Γ) w)
    (hk : ∀ (p : κ × ν) zs, rem.Perm (p :: zs) → ∀ w', Hp w0 (MpW E b r m zs (some p) :: Γ) w' → R P n ops l k (updo ρ dst (.tuple #[.bool true, E.ke p.1, E.ve p.2])) w')
    (hw : wn n ops ρ ⟨dst, .next x false, ty, pos, after, g⟩ = true := by rfl) : R P n ops (⟨dst, .next x false, ty, pos, after, g⟩ :: l) k ρ w := by
  obtain ⟨es, cl, since, seen, c0, h1, h2, h3, h4, h5, h6, h7, h8⟩ := H.g0
  have hsz : (leftOf es seen).size ≠ 0 := fun h => hne (by
    have := h7.length_eq
    simp [h] at this
    exact List.eq_nil_of_length_eq_zero this.symm)
  rcases run_next_at (P := P) w ty r b since c0 seen es cl h4 h1 h5 h6.1 with ⟨h, _⟩ | ⟨e, he, w1, hw1, hr⟩
  · exact absurd h hsz
  · have hes : e ∈ es.toList := by
      simp only [leftOf, Array.mem_toList_iff, Array.mem_filter] at he ⊢
      exact he.1
    obtain ⟨j, hj⟩ := List.getElem?_of_mem hes
    obtain ⟨p, hp, hpk, hpv⟩ := ents_at h2 hj
    have hep : ev2 e = E.en p := by simp only [ev2, ME.en, hpk, hpv]
    -- what is left
    have hl2 : (leftOf es seen).toList.Perm (e :: (leftOf es (seen.push e.born)).toList) := by
      have hd : ((leftOf es seen).toList.map (·.born)).Nodup := by
        have h := h3.2.1
        simp only [leftOf, Array.toList_filter]
        exact List.Nodup.sublist (List.Sublist.map _ List.filter_sublist) h
      have e1 : (leftOf es (seen.push e.born)).toList = (leftOf es seen).toList.filter fun q => q.born != e.born := by
        simp only [leftOf, Array.toList_filter, List.filter_filter]
        apply List.filter_congr
        intro q _
        simp only [Array.contains_push]
        cases seen.contains q.born <;> simp [bne]
      rw [e1]
      generalize (leftOf es seen).toList = L at hd he
      clear e1 h7 hsz hr
      induction L with
      | nil => simp at he
      | cons a L ih =>
        obtain ⟨hd1, hd2⟩ := List.nodup_cons.1 (show (a.born :: L.map (·.born)).Nodup from hd)
        rcases List.mem_cons.1 he with h | hm
        · subst h
          have : L.filter (fun q => q.born != e.born) = L := List.filter_eq_self.2 fun q hq => by
            have : q.born ≠ e.born := fun h => hd1 (List.mem_map.2 ⟨q, hq, h⟩)
            simpa using this
          simp [this]
        · have hae : a.born ≠ e.born := fun h => hd1 (List.mem_map.2 ⟨e, hm, h.symm⟩)
          simp only [List.filter_cons, bne_iff_ne, ne_eq, hae, not_false_eq_true, if_true]
          exact ((ih hd2 hm).cons a).trans (List.Perm.swap _ _ _)
    have hpm : ((leftOf es seen).toList.map ev2).Perm (ev2 e :: (leftOf es (seen.push e.born)).toList.map ev2) := by simpa using hl2.map ev2
    have hin : p ∈ rem := by
      have : E.en p ∈ rem.map E.en := h7.mem_iff.1 (hpm.mem_iff.2 (by rw [hep]; exact List.mem_cons_self))
      obtain ⟨q, hq, hqe⟩ := List.mem_map.1 this
      rw [← hinj _ _ hqe]; exact hq
    obtain ⟨A, B, rfl⟩ := List.append_of_mem hin
    have hpz : (A ++ p :: B).Perm (p :: (A ++ B)) := List.perm_middle
    have hrem : ((leftOf es (seen.push e.born)).toList.map ev2).Perm ((A ++ B).map E.en) := by
      have h9 := hpm.symm.trans (h7.trans (hpz.map E.en))
      rw [hep] at h9
      simp only [List.map_cons] at h9
      exact h9.cons_inv
    have hw1h : w1.heap = w.heap := by rcases hw1 with rfl | rfl <;> rfl
    have h4' : w1.heap[r]? = some (.mapIter (some b) since seen c0) := by rw [hw1h]; exact h4
    have hne' : b ≠ r := fun h => by rw [h, h4] at h1; cases h1
    have hb := setB (o' := .mapIter (some b) since (seen.push e.born) cl) h4'
    have hsize : (setBlock w1 r (.mapIter (some b) since (seen.push e.born) cl)).heap.size = w.heap.size := by simp [setBlock, hw1h]
    refine r_val (v := .tuple #[.bool true, E.ke p.1, E.ve p.2]) (w' := setBlock w1 r (.mapIter (some b) since (seen.push e.born) cl)) (by simp [execOp, hx, hr, hpk, hpv]) hw (hk p (A ++ B) hpz _ ?_)
    have hos : w1.os = w.os ∧ w1.tape = w.tape ∧ w1.output = w.output := by rcases hw1 with rfl | rfl <;> exact ⟨rfl, rfl, rfl⟩
    have hg : w.grownBy (setBlock w1 r (.mapIter (some b) since (seen.push e.born) cl)) (some r) := ⟨hos.1, hos.2.1, hos.2.2, by rw [hsize]; exact Nat.le_refl _, fun i _ hi => by rw [hb.2 i fun e => hi (by rw [e]), hw1h]⟩
    refine H.at3 (b := b) (r := r) (Array.getElem?_eq_some_iff.1 h1).1 (Array.getElem?_eq_some_iff.1 h4).1 ?_ hg ?_
    · rintro u hu ⟨es', cl', since', seen', c0', g1, _, _, g4, _⟩
      rcases hu with hu | hu
      · rw [hu] at g1; cases g1
      · rw [hu] at g4; cases g4
    · intro u hu1 hu2
      refine ⟨es, cl, since, seen.push e.born, cl, ?_, h2, h3, hu2.trans hb.1, h5, ?_, hrem, fun q hq => ?_⟩
      · rw [hu1, hb.2 b hne', hw1h]; exact h1
      · exact ⟨h6.2, h6.2⟩
      · cases hq; exact ⟨rfl, seen, e, rfl, hes, hep⟩
theorem r_entry {b r : Nat} {m rem : List (κ × ν)} {p : κ × ν} (hx : ev n ρ x = .pointer (some ⟨r, 0, none⟩)) (H : MpW E b r m rem (some p) w)
    (hk : R P n ops l k (updo ρ dst (.tuple #[E.ke p.1, E.ve p.2])) w)
    (hw : wn n ops ρ ⟨dst, .entry x, ty, pos, after, g⟩ = true := by rfl) : R P n ops (⟨dst, .entry x, ty, pos, after, g⟩ :: l) k ρ w := by
  obtain ⟨es, cl, since, seen, c0, h1, h2, h3, h4, h5, h6, h7, h8⟩ := H
  obtain ⟨hc, s0, e, rfl, he, hep⟩ := h8 p rfl
  subst hc
  have hr := run_entry_at (P := P) w r b since s0 es _ e h4 h1 he h3.2.1
  have h9 : e.key = E.ke p.1 := congrArg Prod.fst hep
  have h10 : e.val = E.ve p.2 := congrArg Prod.snd hep
  exact r_val (by simp [execOp, hx, hr, h9, h10]) hw hk
/-! ### an array that is built -/
def ArT (P : Program) (t m : Nat) (z : List Value) : Prop := ∃ c e, P.underlying t = some (.array c e) ∧ (∀ w, (sizeOf e).run P w = .ok m w) ∧ ∀ w, ∃ zv, (zeroValue t).run P w = .ok zv w ∧ zv.cells = z.toArray
theorem r_buildA {t m : Nat} {z : List Value} {parts : List (Nat × Operand)} (cs : List Value) (hT : ArT P t m z) (hc : fillL (fun i => some (i * m, m)) z (parts.map fun p => (p.1, ev n ρ p.2)) = some cs) (hk : R P n ops l k (updo ρ dst (.agg cs.toArray)) w) (hw : wn n ops ρ ⟨dst, .build t parts.toArray, ty, pos, after, g⟩ = true := by rfl) : R P n ops (⟨dst, .build t parts.toArray, ty, pos, after, g⟩ :: l) k ρ w := by
  obtain ⟨c, e, h1, h2, h3⟩ := hT
  obtain ⟨zv, h4, h5⟩ := h3 w
  refine r_val ?_ hw hk
  have := fill_fillL _ _ _ _ hc
  have h2' := h2 w
  simp only [execOp, Instr.build, Sem.run_bind, h4, Result.andThen_ok, run_underlying h1, h2', h5, List.map_toArray]
  rw [this]
  rfl
/-- a loop over a list whose order the machine draws -/
theorem st_loopM {c : Code} {α σ τ : Type} (f : List α → σ → Option τ) (Inv : List α → σ → (Nat → Value) → World → Prop) {t : τ} {s : σ} {xs : List α} (hl : f xs s = some t) (hi : Inv xs s ρ w)
    (step : ∀ m ys, (∀ zs, zs.length + 1 = ys.length → ∀ s ρ w, Inv zs s ρ w → f zs s = some t → L P n c k m ρ w) → ∀ s ρ w, Inv ys s ρ w → f ys s = some t → W P n c (rnd P n c k m) ρ w) : W P n (.loop c) k ρ w := by
  have key : ∀ d xs s ρ w, xs.length = d → Inv xs s ρ w → f xs s = some t → L P n c k (xs.length + 1) ρ w := by
    intro d
    induction d with
    | zero => intro xs s ρ w hd hi h; exact l_round (step _ xs (fun zs e => by omega) s ρ w hi h)
    | succ d ih => intro xs s ρ w hd hi h; exact l_round (step _ xs (fun zs e s ρ w hi hf => by have := ih zs s ρ w (by omega) hi hf; rwa [show zs.length + 1 = xs.length from e] at this) s ρ w hi h)
  exact st_loop _ (key _ xs s ρ w rfl hi hl)
end
end Go.Proofs.Ytfhekejaobmacaa
