/- The plain law of FxAdds. No program in it. -/
import Derived.Test.YtfoefkihcnenaaaGL1
set_option linter.unusedVariables false
set_option linter.unusedSimpArgs false
namespace Go.Proofs.Ytfoefkihcnenaaa
open Go

theorem within_ok (v n : Int) (h1 : 1 ≤ n) (h2 : n ≤ 1000000000000) : ∃ k, scutagekeep_Within v n = some k ∧ 0 ≤ k ∧ k < n := by
  unfold scutagekeep_Within scutagekeep_Within.j1
  have hlt : Int.tmod v n < n := Int.tmod_lt_of_pos v (by omega)
  have hgt : -n < Int.tmod v n := by
    have := Int.tmod_lt_of_pos (-v) (b := n) (by omega)
    rw [Int.neg_tmod] at this; omega
  rw [if_neg (by simp; omega), gd_true (by omega)]
  by_cases h : Int.tmod v n < 0
  · refine ⟨Int.tmod v n + n, ?_, by omega, by omega⟩
    rw [if_pos (by simpa using h), w64_id (by omega) (by omega)]
  · refine ⟨Int.tmod v n, ?_, by omega, by omega⟩
    rw [if_neg (by simpa using h)]
theorem amount_ok (n : Int) : ∃ k, scutageplay_Amount n = some k := by
  unfold scutageplay_Amount
  obtain ⟨a, ha, _⟩ := within_ok (w64 (Int.tdiv n 23)) 5 (by omega) (by omega)
  obtain ⟨b, hb, _⟩ := within_ok (w64 (Int.tdiv n 23)) 200000000001 (by omega) (by omega)
  obtain ⟨c, hc, _⟩ := within_ok n 4001 (by omega) (by omega)
  rw [ha, hb, hc]
  simp only [Option.bind_some]
  split
  · exact ⟨_, rfl⟩
  split
  · exact ⟨_, rfl⟩
  split
  · exact ⟨_, rfl⟩
  split <;> exact ⟨_, rfl⟩
theorem items_loop (ks am : List Int) (most : Int) (hm : most ≤ 100) : ∀ (fuel : Nat) (xs : List api_Item) (v : Int), (xs.length : Int) = v → v ≤ most → (most - v).toNat < fuel → (∀ x ∈ xs, 0 ≤ x.Kind ∧ x.Kind < 9) →
    ∃ ys, scutagelaw25_items.l1 ks am most fuel (xs, v) = some ys ∧ (ys.length : Int) ≤ most ∧ ∀ x ∈ ys, 0 ≤ x.Kind ∧ x.Kind < 9
  | 0, xs, v, _, _, h, _ => by omega
  | fuel + 1, xs, v, hl, hv, hf, hk => by
    rw [scutagelaw25_items.l1]
    have stop : ∃ ys, (some xs : Option (List api_Item)) = some ys ∧ (ys.length : Int) ≤ most ∧ ∀ x ∈ ys, 0 ≤ x.Kind ∧ x.Kind < 9 := ⟨xs, rfl, by omega, hk⟩
    unfold scutagelaw25_items.j1
    by_cases h1 : v < (ks.length : Int)
    · rw [if_pos (by simpa using h1)]
      by_cases h2 : v < (am.length : Int)
      · rw [if_pos (by simpa using h2)]
        by_cases h3 : v < most
        · rw [if_pos (by simpa using h3), gd_true (by omega)]
          obtain ⟨k, hk1, hk2, hk3⟩ := within_ok (rd ks v) 9 (by omega) (by omega)
          obtain ⟨a, ha⟩ := amount_ok (rd am v)
          rw [hk1, Option.bind_some, gd_true (by omega), ha, Option.bind_some, gd_true (fit_small (by simp; omega)), w64_id (by omega) (by omega)]
          refine items_loop ks am most hm fuel _ _ (by simp; omega) (by omega) (by omega) fun x hx => ?_
          rcases List.mem_append.1 hx with hx | hx
          · exact hk x hx
          · simp at hx; subst hx; exact ⟨hk2, hk3⟩
        · rw [if_neg (by simpa using h3)]; exact stop
      · rw [if_neg (by simpa using h2), if_neg (by simp)]; exact stop
    · rw [if_neg (by simpa using h1), if_neg (by simp)]; exact stop
theorem items_ok (ks am : List Int) (most : Int) (h0 : 0 ≤ most) (hm : most ≤ 100) : ∃ ys, scutagelaw25_items ks am most = some ys ∧ (ys.length : Int) ≤ most ∧ ∀ x ∈ ys, 0 ≤ x.Kind ∧ x.Kind < 9 := by
  obtain ⟨ys, h, h2⟩ := items_loop ks am most hm FUEL [] 0 rfl h0 (by simp only [FUEL]; omega) (by simp)
  exact ⟨ys, by rw [scutagelaw25_items, h]; rfl, h2⟩
theorem grow_ok (n : Int) (h0 : 0 ≤ n) (h1 : n ≤ 1000) : slices_Grow_api_Item_nil0 n = some [] := by
  unfold slices_Grow_api_Item_nil0 slices_Grow_api_Item_nil0.j1
  rw [if_neg (by simp; omega), Int.sub_zero, w64_id (by omega) (by omega)]
  by_cases h : n > 0
  · rw [if_pos (by simpa using h), gd_true ⟨h0, fit_small (by omega)⟩, gd_true (by simp; omega)]
    simp [sb]
  · rw [if_neg (by simpa using h)]
theorem concat_ok (a b : List api_Item) (ha : a.length ≤ 100) (hb : b.length ≤ 100) : slices_Concat_api_Item_elems0 a b = some (a ++ b) := by
  unfold slices_Concat_api_Item_elems0
  rw [Int.zero_add, w64_id (x := (a.length : Int)) (by omega) (by omega), w64_id (by omega) (by omega), if_neg (by simp), if_neg (by simp; omega), grow_ok _ (by omega) (by omega), Option.bind_some, gd_true (fit_small (by simp; omega)), gd_true (fit_small (by simp; omega))]
  rfl

theorem wakes_ok : scutagelaw25_wakes = some true := by decide +kernel

/-! ### kinds -/
def klt (a b : api_Item) : Bool := decide (a.Kind < b.Kind)
theorem klt_t {a b : api_Item} : klt a b = true ↔ a.Kind < b.Kind := by simp only [klt, decide_eq_true_eq]
theorem klt_f {a b : api_Item} : klt a b = false ↔ ¬ a.Kind < b.Kind := by simp only [klt, decide_eq_false_iff_not]
theorem kord : Ord klt where
  irr := fun x => by rw [klt_f]; omega
  trans := fun x y z => by simp only [klt_t]; omega
  neg := fun x y z => by simp only [klt_f]; omega
def kcm : (api_Item × api_Item) → Option Int := fun x => fx_Add_c2 x.1 x.2
theorem kcmp (x y : api_Item) : ∃ r, kcm (x, y) = some r ∧ decide (r < 0) = klt x y := by
  simp only [kcm, fx_Add_c2, cmp_Compare_int, cmp_isNaN_int, Option.bind_some]
  rw [if_neg (by simp), if_neg (by simp)]
  by_cases h : x.Kind < y.Kind
  · exact ⟨-1, by simp [h], by simp [h, klt]⟩
  · by_cases h2 : x.Kind > y.Kind
    · exact ⟨1, by simp [h, h2], by simp [h, klt]⟩
    · exact ⟨0, by simp [h, h2], by simp [h, klt]⟩
def Dst (L : List api_Item) : Prop := L.Pairwise (fun a b => a.Kind ≠ b.Kind)
theorem Dst.perm {L R : List api_Item} (h : Dst R) (p : L.Perm R) : Dst L := (List.Perm.pairwise_iff (R := fun a b : api_Item => a.Kind ≠ b.Kind) (fun h e => h e.symm) p).2 h
theorem srt_dst {R : List api_Item} (h : Srt klt R) : Dst R := List.Pairwise.imp (fun {a b} h => by rw [klt_t] at h; omega) h
theorem sortD : ∀ (L : List api_Item), Dst L → ∃ R, R.Perm L ∧ Srt klt R
  | [], _ => ⟨[], List.Perm.refl _, List.Pairwise.nil⟩
  | x :: L, h => by
    obtain ⟨R, p, s⟩ := sortD L (List.pairwise_cons.1 h).2
    refine ⟨ins klt x R, (ins_perm x R).trans ((List.perm_cons x).2 p), ins_srt kord s fun y hy => ?_⟩
    have := (List.pairwise_cons.1 h).1 y (p.mem_iff.1 hy)
    rw [klt_t, klt_t]; omega
theorem srt_len : ∀ {R : List api_Item} {lo : Int}, Srt klt R → (∀ x ∈ R, lo ≤ x.Kind ∧ x.Kind < 9) → lo ≤ 9 → (R.length : Int) ≤ 9 - lo
  | [], lo, _, _, h => by simp; omega
  | x :: R, lo, h, hb, _ => by
    have hx := hb x (by simp)
    have := srt_len (R := R) (lo := x.Kind + 1) (List.pairwise_cons.1 h).2 (fun z hz => ⟨by have := (List.pairwise_cons.1 h).1 z hz; rw [klt_t] at this; omega, (hb z (by simp [hz])).2⟩) (by omega)
    simp; omega
theorem dst_len {L : List api_Item} (h : Dst L) (hb : ∀ x ∈ L, 0 ≤ x.Kind ∧ x.Kind < 9) : L.length ≤ 9 := by
  obtain ⟨R, p, s⟩ := sortD L h
  have := srt_len (lo := 0) s (fun x hx => hb x (p.mem_iff.1 hx)) (by omega)
  have := p.length_eq
  omega
def ks (k : Int) : List api_Item → Int
  | [] => 0
  | x :: L => (if x.Kind = k then x.Amount else 0) + ks k L
theorem ks_app (k : Int) (A B : List api_Item) : ks k (A ++ B) = ks k A + ks k B := by
  induction A with
  | nil => simp [ks]
  | cons x A ih => simp only [List.cons_append, ks, ih]; omega
theorem ks_perm (k : Int) {A B : List api_Item} (h : A.Perm B) : ks k A = ks k B := by
  induction h with
  | nil => rfl
  | cons x _ ih => simp only [ks, ih]
  | swap x y l => simp only [ks]; omega
  | trans _ _ ih1 ih2 => rw [ih1, ih2]
theorem ks_zero {k : Int} : ∀ {A : List api_Item}, (∀ x ∈ A, x.Kind ≠ k) → ks k A = 0
  | [], _ => rfl
  | x :: A, h => by
    simp only [ks]
    rw [if_neg (h x (by simp)), ks_zero fun z hz => h z (List.mem_cons_of_mem _ hz)]; rfl
theorem ks_mem {A : List api_Item} (h : Dst A) {x : api_Item} (hx : x ∈ A) : ks x.Kind A = x.Amount := by
  obtain ⟨B, C, rfl⟩ := List.append_of_mem hx
  obtain ⟨h1, h2, h3⟩ := List.pairwise_append.1 h
  rw [ks_app]
  simp only [ks]
  rw [ks_zero fun z hz => h3 z hz x (by simp), ks_zero fun z hz => ((List.pairwise_cons.1 h2).1 z hz).symm]; simp
def km (k : Int) (L : List api_Item) : Prop := ∃ x ∈ L, x.Kind = k
theorem km_app {k : Int} {A B : List api_Item} : km k (A ++ B) ↔ km k A ∨ km k B := by
  constructor
  · rintro ⟨x, hx, e⟩
    rcases List.mem_append.1 hx with h | h
    · exact .inl ⟨x, h, e⟩
    · exact .inr ⟨x, h, e⟩
  · rintro (⟨x, hx, e⟩ | ⟨x, hx, e⟩)
    · exact ⟨x, List.mem_append.2 (.inl hx), e⟩
    · exact ⟨x, List.mem_append.2 (.inr hx), e⟩
theorem km_one {k : Int} {y : api_Item} : km k [y] ↔ y.Kind = k := by simp [km]
theorem km_cons {k : Int} {y : api_Item} {L : List api_Item} : km k (y :: L) ↔ y.Kind = k ∨ km k L := by simp [km]
theorem km_perm {k : Int} {A B : List api_Item} (h : A.Perm B) : km k A ↔ km k B := by simp only [km, h.mem_iff]
theorem uniq : ∀ {R S : List api_Item}, Srt klt R → Srt klt S → (∀ k, km k R ↔ km k S) → (∀ k, ks k R = ks k S) → R = S := by
  intro R S hR hS h1 h2
  refine sorted_eq kord (hR.le kord) hS ?_
  have hh : ∀ {R S : List api_Item}, Srt klt R → Srt klt S → (∀ k, km k R ↔ km k S) → (∀ k, ks k R = ks k S) → ∀ x ∈ R, x ∈ S := by
    intro R S hR hS h1 h2 x hx
    obtain ⟨z, hz, e⟩ := (h1 x.Kind).1 ⟨x, hx, rfl⟩
    have e2 : z.Amount = x.Amount := by
      have a1 := ks_mem (srt_dst hR) hx
      have a2 := ks_mem (srt_dst hS) hz
      rw [e] at a2; rw [← a2, ← h2, a1]
    have : x = z := by cases x; cases z; simp at e e2; simp [e, e2]
    rw [this]; exact hz
  have nd : ∀ {R : List api_Item}, Srt klt R → R.Nodup := fun h => List.Pairwise.imp (fun {a b} h e => by rw [klt_t, e] at h; omega) h
  refine (List.perm_ext_iff_of_nodup (nd hR) (nd hS)).2 fun x => ⟨hh hR hS h1 h2 x, hh hS hR (fun k => (h1 k).symm) (fun k => (h2 k).symm) x⟩

/-! ### Add -/
def Bnd (n : Nat) (L : List api_Item) : Prop := ∀ x ∈ L, (-1000000000 * (n : Int) ≤ x.Amount ∧ x.Amount ≤ 1000000000 * (n : Int)) ∧ 0 ≤ x.Kind ∧ x.Kind < 9
theorem add_loop : ∀ (ys dn : List api_Item) (n : Nat) (L : List api_Item) (i : Int), n + ys.length ≤ 100 → Bnd 1 ys → Dst L → Bnd n L → (∀ k, km k L ↔ km k dn) → (∀ k, ks k L = ks k dn) →
    ∃ L', Dst L' ∧ Bnd (n + ys.length) L' ∧ (∀ k, km k L' ↔ km k (dn ++ ys)) ∧ (∀ k, ks k L' = ks k (dn ++ ys)) ∧ fx_Add.l1 ys (i, L) = some L'
  | [], dn, n, L, i, _, _, hd, hb, h1, h2 => ⟨L, hd, hb, by simpa using h1, by simpa using h2, rfl⟩
  | y :: ys, dn, n, L, i, hn, hy, hd, hb, h1, h2 => by
    simp only [List.length_cons] at hn
    have hyb := hy y (by simp)
    have hlen := dst_len hd fun x hx => (hb x hx).2
    have hmono : ∀ x : api_Item, ((-1000000000 * (n : Int) ≤ x.Amount ∧ x.Amount ≤ 1000000000 * (n : Int)) ∧ 0 ≤ x.Kind ∧ x.Kind < 9) → ((-1000000000 * ((n + 1 : Nat) : Int) ≤ x.Amount ∧ x.Amount ≤ 1000000000 * ((n + 1 : Nat) : Int)) ∧ 0 ≤ x.Kind ∧ x.Kind < (9 : Int)) := fun (x : api_Item) h => by omega
    have goal : ∀ L', Dst L' → Bnd (n + 1) L' → (∀ k, km k L' ↔ km k L ∨ y.Kind = k) → (∀ k, ks k L' = ks k L + (if y.Kind = k then y.Amount else 0)) → fx_Add.l1 (y :: ys) (i, L) = fx_Add.l1 ys (i + 1, L') →
        ∃ L', Dst L' ∧ Bnd (n + (y :: ys).length) L' ∧ (∀ k, km k L' ↔ km k (dn ++ y :: ys)) ∧ (∀ k, ks k L' = ks k (dn ++ y :: ys)) ∧ fx_Add.l1 (y :: ys) (i, L) = some L' := by
      intro L' g1 g2 g3 g4 g5
      obtain ⟨L2, k1, k2, k3, k4, k5⟩ := add_loop ys (dn ++ [y]) (n + 1) L' (i + 1) (by omega) (fun x hx => hy x (List.mem_cons_of_mem _ hx)) g1 g2 (fun k => by rw [g3, h1, km_app, km_one]) (fun k => by rw [g4, h2, ks_app]; simp [ks])
      refine ⟨L2, k1, ?_, fun k => by simpa using k3 k, fun k => by simpa using k4 k, g5.trans k5⟩
      rw [List.length_cons, show n + (ys.length + 1) = n + 1 + ys.length by omega]; exact k2
    have hidx := index_api_Item (f := fun x => fx_Add_c1 x y) (p := fun x => x.Kind == y.Kind) L fun x _ => rfl
    rcases idx_cases (fun x : api_Item => x.Kind == y.Kind) L 0 with ⟨C, x, D, rfl, hx, hA, hr⟩ | ⟨hA, hr⟩
    · rw [hr, Int.zero_add] at hidx
      have hxk : x.Kind = y.Kind := by simpa using hx
      have hxb := hb x (by simp)
      refine goal (C ++ ⟨x.Kind, x.Amount + y.Amount⟩ :: D) ?_ ?_ ?_ ?_ ?_
      · obtain ⟨q1, q2, q3⟩ := List.pairwise_append.1 hd
        refine List.pairwise_append.2 ⟨q1, List.pairwise_cons.2 ⟨fun b hb' => (List.pairwise_cons.1 q2).1 b hb', (List.pairwise_cons.1 q2).2⟩, fun a ha b hb' => ?_⟩
        rcases List.mem_cons.1 hb' with rfl | hb'
        · exact q3 a ha x (by simp)
        · exact q3 a ha b (by simp [hb'])
      · intro q hq
        rcases List.mem_append.1 hq with h | h
        · exact hmono q (hb q (by simp [h]))
        · rcases List.mem_cons.1 h with rfl | h
          · simp only; omega
          · exact hmono q (hb q (by simp [h]))
      · intro k
        rw [km_app, km_app, km_cons, km_cons]
        constructor
        · rintro (h | h | h)
          · exact .inl (.inl h)
          · exact .inl (.inr (.inl h))
          · exact .inl (.inr (.inr h))
        · rintro ((h | h | h) | h)
          · exact .inl h
          · exact .inr (.inl h)
          · exact .inr (.inr h)
          · exact .inr (.inl (hxk.trans h))
      · intro k
        rw [ks_app, ks_app]
        simp only [ks, hxk]
        split <;> omega
      · rw [fx_Add.l1, hidx, Option.bind_some, if_neg (by simp), fx_Add.j1, gd_true (by simp; omega), rd_mid, set_mid, w64_id (by omega) (by omega)]
    · rw [hr] at hidx
      have hno : ∀ z ∈ L, z.Kind ≠ y.Kind := fun z hz => by simpa using hA z hz
      refine goal (L ++ [y]) ?_ ?_ ?_ ?_ ?_
      · exact List.pairwise_append.2 ⟨hd, List.pairwise_singleton _ _, fun a ha b hb' => by simp at hb'; subst hb'; exact hno a ha⟩
      · intro q hq
        rcases List.mem_append.1 hq with h | h
        · exact hmono q (hb q h)
        · simp at h; subst h; omega
      · intro k; rw [km_app, km_one]
      · intro k; rw [ks_app]; simp [ks]
      · rw [fx_Add.l1, hidx, Option.bind_some, if_pos (by simp), gd_true (fit_small (by simp; omega)), fx_Add.j1, gd_true (by simp; omega)]
        have e1 : rd (L ++ [(⟨y.Kind, 0⟩ : api_Item)]) (L.length : Int) = ⟨y.Kind, 0⟩ := rd_mid L [] _
        have e2 := set_mid L [] (⟨y.Kind, 0⟩ : api_Item) (⟨y.Kind, w64 (0 + y.Amount)⟩ : api_Item)
        rw [e1, e2, w64_id (by omega) (by omega), Int.zero_add]
theorem add_ok (a b : List api_Item) (ha : a.length ≤ 50) (hb : b.length ≤ 50) (h1 : Bnd 1 a) (h2 : Bnd 1 b) : ∃ R, fx_Add a b = some R ∧ R.length ≤ 9 ∧ Srt klt R ∧ Bnd (a.length + b.length) R ∧ (∀ k, km k R ↔ km k (a ++ b)) ∧ ∀ k, ks k R = ks k (a ++ b) := by
  obtain ⟨L, g1, g2, g3, g4, g5⟩ := add_loop (a ++ b) [] 0 [] 0 (by simp; omega) (fun x hx => by
    rcases List.mem_append.1 hx with h | h
    · exact h1 x h
    · exact h2 x h) List.Pairwise.nil (by intro x hx; cases hx) (fun k => Iff.rfl) (fun k => rfl)
  have hlen := dst_len g1 fun x hx => (g2 x hx).2
  obtain ⟨S, k1, k2, k3⟩ := sortFunc_api_Item kord kcmp L (by omega)
  have k1' : slices_SortFunc_api_Item L (fun x => fx_Add_c2 x.1 x.2) = some S := k1
  obtain ⟨R, p, s⟩ := sortD L g1
  have e := sorted_eq kord k3 s (k2.trans p.symm)
  subst e
  refine ⟨S, ?_, by rw [k2.length_eq]; exact hlen, s, ?_, fun k => (km_perm k2).trans (by simpa using g3 k), fun k => (ks_perm k k2).trans (by simpa using g4 k)⟩
  · rw [fx_Add, concat_ok a b (by omega) (by omega), Option.bind_some, g5, Option.bind_some, k1']; rfl
  · intro x hx
    have := g2 x (k2.mem_iff.1 hx)
    simpa using this

/-! ### the law's own loops -/
def md (x : api_Item) : api_Item := ⟨x.Kind, Int.tmod x.Amount 1000000⟩
theorem md_bound (x : api_Item) : -1000000 < (md x).Amount ∧ (md x).Amount < 1000000 := by
  have h1 := Int.tmod_lt_of_pos x.Amount (b := 1000000) (by omega)
  have h2 := Int.tmod_lt_of_pos (-x.Amount) (b := 1000000) (by omega)
  rw [Int.neg_tmod] at h2
  simp only [md]; omega
/-- the map's entries as items -/
def its (m : List (Int × Int)) : List api_Item := m.map fun p => ⟨p.1, p.2⟩
theorem mget_none {m : List (Int × Int)} {x : Int} (h : mget m x = none) : ∀ p ∈ m, p.1 ≠ x := by
  induction m with
  | nil => simp
  | cons p m ih =>
    obtain ⟨k, u⟩ := p
    simp only [mget] at h
    by_cases hk : k = x
    · rw [if_pos hk] at h; cases h
    · rw [if_neg hk] at h
      intro q hq
      rcases List.mem_cons.1 hq with rfl | hq
      · exact hk
      · exact ih h q hq
theorem mput_keys (m : List (Int × Int)) (x v : Int) : ∀ p ∈ mput m x v, p.1 = x ∨ ∃ q ∈ m, q.1 = p.1 := by
  induction m with
  | nil => intro p hp; simp [mput] at hp; subst hp; exact .inl rfl
  | cons p m ih =>
    obtain ⟨k, u⟩ := p
    intro q hq
    simp only [mput] at hq
    by_cases hk : k = x
    · rw [if_pos hk] at hq
      rcases List.mem_cons.1 hq with rfl | hq
      · exact .inl hk
      · exact .inr ⟨q, List.mem_cons_of_mem _ hq, rfl⟩
    · rw [if_neg hk] at hq
      rcases List.mem_cons.1 hq with rfl | hq
      · exact .inr ⟨(k, u), by simp, rfl⟩
      · rcases ih q hq with h | ⟨r, hr, e⟩
        · exact .inl h
        · exact .inr ⟨r, List.mem_cons_of_mem _ hr, e⟩
theorem mput_dst {m : List (Int × Int)} (h : Dst (its m)) (x v : Int) : Dst (its (mput m x v)) := by
  induction m with
  | nil => simp only [mput, its, List.map_cons, List.map_nil]; exact List.pairwise_singleton _ _
  | cons p m ih =>
    obtain ⟨k, u⟩ := p
    obtain ⟨h1, h2⟩ := List.pairwise_cons.1 h
    simp only [mput]
    by_cases hk : k = x
    · rw [if_pos hk]
      exact List.pairwise_cons.2 ⟨fun z hz => h1 z hz, h2⟩
    · rw [if_neg hk]
      refine List.pairwise_cons.2 ⟨fun z hz => ?_, ih h2⟩
      obtain ⟨q, hq, rfl⟩ := List.mem_map.1 hz
      rcases mput_keys m x v q hq with e | ⟨r, hr, e⟩
      · show k ≠ q.1; rw [e]; exact hk
      · show k ≠ q.1; rw [← e]; exact h1 ⟨r.1, r.2⟩ (List.mem_map.2 ⟨r, hr, rfl⟩)
theorem mput_ks (m : List (Int × Int)) (h : Dst (its m)) (x v : Int) : ∀ k, ks k (its (mput m x (mgetD m x + v))) = ks k (its m) + if x = k then v else 0 := by
  induction m with
  | nil => intro k; simp only [mput, its, List.map_cons, List.map_nil, ks, mgetD, mget]; simp
  | cons p m ih =>
    obtain ⟨j, u⟩ := p
    intro k
    simp only [mput, mgetD, mget]
    by_cases hj : j = x
    · subst hj
      rw [if_pos rfl, if_pos rfl]
      simp only [its, List.map_cons, ks, Option.getD_some]
      split <;> omega
    · rw [if_neg hj, if_neg hj]
      have := ih (List.pairwise_cons.1 h).2 k
      simp only [mgetD] at this
      simp only [its, List.map_cons, ks] at this ⊢
      rw [this]; omega
theorem mput_km (m : List (Int × Int)) (x v : Int) : ∀ k, km k (its (mput m x v)) ↔ km k (its m) ∨ x = k := by
  induction m with
  | nil => intro k; simp [mput, its, km]
  | cons p m ih =>
    obtain ⟨j, u⟩ := p
    intro k
    have hc : ∀ (q : Int × Int) (m : List (Int × Int)), km k (its (q :: m)) ↔ q.1 = k ∨ km k (its m) := by
      intro q m; simp [its, km]
    simp only [mput]
    by_cases hj : j = x
    · rw [if_pos hj, hc, hc]
      simp only [hj]
      constructor
      · rintro (h | h)
        · exact .inr h
        · exact .inl (.inr h)
      · rintro ((h | h) | h)
        · exact .inl h
        · exact .inr h
        · exact .inl h
    · rw [if_neg hj, hc, hc, ih]
      constructor
      · rintro (h | h | h)
        · exact .inl (.inl h)
        · exact .inl (.inr h)
        · exact .inr h
      · rintro ((h | h) | h)
        · exact .inl h
        · exact .inr (.inl h)
        · exact .inr (.inr h)
theorem mgetD_ks {m : List (Int × Int)} (h : Dst (its m)) (x : Int) : mgetD m x = ks x (its m) := by
  induction m with
  | nil => rfl
  | cons p m ih =>
    obtain ⟨j, u⟩ := p
    have h2 := (List.pairwise_cons.1 h).2
    simp only [mgetD, mget, its, List.map_cons, ks]
    by_cases hj : j = x
    · rw [if_pos hj, if_pos hj]
      have : ks x (its m) = 0 := ks_zero fun z hz => by
        have := (List.pairwise_cons.1 h).1 z hz
        simp only at this; omega
      simp only [its] at this
      rw [this]; simp
    · rw [if_neg hj, if_neg hj]
      have := ih h2
      simp only [mgetD, its] at this
      rw [this]; omega
theorem ks_bd (k : Int) : ∀ (L : List api_Item), (∀ x ∈ L, -1000000 < x.Amount ∧ x.Amount < 1000000) → -1000000 * (L.length : Int) ≤ ks k L ∧ ks k L ≤ 1000000 * (L.length : Int)
  | [], _ => by simp [ks]
  | x :: L, h => by
    have := h x (by simp)
    have := ks_bd k L fun z hz => h z (List.mem_cons_of_mem _ hz)
    simp only [ks, List.length_cons]
    split <;> omega
theorem l1_ok : ∀ (ys dn pr : List api_Item) (mm : List (Int × Int)), dn.length + ys.length + pr.length ≤ 60 → (∀ y ∈ ys, 0 ≤ y.Kind ∧ y.Kind < 9) → Dst (its mm) → (∀ x ∈ its mm, 0 ≤ x.Kind ∧ x.Kind < 9) → (∀ k, km k (its mm) ↔ km k (pr ++ dn)) → (∀ k, ks k (its mm) = ks k (pr ++ dn)) → (∀ x ∈ pr ++ dn, -1000000 < x.Amount ∧ x.Amount < 1000000) →
    ∃ mm', scutagelaw25_FxAdds.l1 ys ((dn.length : Int), dn ++ ys, mm) = some (mm', dn ++ ys.map md) ∧ Dst (its mm') ∧ (∀ x ∈ its mm', 0 ≤ x.Kind ∧ x.Kind < 9) ∧ (∀ k, km k (its mm') ↔ km k (pr ++ (dn ++ ys.map md))) ∧ (∀ k, ks k (its mm') = ks k (pr ++ (dn ++ ys.map md)))
  | [], dn, pr, mm, _, _, hd, hr, h1, h2, _ => ⟨mm, by simp [scutagelaw25_FxAdds.l1], hd, hr, by simpa using h1, by simpa using h2⟩
  | y :: ys, dn, pr, mm, hl, hy, hd, hr, h1, h2, hb => by
    simp only [List.length_cons] at hl
    have hyk := hy y (by simp)
    have hmb := md_bound y
    have hlen := dst_len hd hr
    have hml : mm.length ≤ 9 := by simpa [its] using hlen
    have hks := ks_bd y.Kind (pr ++ dn) hb
    simp only [List.length_append] at hks
    have hg : mgetD mm y.Kind = ks y.Kind (pr ++ dn) := by rw [mgetD_ks hd, h2]
    have hw : w64 (mgetD mm y.Kind + (md y).Amount) = mgetD mm y.Kind + (md y).Amount := w64_id (by omega) (by omega)
    rw [scutagelaw25_FxAdds.l1, gd_true (by simp; omega), rd_mid, set_mid]
    rw [show (⟨y.Kind, Int.tmod y.Amount 1000000⟩ : api_Item) = md y from rfl, rd_mid, gd_true (by simp; omega), show (md y).Kind = y.Kind from rfl, gd_true (by unfold i64ok; omega), hw, gd_true ⟨by unfold i64ok; omega, by unfold i64ok; omega, by omega⟩]
    obtain ⟨mm', g1, g2, g3, g4, g5⟩ := l1_ok ys (dn ++ [md y]) pr (mput mm y.Kind (mgetD mm y.Kind + (md y).Amount)) (by simp; omega) (fun z hz => hy z (List.mem_cons_of_mem _ hz)) (mput_dst hd _ _) (fun x hx => by
        obtain ⟨q, hq, rfl⟩ := List.mem_map.1 hx
        rcases mput_keys _ _ _ q hq with e | ⟨r, hr', e⟩
        · show 0 ≤ q.1 ∧ q.1 < 9; omega
        · show 0 ≤ q.1 ∧ q.1 < 9; rw [← e]; exact hr ⟨r.1, r.2⟩ (List.mem_map.2 ⟨r, hr', rfl⟩))
      (fun k => by rw [mput_km, h1, ← List.append_assoc, km_app (A := pr ++ dn), km_one]; rfl) (fun k => by rw [mput_ks mm hd, h2, ← List.append_assoc, ks_app k (pr ++ dn)]; by_cases hq : y.Kind = k <;> simp [ks, md, hq]) (fun x hx => by
        rw [← List.append_assoc] at hx
        rcases List.mem_append.1 hx with h | h
        · exact hb x h
        · simp at h; subst h; exact hmb)
    refine ⟨mm', ?_, g2, g3, by simpa using g4, by simpa using g5⟩
    have e : (((dn ++ [md y]).length : Nat) : Int) = (dn.length : Int) + 1 := by simp
    rw [e] at g1
    simpa using g1
theorem l2_ok : ∀ (ys dn pr : List api_Item) (mm : List (Int × Int)), dn.length + ys.length + pr.length ≤ 60 → (∀ y ∈ ys, 0 ≤ y.Kind ∧ y.Kind < 9) → Dst (its mm) → (∀ x ∈ its mm, 0 ≤ x.Kind ∧ x.Kind < 9) → (∀ k, km k (its mm) ↔ km k (pr ++ dn)) → (∀ k, ks k (its mm) = ks k (pr ++ dn)) → (∀ x ∈ pr ++ dn, -1000000 < x.Amount ∧ x.Amount < 1000000) →
    ∃ mm', scutagelaw25_FxAdds.l2 ys ((dn.length : Int), dn ++ ys, mm) = some (dn ++ ys.map md, mm') ∧ Dst (its mm') ∧ (∀ x ∈ its mm', 0 ≤ x.Kind ∧ x.Kind < 9) ∧ (∀ k, km k (its mm') ↔ km k (pr ++ (dn ++ ys.map md))) ∧ (∀ k, ks k (its mm') = ks k (pr ++ (dn ++ ys.map md)))
  | [], dn, pr, mm, _, _, hd, hr, h1, h2, _ => ⟨mm, by simp [scutagelaw25_FxAdds.l2], hd, hr, by simpa using h1, by simpa using h2⟩
  | y :: ys, dn, pr, mm, hl, hy, hd, hr, h1, h2, hb => by
    simp only [List.length_cons] at hl
    have hyk := hy y (by simp)
    have hmb := md_bound y
    have hlen := dst_len hd hr
    have hml : mm.length ≤ 9 := by simpa [its] using hlen
    have hks := ks_bd y.Kind (pr ++ dn) hb
    simp only [List.length_append] at hks
    have hg : mgetD mm y.Kind = ks y.Kind (pr ++ dn) := by rw [mgetD_ks hd, h2]
    have hw : w64 (mgetD mm y.Kind + (md y).Amount) = mgetD mm y.Kind + (md y).Amount := w64_id (by omega) (by omega)
    rw [scutagelaw25_FxAdds.l2, gd_true (by simp; omega), rd_mid, set_mid]
    rw [show (⟨y.Kind, Int.tmod y.Amount 1000000⟩ : api_Item) = md y from rfl, rd_mid, gd_true (by simp; omega), show (md y).Kind = y.Kind from rfl, gd_true (by unfold i64ok; omega), hw, gd_true ⟨by unfold i64ok; omega, by unfold i64ok; omega, by omega⟩]
    obtain ⟨mm', g1, g2, g3, g4, g5⟩ := l2_ok ys (dn ++ [md y]) pr (mput mm y.Kind (mgetD mm y.Kind + (md y).Amount)) (by simp; omega) (fun z hz => hy z (List.mem_cons_of_mem _ hz)) (mput_dst hd _ _) (fun x hx => by
        obtain ⟨q, hq, rfl⟩ := List.mem_map.1 hx
        rcases mput_keys _ _ _ q hq with e | ⟨r, hr', e⟩
        · show 0 ≤ q.1 ∧ q.1 < 9; omega
        · show 0 ≤ q.1 ∧ q.1 < 9; rw [← e]; exact hr ⟨r.1, r.2⟩ (List.mem_map.2 ⟨r, hr', rfl⟩))
      (fun k => by rw [mput_km, h1, ← List.append_assoc, km_app (A := pr ++ dn), km_one]; rfl) (fun k => by rw [mput_ks mm hd, h2, ← List.append_assoc, ks_app k (pr ++ dn)]; by_cases hq : y.Kind = k <;> simp [ks, md, hq]) (fun x hx => by
        rw [← List.append_assoc] at hx
        rcases List.mem_append.1 hx with h | h
        · exact hb x h
        · simp at h; subst h; exact hmb)
    refine ⟨mm', ?_, g2, g3, by simpa using g4, by simpa using g5⟩
    have e : (((dn ++ [md y]).length : Nat) : Int) = (dn.length : Int) + 1 := by simp
    rw [e] at g1
    simpa using g1
theorem l3_ok (R : List api_Item) (mm : List (Int × Int)) (hR : Srt klt R) (hb : ∀ x ∈ R, 0 ≤ x.Kind ∧ x.Kind < 9) (hl : R.length ≤ 100) (hk : ∀ x ∈ R, mgetD mm x.Kind = x.Amount) : ∀ (ys dn : List api_Item), R = dn ++ ys → scutagelaw25_FxAdds.l3 R mm ys (dn.length : Int) = some (.inr ())
  | [], dn, _ => rfl
  | y :: ys, dn, e => by
    have hy : y ∈ R := by rw [e]; simp
    have hyb := hb y hy
    have rec_ := l3_ok R mm hR hb hl hk ys (dn ++ [y]) (by rw [e]; simp)
    have e1 : (((dn ++ [y]).length : Nat) : Int) = (dn.length : Int) + 1 := by simp
    rw [e1] at rec_
    have hlen : dn.length + (ys.length + 1) = R.length := by rw [e]; simp
    have hm : (y.Amount != mgetD mm y.Kind) = false := by rw [hk y hy]; simp
    rw [scutagelaw25_FxAdds.l3]
    by_cases h0 : (dn.length : Int) > 0
    · rw [if_pos (by simpa using h0), w64_id (by omega) (by omega), gd_true (by omega)]
      rcases List.eq_nil_or_concat dn with rfl | ⟨D, z, rfl⟩
      · simp at h0
      · rw [List.concat_eq_append] at *
        have e2 : (((D ++ [z]).length : Nat) : Int) - 1 = (D.length : Int) := by simp
        have r : rd R (D.length : Int) = z := by rw [e, List.append_assoc, List.singleton_append, rd_mid]
        have hz : z.Kind < y.Kind := by
          rw [e] at hR
          have := (List.pairwise_append.1 hR).2.2 z (by simp) y (by simp)
          rwa [klt_t] at this
        rw [e2, r, if_neg (by simp; omega), gd_true (by unfold i64ok; omega), hm, scutagelaw25_FxAdds.j2, if_neg (by simp)]
        exact rec_
    · rw [if_neg (by simpa using h0), gd_true (by unfold i64ok; omega), hm, scutagelaw25_FxAdds.j2, if_neg (by simp)]
      exact rec_
theorem md_bnd {l : List api_Item} (h : ∀ x ∈ l, 0 ≤ x.Kind ∧ x.Kind < 9) : Bnd 1 (l.map md) := by
  intro x hx
  obtain ⟨y, hy, rfl⟩ := List.mem_map.1 hx
  have := md_bound y
  have := h y hy
  simp only [md] at *
  omega
theorem md_kind {l : List api_Item} (h : ∀ x ∈ l, 0 ≤ x.Kind ∧ x.Kind < 9) : ∀ x ∈ l.map md, -1000000 < x.Amount ∧ x.Amount < 1000000 := by
  intro x hx
  obtain ⟨y, hy, rfl⟩ := List.mem_map.1 hx
  exact md_bound y
theorem FxAdds_true (kinds amounts other : List Int) : scutagelaw25_FxAdds kinds amounts other = some true := by
  obtain ⟨a, a1, a2, a3⟩ := items_ok kinds amounts 15 (by omega) (by omega)
  obtain ⟨b, b1, b2, b3⟩ := items_ok other amounts 15 (by omega) (by omega)
  rw [scutagelaw25_FxAdds, a1, Option.bind_some, b1, Option.bind_some]
  obtain ⟨m1, p1, p2, p3, p4, p5⟩ := l1_ok a [] [] [] (by simp; omega) a3 List.Pairwise.nil (by simp [its]) (by simp [its]) (by simp [its]) (by simp)
  have p1' : scutagelaw25_FxAdds.l1 a (0, a, []) = some (m1, a.map md) := p1
  rw [p1', Option.bind_some]
  obtain ⟨m2, q1, q2, q3, q4, q5⟩ := l2_ok b [] (a.map md) m1 (by simp; omega) b3 p2 p3 (by simpa using p4) (by simpa using p5) (by simpa using md_kind a3)
  have q1' : scutagelaw25_FxAdds.l2 b (0, b, m1) = some (b.map md, m2) := q1
  show (scutagelaw25_FxAdds.l2 b (0, b, m1)).bind _ = _
  rw [q1', Option.bind_some]
  simp only [List.nil_append] at q4 q5
  obtain ⟨R, r1, r2, r3, r4, r5, r6⟩ := add_ok (a.map md) (b.map md) (by simp; omega) (by simp; omega) (md_bnd a3) (md_bnd b3)
  obtain ⟨S, s1, s2, s3, s4, s5, s6⟩ := add_ok (b.map md) (a.map md) (by simp; omega) (by simp; omega) (md_bnd b3) (md_bnd a3)
  have hsw := List.perm_append_comm (l₁ := b.map md) (l₂ := a.map md)
  have eS : S = R := uniq s3 r3 (fun k => by rw [s5, r5, km_perm hsw]) (fun k => by rw [s6, r6, ks_perm k hsw])
  rw [eS] at s1
  have hRb : Bnd 1 R := by
    intro x hx
    have h1 := r6 x.Kind
    rw [ks_mem (srt_dst r3) hx] at h1
    have h2 := ks_bd x.Kind (a.map md ++ b.map md) fun z hz => by
      rcases List.mem_append.1 hz with h | h
      · exact md_kind a3 z h
      · exact md_kind b3 z h
    have h3 := (r4 x hx).2
    simp only [List.length_append, List.length_map] at h2
    omega
  obtain ⟨T, t1, t2, t3, t4, t5, t6⟩ := add_ok R [] (by omega) (by simp) hRb (by intro x hx; cases hx)
  have eT : T = R := uniq t3 r3 (fun k => by rw [t5, List.append_nil]) (fun k => by rw [t6, List.append_nil])
  rw [eT] at t1
  show (fx_Add (a.map md) (b.map md)).bind _ = _
  rw [r1, Option.bind_some]
  obtain ⟨Q, u1, u2⟩ := sortD (its m2) q2
  have eQ : Q = R := uniq u2 r3 (fun k => by rw [km_perm u1, q4, r5]) (fun k => by rw [ks_perm k u1, q5, r6])
  have hlen : m2.length = R.length := by rw [← eQ, u1.length_eq]; simp [its]
  have h3 := l3_ok R m2 r3 (fun x hx => (r4 x hx).2) (by omega) (fun x hx => by rw [mgetD_ks q2, q5, ← r6, ks_mem (srt_dst r3) hx]) R [] rfl
  have h3' : scutagelaw25_FxAdds.l3 R m2 R 0 = some (.inr ()) := h3
  rw [h3', Option.bind_some]
  show (if ((R.length : Int) == (m2.length : Int)) = true then _ else _) = _
  rw [if_pos (by simp [hlen]), s1, Option.bind_some, same_api_Item R (by omega), Option.bind_some, if_pos rfl, t1, Option.bind_some, same_api_Item R (by omega), Option.bind_some, if_pos rfl, wakes_ok]
  rfl
end Go.Proofs.Ytfoefkihcnenaaa
