/- The plain law of BucketSums. No program in it. -/
import Derived.Test.YtcmhekibcbpajaaEL1
set_option linter.unusedVariables false
set_option linter.unusedSimpArgs false
namespace Go.Proofs.Ytcmhekibcbpajaa
open Go

theorem within_ok (v n : Int) (h1 : 1 ≤ n) (h2 : n ≤ 1000000000000) : ∃ k, scutagekeep_Within v n = some k ∧ 0 ≤ k ∧ k < n := by
  unfold scutagekeep_Within scutagekeep_Within.j1
  have hlt : Int.tmod v n < n := Int.tmod_lt_of_pos v (by omega)
  have hgt : -n < Int.tmod v n := by
    have := Int.tmod_lt_of_pos (-v) (b := n) (by omega)
    rw [Int.neg_tmod] at this; omega
  rw [if_neg (by simp; omega), gd_true (by omega)]
  by_cases h : Int.tmod v n < 0
  · refine ⟨Int.tmod v n + n, ?_, by omega, by omega⟩
    rw [if_pos (by simpa using h), w64_id (by omega) (by omega)]
  · refine ⟨Int.tmod v n, ?_, by omega, by omega⟩
    rw [if_neg (by simpa using h)]
theorem amount_ok (n : Int) : ∃ k, scutageplay_Amount n = some k := by
  unfold scutageplay_Amount
  obtain ⟨a, ha, _⟩ := within_ok (w64 (Int.tdiv n 23)) 5 (by omega) (by omega)
  obtain ⟨b, hb, _⟩ := within_ok (w64 (Int.tdiv n 23)) 200000000001 (by omega) (by omega)
  obtain ⟨c, hc, _⟩ := within_ok n 4001 (by omega) (by omega)
  rw [ha, hb, hc]
  simp only [Option.bind_some]
  split
  · exact ⟨_, rfl⟩
  split
  · exact ⟨_, rfl⟩
  split
  · exact ⟨_, rfl⟩
  split <;> exact ⟨_, rfl⟩
theorem wakes_ok : scutagelaw10_wakes = some true := by decide +kernel
def Mny (n : Int) : Prop := -100000000000 ≤ n ∧ n ≤ 100000000000
instance (n : Int) : Decidable (Mny n) := inferInstanceAs (Decidable (_ ∧ _))
theorem Mny_def {n : Int} : Mny n ↔ -100000000000 ≤ n ∧ n ≤ 100000000000 := Iff.rfl
theorem money_ok (n : Int) : rate_Money n = some (decide (Mny n)) := by
  unfold rate_Money rate_Money.j1
  by_cases h : n ≥ -100000000000
  · rw [if_pos (by simpa using h)]; congr 1; rw [decide_eq_decide, Mny_def]; omega
  · rw [if_neg (by simpa using h)]; congr 1; symm; rw [decide_eq_false_iff_not, Mny_def]; omega
theorem rmoney_ok (n : Int) : scutageref01_Money n = some (decide (Mny n)) := by
  unfold scutageref01_Money scutageref01_Money.j1
  by_cases h : n ≥ -100000000000
  · rw [if_pos (by simpa using h)]; congr 1; rw [decide_eq_decide, Mny_def]; omega
  · rw [if_neg (by simpa using h)]; congr 1; symm; rw [decide_eq_false_iff_not, Mny_def]; omega
def BV (c y : Int) : Prop := 1 ≤ c ∧ c ≤ 9 ∧ 0 ≤ y ∧ y ≤ 99
instance (c y : Int) : Decidable (BV c y) := inferInstanceAs (Decidable (_ ∧ _))
theorem BV_def {c y : Int} : BV c y ↔ 1 ≤ c ∧ c ≤ 9 ∧ 0 ≤ y ∧ y ≤ 99 := Iff.rfl
theorem bright_ok (c y : Int) : bucket_right c y = some (decide (BV c y)) := by
  unfold bucket_right bucket_right.j1
  by_cases h1 : c ≥ 1
  · rw [if_pos (by simpa using h1)]
    by_cases h2 : c ≤ 9
    · rw [if_pos (by simpa using h2)]
      by_cases h3 : y ≥ 0
      · rw [if_pos (by simpa using h3)]; congr 1; rw [decide_eq_decide, BV_def]; omega
      · rw [if_neg (by simpa using h3)]; congr 1; symm; rw [decide_eq_false_iff_not, BV_def]; omega
    · rw [if_neg (by simpa using h2)]; congr 1; symm; rw [decide_eq_false_iff_not, BV_def]; omega
  · rw [if_neg (by simpa using h1)]; congr 1; symm; rw [decide_eq_false_iff_not, BV_def]; omega
theorem rbucket_ok (c y : Int) : scutageref09_Bucket c y = some (decide (BV c y)) := by
  unfold scutageref09_Bucket scutageref09_Bucket.j1 scutageref09_Year scutageref09_Year.j1
  by_cases h1 : c ≥ 1
  · rw [if_pos (by simpa using h1)]
    by_cases h2 : c ≤ 9
    · rw [if_pos (by simpa using h2)]
      by_cases h3 : y ≥ 0
      · rw [if_pos (by simpa using h3), Option.bind_some]; congr 1; rw [decide_eq_decide, BV_def]; omega
      · rw [if_neg (by simpa using h3), Option.bind_some]; congr 1; symm; rw [decide_eq_false_iff_not, BV_def]; omega
    · rw [if_neg (by simpa using h2)]; congr 1; symm; rw [decide_eq_false_iff_not, BV_def]; omega
  · rw [if_neg (by simpa using h1)]; congr 1; symm; rw [decide_eq_false_iff_not, BV_def]; omega

/-! ### buckets as they stand -/
def bk (c y : Int) (b : api_Bucket) : Bool := decide (b.Class = c ∧ b.Year = y)
theorem bk_t {c y : Int} {b : api_Bucket} : bk c y b = true ↔ b.Class = c ∧ b.Year = y := by simp only [bk, decide_eq_true_eq]
theorem bk_f {c y : Int} {b : api_Bucket} : bk c y b = false ↔ ¬ (b.Class = c ∧ b.Year = y) := by simp only [bk, decide_eq_false_iff_not]
def bget (c y : Int) : List api_Bucket → Int
  | [] => 0
  | b :: l => (if bk c y b = true then b.Amount else 0) + bget c y l
def bsum : List api_Bucket → Int
  | [] => 0
  | b :: l => b.Amount + bsum l
def Apart (a b : api_Bucket) : Prop := ¬ (a.Class = b.Class ∧ a.Year = b.Year)
structure KI (l : List api_Bucket) : Prop where
  dst : l.Pairwise Apart
  nz : ∀ b ∈ l, b.Amount ≠ 0
theorem KI.nil : KI [] := ⟨List.Pairwise.nil, by simp⟩
theorem apart_symm {a b : api_Bucket} (h : Apart a b) : Apart b a := fun e => h ⟨e.1.symm, e.2.symm⟩
theorem KI.perm {l m : List api_Bucket} (h : KI l) (p : l.Perm m) : KI m :=
  ⟨(p.pairwise_iff (R := Apart) fun h => apart_symm h).1 h.dst, fun b hb => h.nz b (p.mem_iff.2 hb)⟩
theorem bget_perm (c y : Int) {a b : List api_Bucket} (h : a.Perm b) : bget c y a = bget c y b := by
  induction h with
  | nil => rfl
  | cons x _ ih => simp only [bget, ih]
  | swap x y l => simp only [bget]; omega
  | trans _ _ ih1 ih2 => rw [ih1, ih2]
theorem bsum_perm {a b : List api_Bucket} (h : a.Perm b) : bsum a = bsum b := by
  induction h with
  | nil => rfl
  | cons x _ ih => simp only [bsum, ih]
  | swap x y l => simp only [bsum]; omega
  | trans _ _ ih1 ih2 => rw [ih1, ih2]
theorem bget_app (c y : Int) (a b : List api_Bucket) : bget c y (a ++ b) = bget c y a + bget c y b := by
  induction a with
  | nil => simp [bget]
  | cons x a ih => simp only [List.cons_append, bget, ih]; omega
theorem bsum_app (a b : List api_Bucket) : bsum (a ++ b) = bsum a + bsum b := by
  induction a with
  | nil => simp [bsum]
  | cons x a ih => simp only [List.cons_append, bsum, ih]; omega
theorem bget_none {c y : Int} : ∀ {l : List api_Bucket}, (∀ b ∈ l, bk c y b = false) → bget c y l = 0
  | [], _ => rfl
  | b :: l, h => by rw [bget, if_neg (by simp [h b (by simp)]), bget_none fun z hz => h z (List.mem_cons_of_mem _ hz)]; rfl
theorem mid_other {c y : Int} {A B : List api_Bucket} {x : api_Bucket} (hd : (A ++ x :: B).Pairwise Apart) (hx : bk c y x = true) : (∀ b ∈ A, bk c y b = false) ∧ ∀ b ∈ B, bk c y b = false := by
  obtain ⟨g1, g2, g3⟩ := List.pairwise_append.1 hd
  rw [bk_t] at hx
  constructor
  · intro b hb
    have := g3 b hb x (by simp)
    rw [bk_f]; intro e; exact this ⟨e.1.trans hx.1.symm, e.2.trans hx.2.symm⟩
  · intro b hb
    have := (List.pairwise_cons.1 g2).1 b hb
    rw [bk_f]; intro e; exact this ⟨hx.1.trans e.1.symm, hx.2.trans e.2.symm⟩
theorem bget_mid {c y : Int} {A B : List api_Bucket} {x : api_Bucket} (hd : (A ++ x :: B).Pairwise Apart) (hx : bk c y x = true) : bget c y (A ++ x :: B) = x.Amount := by
  obtain ⟨h1, h2⟩ := mid_other hd hx
  rw [bget_app, bget, bget_none h1, bget_none h2, if_pos hx]; omega
theorem bget_mem {l : List api_Bucket} (h : KI l) {b : api_Bucket} (hb : b ∈ l) : bget b.Class b.Year l = b.Amount := by
  obtain ⟨A, B, rfl⟩ := List.append_of_mem hb
  exact bget_mid h.dst (bk_t.2 ⟨rfl, rfl⟩)
theorem same_perm {l m : List api_Bucket} (h : KI l) (g : KI m) (e : ∀ c y, bget c y l = bget c y m) : l.Perm m := by
  have nd : ∀ {l : List api_Bucket}, KI l → l.Nodup := fun h => List.Pairwise.imp (fun {a b} h e => h (by rw [e]; exact ⟨rfl, rfl⟩)) h.dst
  have go : ∀ {l m : List api_Bucket}, KI l → KI m → (∀ c y, bget c y l = bget c y m) → ∀ b ∈ l, b ∈ m := by
    intro l m h g e b hb
    have h1 := bget_mem h hb
    rw [e] at h1
    apply Classical.byContradiction
    intro hn
    by_cases hk : ∃ z ∈ m, bk b.Class b.Year z = true
    · obtain ⟨z, hz, hk⟩ := hk
      rw [bk_t] at hk
      have h2 := bget_mem g hz
      rw [hk.1, hk.2, h1] at h2
      have : z = b := by cases z; cases b; simp at hk h2; simp [hk, h2]
      exact hn (this ▸ hz)
    · have : bget b.Class b.Year m = 0 := bget_none fun z hz => by
        cases hh : bk b.Class b.Year z with
        | false => rfl
        | true => exact absurd ⟨z, hz, hh⟩ hk
      rw [h1] at this
      exact h.nz b hb this
  exact (List.perm_ext_iff_of_nodup (nd h) (nd g)).2 fun b => ⟨go h g e b, go g h (fun c y => (e c y).symm) b⟩
def others (c y : Int) (l : List api_Bucket) : List api_Bucket := l.filter fun b => !bk c y b
def bput (c y n : Int) (l : List api_Bucket) : List api_Bucket := if n = 0 then others c y l else ⟨c, y, n⟩ :: others c y l
theorem others_get (c y c2 y2 : Int) : ∀ l : List api_Bucket, bget c2 y2 (others c y l) = if c2 = c ∧ y2 = y then 0 else bget c2 y2 l
  | [] => by simp [others, bget]
  | b :: l => by
    have ih := others_get c y c2 y2 l
    unfold others at ih ⊢
    rw [List.filter_cons]
    by_cases hk : bk c y b = true
    · rw [if_neg (by simp [hk]), ih]
      rw [bk_t] at hk
      by_cases he : c2 = c ∧ y2 = y
      · rw [if_pos he, if_pos he]
      · have : ¬ bk c2 y2 b = true := fun h => he (by rw [bk_t] at h; exact ⟨h.1.symm.trans hk.1, h.2.symm.trans hk.2⟩)
        rw [if_neg he, if_neg he, bget, if_neg this]; omega
    · rw [if_pos (by simp [hk]), bget, ih]
      by_cases he : c2 = c ∧ y2 = y
      · have : ¬ bk c2 y2 b = true := by rw [he.1, he.2]; exact hk
        rw [if_pos he, if_pos he, if_neg this]; rfl
      · rw [if_neg he, if_neg he, bget]
theorem others_sum {c y : Int} {l : List api_Bucket} (h : KI l) : bsum (others c y l) = bsum l - bget c y l := by
  have : ∀ l : List api_Bucket, bsum l = bsum (others c y l) + bget c y l := by
    intro l
    induction l with
    | nil => simp [others, bsum, bget]
    | cons b l ih =>
      unfold others at ih ⊢
      rw [List.filter_cons]
      by_cases hk : bk c y b = true
      · rw [if_neg (by simp [hk])]; simp only [bsum, bget, if_pos hk]; omega
      · rw [if_pos (by simp [hk])]; simp only [bsum, bget, if_neg hk]; omega
  have := this l; omega
theorem others_key {c y : Int} {l : List api_Bucket} : ∀ b ∈ others c y l, bk c y b = false := by
  intro b hb
  have := (List.mem_filter.1 hb).2
  simpa using this
theorem KI.bput {l : List api_Bucket} (h : KI l) (c y n : Int) : KI (bput c y n l) := by
  have h0 : KI (others c y l) := ⟨List.Pairwise.filter _ h.dst, fun b hb => h.nz b (List.mem_filter.1 hb).1⟩
  unfold Go.Proofs.Ytcmhekibcbpajaa.bput
  split
  · exact h0
  · rename_i hn
    refine ⟨List.pairwise_cons.2 ⟨fun b hb => ?_, h0.dst⟩, fun b hb => ?_⟩
    · have := others_key b hb
      rw [bk_f] at this
      intro e; exact this ⟨e.1.symm, e.2.symm⟩
    · rcases List.mem_cons.1 hb with rfl | hb
      · exact hn
      · exact h0.nz b hb
theorem bput_get (l : List api_Bucket) (c y n c2 y2 : Int) : bget c2 y2 (bput c y n l) = if c2 = c ∧ y2 = y then n else bget c2 y2 l := by
  unfold bput
  by_cases hn : n = 0
  · rw [if_pos hn, others_get, hn]
  · rw [if_neg hn, bget, others_get]
    by_cases he : c2 = c ∧ y2 = y
    · rw [if_pos (bk_t.2 ⟨he.1.symm, he.2.symm⟩), if_pos he, if_pos he]; simp
    · rw [if_neg (fun h => he (by rw [bk_t] at h; exact ⟨h.1.symm, h.2.symm⟩)), if_neg he, if_neg he]; simp
theorem bput_sum {l : List api_Bucket} (h : KI l) (c y n : Int) : bsum (bput c y n l) = bsum l - bget c y l + n := by
  unfold bput
  split
  · rename_i hn; rw [others_sum h, hn]; omega
  · rw [bsum, others_sum h]; simp only; omega
theorem bput_len (l : List api_Bucket) (c y n : Int) : (bput c y n l).length ≤ l.length + 1 := by
  have : (others c y l).length ≤ l.length := List.length_filter_le _ _
  unfold bput
  split
  · omega
  · simp; omega
theorem bput_mem {l : List api_Bucket} {c y n : Int} {b : api_Bucket} (h : b ∈ bput c y n l) : b = ⟨c, y, n⟩ ∨ b ∈ l := by
  unfold bput at h
  split at h
  · exact .inr (List.mem_filter.1 h).1
  · rcases List.mem_cons.1 h with rfl | h
    · exact .inl rfl
    · exact .inr (List.mem_filter.1 h).1
theorem bput_perm {l m : List api_Bucket} (h : KI l) (p : l.Perm m) (c y n : Int) : (bput c y n l).Perm (bput c y n m) := by
  refine same_perm (h.bput c y n) ((h.perm p).bput c y n) fun c2 y2 => ?_
  rw [bput_get, bput_get, bget_perm _ _ p]

/-! ### the program's register -/
structure RI (l : List api_Bucket) : Prop extends KI l where
  len : l.length ≤ 12
  val : ∀ b ∈ l, BV b.Class b.Year ∧ Mny b.Amount
  tot : Mny (bsum l)
theorem RI.nil : RI [] := ⟨.nil, by simp, by simp, by decide⟩
theorem RI.perm {l m : List api_Bucket} (h : RI l) (p : l.Perm m) : RI m :=
  ⟨h.toKI.perm p, by rw [← p.length_eq]; exact h.len, fun b hb => h.val b (p.mem_iff.2 hb), by rw [← bsum_perm p]; exact h.tot⟩
theorem at_c1_ok (x : api_Bucket) (c y : Int) : bucket_Register_at_c1 x c y = some (bk c y x) := by
  unfold bucket_Register_at_c1 bucket_Register_at_c1.j1
  by_cases h : x.Class = c
  · rw [if_pos (by simpa using h)]; refine congrArg some ?_; rw [Bool.eq_iff_iff]; simp [bk, h]
  · rw [if_neg (by simpa using h)]; simp [bk, h]
theorem at_ok (l : List api_Bucket) (c y : Int) : bucket_Register_at ⟨l⟩ c y = some (idx (bk c y) l 0) := by
  rw [bucket_Register_at]
  show (slices_IndexFunc_api_Bucket l _).bind _ = _
  rw [index_api_Bucket l (p := bk c y) fun x _ => at_c1_ok x c y]; rfl
theorem get_ok {l : List api_Bucket} (h : KI l) (c y : Int) : bucket_Register_Get ⟨l⟩ c y = some (bget c y l) := by
  rw [bucket_Register_Get]
  show (bucket_Register_at ⟨l⟩ c y).bind _ = _
  rw [at_ok, Option.bind_some]
  rcases idx_cases (bk c y) l 0 with ⟨A, x, B, rfl, hx, hA, hr⟩ | ⟨hA, hr⟩
  · rw [hr, Int.zero_add, if_neg (by simp <;> omega), gd_true (by simp; omega)]
    show some (rd (A ++ x :: B) (A.length : Int)).Amount = _
    rw [rd_mid, bget_mid h.dst hx]
  · rw [hr, if_pos (by simp), bget_none hA]
theorem bsum_bd : ∀ {l : List api_Bucket}, (∀ b ∈ l, Mny b.Amount) → -100000000000 * (l.length : Int) ≤ bsum l ∧ bsum l ≤ 100000000000 * (l.length : Int)
  | [], _ => by simp [bsum]
  | b :: l, h => by
    have h1 := h b (by simp)
    have := bsum_bd fun z hz => h z (List.mem_cons_of_mem _ hz)
    rw [Mny_def] at h1
    simp only [bsum, List.length_cons]; omega
theorem total_loop : ∀ (ys : List api_Bucket) (i v : Int) (n : Nat), n + ys.length ≤ 100 → -100000000000 * (n : Int) ≤ v → v ≤ 100000000000 * (n : Int) → (∀ b ∈ ys, Mny b.Amount) → bucket_Register_Total.l1 ys (i, v) = some (v + bsum ys)
  | [], i, v, n, _, _, _, _ => by simp [bucket_Register_Total.l1, bsum]
  | y :: ys, i, v, n, hn, h0, h1, hb => by
    have hy := hb y (by simp)
    rw [Mny_def] at hy
    simp only [List.length_cons] at hn
    rw [bucket_Register_Total.l1, w64_id (by omega) (by omega), total_loop ys _ _ (n + 1) (by omega) (by omega) (by omega) fun z hz => hb z (List.mem_cons_of_mem _ hz)]
    simp only [bsum]; congr 1; omega
theorem total_ok {l : List api_Bucket} (h : ∀ b ∈ l, Mny b.Amount) (hl : l.length ≤ 100) : bucket_Register_Total ⟨l⟩ = some (bsum l) := by
  rw [bucket_Register_Total]
  show (bucket_Register_Total.l1 l (0, 0)).bind _ = _
  rw [total_loop l 0 0 0 (by omega) (by omega) (by omega) h, Option.bind_some, Int.zero_add]
theorem rtotal_loop : ∀ (ys : List api_Bucket) (i v : Int) (n : Nat), n + ys.length ≤ 100 → -100000000000 * (n : Int) ≤ v → v ≤ 100000000000 * (n : Int) → (∀ b ∈ ys, Mny b.Amount) → scutageref09_Register_Total.l1 ys (i, v) = some (v + bsum ys)
  | [], i, v, n, _, _, _, _ => by simp [scutageref09_Register_Total.l1, bsum]
  | y :: ys, i, v, n, hn, h0, h1, hb => by
    have hy := hb y (by simp)
    rw [Mny_def] at hy
    simp only [List.length_cons] at hn
    rw [scutageref09_Register_Total.l1, w64_id (by omega) (by omega), rtotal_loop ys _ _ (n + 1) (by omega) (by omega) (by omega) fun z hz => hb z (List.mem_cons_of_mem _ hz)]
    simp only [bsum]; congr 1; omega
theorem rtotal_ok {l : List api_Bucket} (h : ∀ b ∈ l, Mny b.Amount) (hl : l.length ≤ 100) : scutageref09_Register_Total ⟨l⟩ = some (bsum l) := by
  rw [scutageref09_Register_Total]
  show (scutageref09_Register_Total.l1 l (0, 0)).bind _ = _
  rw [rtotal_loop l 0 0 0 (by omega) (by omega) (by omega) h, Option.bind_some, Int.zero_add]
theorem setc1_ok (x : api_Bucket) : bucket_Register_set_c1 x = some (decide (x.Amount = 0)) := by
  rw [bucket_Register_set_c1]; refine congrArg some ?_; rw [Bool.eq_iff_iff]; simp
theorem nz_filter {l : List api_Bucket} (h : ∀ b ∈ l, b.Amount ≠ 0) : (l.filter fun b => !decide (b.Amount = 0)) = l := by
  rw [List.filter_eq_self]; intro b hb; simp [h b hb]
theorem others_none {c y : Int} {l : List api_Bucket} (h : ∀ b ∈ l, bk c y b = false) : others c y l = l := filter_none h
theorem set_ok {l : List api_Bucket} (h : KI l) (hl : l.length ≤ 100) (c y n : Int) : ∃ m, bucket_Register_set ⟨l⟩ c y n = some ⟨m⟩ ∧ m.Perm (bput c y n l) := by
  have hj : ∀ q : List api_Bucket, q.length ≤ 101 → bucket_Register_set.j1 q = some ⟨q.filter fun b => !decide (b.Amount = 0)⟩ := by
    intro q hq
    rw [bucket_Register_set.j1, delete_api_Bucket q (by omega) (p := fun b => decide (b.Amount = 0)) fun x _ => setc1_ok x]; rfl
  rw [bucket_Register_set]
  show ∃ m, (bucket_Register_at ⟨l⟩ c y).bind _ = _ ∧ _
  rw [at_ok, Option.bind_some]
  rcases idx_cases (bk c y) l 0 with ⟨A, x, B, rfl, hx, hA, hr⟩ | ⟨hA, hr⟩
  · rw [hr, Int.zero_add, if_pos (by simp), gd_true (by simp; omega)]
    have hB := (mid_other h.dst hx).2
    have hxk := bk_t.1 hx
    show ∃ m, bucket_Register_set.j1 ((A ++ x :: B).set (Int.toNat (A.length : Int)) ⟨(rd (A ++ x :: B) (A.length : Int)).Class, (rd (A ++ x :: B) (A.length : Int)).Year, n⟩) = _ ∧ _
    rw [rd_mid, set_mid, hj _ (by simp at hl ⊢; omega)]
    refine ⟨_, rfl, ?_⟩
    have hAz : (A.filter fun b => !decide (b.Amount = 0)) = A := nz_filter fun b hb => h.nz b (by simp [hb])
    have hBz : (B.filter fun b => !decide (b.Amount = 0)) = B := nz_filter fun b hb => h.nz b (by simp [hb])
    have ho : others c y (A ++ x :: B) = A ++ B := by
      unfold others
      rw [List.filter_append, List.filter_cons, if_neg (by simp [hx])]
      have h1 : others c y A = A := others_none hA
      have h2 : others c y B = B := others_none hB
      unfold others at h1 h2
      rw [h1, h2]
    unfold bput
    rw [List.filter_append, List.filter_cons, hAz, hBz, ho, hxk.1, hxk.2]
    by_cases hn : n = 0
    · rw [if_neg (by simp [hn]), if_pos hn]
    · rw [if_pos (by simp [hn]), if_neg hn]
      exact List.perm_middle
  · rw [hr, if_neg (by simp)]
    have hz := nz_filter h.nz
    unfold bput
    rw [others_none hA]
    by_cases hn : n = 0
    · rw [if_neg (by simp [hn]), if_pos hn]
      show ∃ m, bucket_Register_set.j1 l = _ ∧ _
      rw [hj l (by omega), hz]
      exact ⟨l, rfl, List.Perm.refl _⟩
    · rw [if_pos (by simpa using hn), if_neg hn, gd_true (fit_small (by show l.length + 1 ≤ _; omega))]
      show ∃ m, bucket_Register_set.j1 (l ++ [⟨c, y, n⟩]) = _ ∧ _
      rw [hj _ (by simp; omega), List.filter_append, hz]
      refine ⟨_, rfl, ?_⟩
      rw [show ([(⟨c, y, n⟩ : api_Bucket)].filter fun b => !decide (b.Amount = 0)) = [⟨c, y, n⟩] by simp [hn]]
      exact List.perm_append_singleton _ _
theorem bclone_ok {l : List api_Bucket} (h : l.length ≤ 1000) : bucket_Register_Clone ⟨l⟩ = some ⟨l⟩ := by
  rw [bucket_Register_Clone]
  show (slices_Clone_api_Bucket l).bind _ = _
  rw [clone_api_Bucket l (by omega)]; rfl
theorem take_ok (l m : List api_Bucket) : bucket_Register_take ⟨l⟩ ⟨m⟩ = some (if m.length > 12 then (5, ⟨l⟩) else (0, ⟨m⟩)) := by
  rw [bucket_Register_take]
  by_cases h : m.length > 12
  · rw [if_pos (by simp; omega), if_pos h]
  · rw [if_neg (by simp; omega), if_neg h]
/-- what a move comes to -/
theorem move_ok {l : List api_Bucket} (h : RI l) {c y n : Int} (hn : Mny n) : ∃ e m, bucket_Register_Move ⟨l⟩ c y n = some (e, ⟨m⟩) ∧ RI m ∧
    (e ≠ 0 → m = l) ∧ (e = 0 → BV c y ∧ Mny (bget c y l + n) ∧ m.Perm (bput c y (bget c y l + n) l)) ∧
    (BV c y → Mny (bget c y l + n) → Mny (bsum l + n) → (bput c y (bget c y l + n) l).length ≤ 12 → e = 0) := by
  have hK := h.toKI
  have hlen := h.len
  have hj : bucket_Register_Move.j1 ⟨l⟩ c y n true = some (1, ⟨l⟩) := by unfold bucket_Register_Move.j1; rw [if_pos rfl]
  have hg : -100000000000 ≤ bget c y l ∧ bget c y l ≤ 100000000000 := by
    rcases idx_cases (bk c y) l 0 with ⟨A, x, B, e, hx, hA, _⟩ | ⟨hA, _⟩
    · have := (h.val x (by rw [e]; simp)).2
      rw [e, bget_mid (e ▸ h.dst) hx]; rwa [Mny_def] at this
    · rw [bget_none hA]; omega
  have ht := h.tot
  rw [Mny_def] at ht
  have hn' := hn; rw [Mny_def] at hn'
  unfold bucket_Register_Move
  rw [bright_ok, Option.bind_some]
  by_cases hV : BV c y
  · rw [if_neg (by simp [hV]), money_ok, Option.bind_some]
    rw [decide_eq_true hn, Bool.not_true]
    unfold bucket_Register_Move.j1
    rw [if_neg (by simp)]
    show ∃ e m, (bucket_Register_Get ⟨l⟩ c y).bind _ = _ ∧ _
    rw [get_ok hK, Option.bind_some, w64_id (by omega) (by omega), money_ok, Option.bind_some]
    have k6 : bucket_Register_Move.j2 ⟨l⟩ c y (bget c y l) n true = some (6, ⟨l⟩) := by unfold bucket_Register_Move.j2; rw [if_pos rfl]
    by_cases hM : Mny (bget c y l + n)
    · rw [if_neg (by simp [hM])]
      show ∃ e m, (bucket_Register_Total ⟨l⟩).bind _ = _ ∧ _
      rw [total_ok (fun b hb => (h.val b hb).2) (by omega), Option.bind_some, w64_id (by omega) (by omega), money_ok, Option.bind_some]
      by_cases hT : Mny (bsum l + n)
      · rw [decide_eq_true hT, Bool.not_true]
        unfold bucket_Register_Move.j2
        rw [if_neg (by simp)]
        show ∃ e m, (bucket_Register_Clone ⟨l⟩).bind _ = _ ∧ _
        rw [bclone_ok (by omega), Option.bind_some, w64_id (by omega) (by omega)]
        obtain ⟨m, s1, s2⟩ := set_ok hK (by omega) c y (bget c y l + n)
        show ∃ e m, (bucket_Register_set ⟨l⟩ c y (bget c y l + n)).bind _ = _ ∧ _
        rw [s1, Option.bind_some]
        show ∃ e m_1, (bucket_Register_take ⟨l⟩ ⟨m⟩).bind _ = _ ∧ _
        rw [take_ok, Option.bind_some]
        by_cases h12 : m.length > 12
        · rw [if_pos h12]
          refine ⟨5, l, rfl, h, fun _ => rfl, fun e => absurd e (by decide), fun _ _ _ h4 => ?_⟩
          rw [← s2.length_eq] at h4; omega
        · rw [if_neg h12]
          refine ⟨0, m, rfl, ?_, fun e => absurd rfl e, fun _ => ⟨hV, hM, s2⟩, fun _ _ _ _ => rfl⟩
          have hB : RI (bput c y (bget c y l + n) l) := by
            refine ⟨hK.bput c y _, by rw [← s2.length_eq]; omega, fun b hb => ?_, ?_⟩
            · rcases bput_mem hb with rfl | hb
              · exact ⟨hV, hM⟩
              · exact h.val b hb
            · rw [bput_sum hK, show bsum l - bget c y l + (bget c y l + n) = bsum l + n by omega]; exact hT
          exact hB.perm s2.symm
      · rw [decide_eq_false hT, Bool.not_false]
        rw [k6]
        exact ⟨6, l, rfl, h, fun _ => rfl, fun e => absurd e (by decide), fun _ _ h3 _ => absurd h3 hT⟩
    · rw [if_pos (by simp [hM]), k6]
      exact ⟨6, l, rfl, h, fun _ => rfl, fun e => absurd e (by decide), fun _ h2 _ _ => absurd h2 hM⟩
  · rw [if_pos (by simp [hV]), hj]
    exact ⟨1, l, rfl, h, fun _ => rfl, fun e => absurd e (by decide), fun h1 _ _ _ => absurd h1 hV⟩
theorem bget_bd {l : List api_Bucket} (h : RI l) (c y : Int) : -100000000000 ≤ bget c y l ∧ bget c y l ≤ 100000000000 := by
  rcases idx_cases (bk c y) l 0 with ⟨A, x, B, e, hx, hA, _⟩ | ⟨hA, _⟩
  · have := (h.val x (by rw [e]; simp)).2
    rw [e, bget_mid (e ▸ h.dst) hx]; rwa [Mny_def] at this
  · rw [bget_none hA]; omega
def two (c y c2 y2 n : Int) (l : List api_Bucket) : List api_Bucket := bput c2 y2 (bget c2 y2 l + n) (bput c y (bget c y l - n) l)
theorem two_KI {l : List api_Bucket} (h : KI l) (c y c2 y2 n : Int) : KI (two c y c2 y2 n l) := (h.bput _ _ _).bput _ _ _
theorem two_get {c y c2 y2 : Int} (l : List api_Bucket) (n : Int) (hne : ¬ (c = c2 ∧ y = y2)) (a b : Int) : bget a b (two c y c2 y2 n l) = if a = c2 ∧ b = y2 then bget c2 y2 l + n else if a = c ∧ b = y then bget c y l - n else bget a b l := by
  unfold two
  rw [bput_get, bput_get]
theorem two_sum {l : List api_Bucket} (h : KI l) {c y c2 y2 : Int} (n : Int) (hne : ¬ (c = c2 ∧ y = y2)) : bsum (two c y c2 y2 n l) = bsum l := by
  unfold two
  rw [bput_sum (h.bput _ _ _), bput_sum h, bput_get, if_neg (fun e => hne ⟨e.1.symm, e.2.symm⟩)]; omega
theorem reclass_ok {l : List api_Bucket} (h : RI l) {c y c2 y2 n : Int} (hn : Mny n) : ∃ e m, bucket_Register_Reclass ⟨l⟩ c y c2 y2 n = some (e, ⟨m⟩) ∧ RI m ∧
    (e ≠ 0 → m = l) ∧ (e = 0 → BV c y ∧ BV c2 y2 ∧ ¬ (c = c2 ∧ y = y2) ∧ m.Perm (two c y c2 y2 n l)) ∧
    (BV c y → BV c2 y2 → ¬ (c = c2 ∧ y = y2) → Mny (bget c y l - n) → Mny (bget c2 y2 l + n) → (two c y c2 y2 n l).length ≤ 12 → e = 0) := by
  have hK := h.toKI
  have hlen := h.len
  have hj : bucket_Register_Reclass.j1 ⟨l⟩ c y c2 y2 n true = some (1, ⟨l⟩) := by unfold bucket_Register_Reclass.j1; rw [if_pos rfl]
  have hg1 := bget_bd h c y
  have hg2 := bget_bd h c2 y2
  have hn' := hn; rw [Mny_def] at hn'
  have bad : ∀ e : Int, e ≠ 0 → ¬ (BV c y ∧ BV c2 y2 ∧ ¬ (c = c2 ∧ y = y2) ∧ Mny (bget c y l - n) ∧ Mny (bget c2 y2 l + n) ∧ (two c y c2 y2 n l).length ≤ 12) → ∃ e' m, some (e, (⟨l⟩ : bucket_Register)) = some (e', ⟨m⟩) ∧ RI m ∧
    (e' ≠ 0 → m = l) ∧ (e' = 0 → BV c y ∧ BV c2 y2 ∧ ¬ (c = c2 ∧ y = y2) ∧ m.Perm (two c y c2 y2 n l)) ∧
    (BV c y → BV c2 y2 → ¬ (c = c2 ∧ y = y2) → Mny (bget c y l - n) → Mny (bget c2 y2 l + n) → (two c y c2 y2 n l).length ≤ 12 → e' = 0) := fun e he hb => ⟨e, l, rfl, h, fun _ => rfl, fun e0 => absurd e0 he, fun a b c d e f => absurd ⟨a, b, c, d, e, f⟩ hb⟩
  unfold bucket_Register_Reclass
  rw [bright_ok, Option.bind_some]
  by_cases hV : BV c y
  · rw [if_neg (by simp [hV]), bright_ok, Option.bind_some]
    by_cases hV2 : BV c2 y2
    · rw [if_neg (by simp [hV2]), money_ok, Option.bind_some, if_neg (by simp [hn])]
      have same : ∀ q : Bool, q = decide (c = c2 ∧ y = y2) → ∃ e m, bucket_Register_Reclass.j1 ⟨l⟩ c y c2 y2 n q = some (e, ⟨m⟩) ∧ RI m ∧
          (e ≠ 0 → m = l) ∧ (e = 0 → BV c y ∧ BV c2 y2 ∧ ¬ (c = c2 ∧ y = y2) ∧ m.Perm (two c y c2 y2 n l)) ∧
          (BV c y → BV c2 y2 → ¬ (c = c2 ∧ y = y2) → Mny (bget c y l - n) → Mny (bget c2 y2 l + n) → (two c y c2 y2 n l).length ≤ 12 → e = 0) := by
        intro q hq
        by_cases he : c = c2 ∧ y = y2
        · rw [hq, decide_eq_true he, hj]
          exact bad 1 (by decide) fun hb => hb.2.2.1 he
        · rw [hq, decide_eq_false he]
          unfold bucket_Register_Reclass.j1
          rw [if_neg (by simp)]
          show ∃ e m, (bucket_Register_Get ⟨l⟩ c y).bind _ = _ ∧ _
          rw [get_ok hK, Option.bind_some]
          show ∃ e m, (bucket_Register_Get ⟨l⟩ c2 y2).bind _ = _ ∧ _
          rw [get_ok hK, Option.bind_some, w64_id (x := bget c y l - n) (by omega) (by omega), money_ok, Option.bind_some]
          have k6 : bucket_Register_Reclass.j2 ⟨l⟩ c y (bget c y l) n c2 y2 (bget c2 y2 l) true = some (6, ⟨l⟩) := by unfold bucket_Register_Reclass.j2; rw [if_pos rfl]
          by_cases hM : Mny (bget c y l - n)
          · rw [if_neg (by simp [hM]), w64_id (x := bget c2 y2 l + n) (by omega) (by omega), money_ok, Option.bind_some]
            by_cases hM2 : Mny (bget c2 y2 l + n)
            · rw [decide_eq_true hM2, Bool.not_true]
              unfold bucket_Register_Reclass.j2
              rw [if_neg (by simp)]
              show ∃ e m, (bucket_Register_Clone ⟨l⟩).bind _ = _ ∧ _
              rw [bclone_ok (by omega), Option.bind_some, w64_id (x := bget c y l - n) (by omega) (by omega), w64_id (x := bget c2 y2 l + n) (by omega) (by omega)]
              obtain ⟨m, s1, s2⟩ := set_ok hK (by omega) c y (bget c y l - n)
              have hKm : KI m := (hK.bput c y _).perm s2.symm
              have hml : m.length ≤ 13 := by rw [s2.length_eq]; have := bput_len l c y (bget c y l - n); omega
              obtain ⟨m2, t1, t2⟩ := set_ok hKm (by omega) c2 y2 (bget c2 y2 l + n)
              show ∃ e m, (bucket_Register_set ⟨l⟩ c y (bget c y l - n)).bind _ = _ ∧ _
              rw [s1, Option.bind_some]
              show ∃ e m_1, (bucket_Register_set ⟨m⟩ c2 y2 (bget c2 y2 l + n)).bind _ = _ ∧ _
              rw [t1, Option.bind_some]
              show ∃ e m_1, (bucket_Register_take ⟨l⟩ ⟨m2⟩).bind _ = _ ∧ _
              rw [take_ok, Option.bind_some]
              have hp : m2.Perm (two c y c2 y2 n l) := t2.trans (bput_perm hKm s2 _ _ _)
              by_cases h12 : m2.length > 12
              · rw [if_pos h12]
                exact bad 5 (by decide) fun hb => by
                  have := hb.2.2.2.2.2
                  rw [← hp.length_eq] at this; omega
              · rw [if_neg h12]
                refine ⟨0, m2, rfl, ?_, fun e => absurd rfl e, fun _ => ⟨hV, hV2, he, hp⟩, fun _ _ _ _ _ _ => rfl⟩
                have hB : RI (two c y c2 y2 n l) := by
                  refine ⟨two_KI hK _ _ _ _ _, by rw [← hp.length_eq]; omega, fun b hb => ?_, ?_⟩
                  · rcases bput_mem hb with rfl | hb
                    · exact ⟨hV2, hM2⟩
                    · rcases bput_mem hb with rfl | hb
                      · exact ⟨hV, hM⟩
                      · exact h.val b hb
                  · rw [two_sum hK n he]; exact h.tot
                exact hB.perm hp.symm
            · rw [decide_eq_false hM2, Bool.not_false]
              rw [k6]
              exact bad 6 (by decide) fun hb => hM2 hb.2.2.2.2.1
          · rw [if_pos (by simp [hM]), k6]
            exact bad 6 (by decide) fun hb => hM hb.2.2.2.1
      by_cases h1 : c = c2
      · rw [if_pos (by simpa using h1)]; exact same _ (by rw [Bool.eq_iff_iff]; simp [h1])
      · rw [if_neg (by simpa using h1)]; exact same _ (by simp [h1])
    · rw [if_pos (by simp [hV2]), hj]
      exact bad 1 (by decide) fun hb => hV2 hb.2.1
  · rw [if_pos (by simp [hV]), hj]
    exact bad 1 (by decide) fun hb => hV hb.1

/-! ### rows -/
theorem cmpI (x y : Int) : cmp_Compare_int x y = some (if x < y then -1 else if x > y then 1 else 0) := by
  simp only [cmp_Compare_int, cmp_isNaN_int, Option.bind_some]
  rw [if_neg (by simp), if_neg (by simp)]
  by_cases h : x < y
  · simp [h]
  · by_cases h2 : x > y <;> simp [h, h2]
theorem or2 (a b : Int) : cmp_Or_int [a, b] = some (if a ≠ 0 then a else b) := by
  simp only [cmp_Or_int, cmp_Or_int.l1]
  by_cases h : a = 0
  · by_cases h2 : b = 0 <;> simp [h, h2]
  · simp [h]
def blt (a b : api_Bucket) : Bool := decide (a.Class < b.Class ∨ (a.Class = b.Class ∧ a.Year < b.Year))
theorem blt_t {a b : api_Bucket} : blt a b = true ↔ (a.Class < b.Class ∨ (a.Class = b.Class ∧ a.Year < b.Year)) := by simp only [blt, decide_eq_true_eq]
theorem blt_f {a b : api_Bucket} : blt a b = false ↔ ¬ (a.Class < b.Class ∨ (a.Class = b.Class ∧ a.Year < b.Year)) := by simp only [blt, decide_eq_false_iff_not]
theorem bord : Ord blt where
  irr := fun x => by rw [blt_f]; omega
  trans := fun x y z => by simp only [blt_t]; omega
  neg := fun x y z => by simp only [blt_f]; omega
def bcm : (api_Bucket × api_Bucket) → Option Int := fun x => bucket_Register_Rows_c1 x.1 x.2
theorem bcmp (x y : api_Bucket) : ∃ r, bcm (x, y) = some r ∧ decide (r < 0) = blt x y := by
  simp only [bcm, bucket_Register_Rows_c1, cmpI, Option.bind_some, or2]
  refine ⟨_, rfl, ?_⟩
  rw [Bool.eq_iff_iff, decide_eq_true_eq, blt_t]
  by_cases h1 : x.Class < y.Class
  · simp [h1]
  · by_cases h2 : x.Class > y.Class
    · simp [h1, h2]; omega
    · have e : x.Class = y.Class := by omega
      by_cases h3 : x.Year < y.Year
      · simp [e, h3]
      · by_cases h4 : x.Year > y.Year <;> simp [e, h3, h4]
theorem sortK : ∀ (L : List api_Bucket), L.Pairwise Apart → ∃ R, R.Perm L ∧ Srt blt R
  | [], _ => ⟨[], List.Perm.refl _, List.Pairwise.nil⟩
  | x :: L, h => by
    obtain ⟨R, p, s⟩ := sortK L (List.pairwise_cons.1 h).2
    refine ⟨ins blt x R, (ins_perm x R).trans ((List.perm_cons x).2 p), ins_srt bord s fun y hy => ?_⟩
    have := (List.pairwise_cons.1 h).1 y (p.mem_iff.1 hy)
    unfold Apart at this
    rw [blt_t, blt_t]; omega
theorem rows_ok {l R : List api_Bucket} (h : KI l) (hl : l.length ≤ 12) (p : R.Perm l) (s : Srt blt R) : bucket_Register_Rows ⟨l⟩ = some R := by
  obtain ⟨S, t1, t2, t3⟩ := sortFunc_api_Bucket bord bcmp l hl
  have t1' : slices_SortFunc_api_Bucket l (fun x => bucket_Register_Rows_c1 x.1 x.2) = some S := t1
  have e := sorted_eq bord t3 s (t2.trans p.symm)
  rw [bucket_Register_Rows]
  show (slices_Clone_api_Bucket l).bind _ = _
  rw [clone_api_Bucket l (by omega), Option.bind_some, t1', e]; rfl

/-! ### the document's register -/
theorem rget_loop (c y : Int) : ∀ (ys : List api_Bucket) (i : Int), scutageref09_Register_Get.l1 c y ys i = match ys.find? (bk c y) with | some b => some (.inl b.Amount) | none => some (.inr ())
  | [], i => rfl
  | b :: ys, i => by
    have go : ∀ q : Bool, q = bk c y b → scutageref09_Register_Get.j1 b (scutageref09_Register_Get.l1 c y ys) i q = match (b :: ys).find? (bk c y) with | some b => some (.inl b.Amount) | none => some (.inr ()) := by
      intro q hq
      rw [scutageref09_Register_Get.j1, hq, List.find?_cons]
      by_cases h : bk c y b = true
      · rw [if_pos h, h]
      · have h' : bk c y b = false := by simpa using h
        rw [if_neg h, h', rget_loop c y ys]
    rw [scutageref09_Register_Get.l1]
    by_cases h1 : b.Class = c
    · rw [if_pos (by simpa using h1)]; exact go _ (by rw [Bool.eq_iff_iff]; simp [bk, h1])
    · rw [if_neg (by simpa using h1)]; exact go _ (by simp [bk, h1])
theorem rget_ok {l : List api_Bucket} (h : KI l) (c y : Int) : scutageref09_Register_Get ⟨l⟩ c y = some (bget c y l) := by
  rw [scutageref09_Register_Get]
  show (scutageref09_Register_Get.l1 c y l 0).bind _ = _
  rw [rget_loop]
  cases hf : l.find? (bk c y) with
  | some b =>
    have h1 := List.find?_some hf
    have h2 := List.mem_of_find?_eq_some hf
    rw [bk_t] at h1
    have := bget_mem h h2
    rw [h1.1, h1.2] at this
    rw [this]; rfl
  | none =>
    have := List.find?_eq_none.1 hf
    rw [bget_none fun b hb => by simpa using this b hb]; rfl
theorem rset_loop (c y n : Int) : ∀ (ys : List api_Bucket) (i : Int) (out : List api_Bucket) (q : Bool), out.length + 2 * ys.length ≤ 900 →
    ∃ q' r, scutageref09_Register_set.l1 c y n ys (i, out, q) = some (q', r) ∧ r.length ≤ out.length + ys.length + 1 ∧ (if q' = true then r else r ++ [⟨c, y, n⟩]).Perm (if q = true then out ++ others c y ys else ⟨c, y, n⟩ :: (out ++ others c y ys))
  | [], i, out, q, _ => by
    refine ⟨q, out, rfl, by simp, ?_⟩
    cases q
    · simp only [others, List.filter_nil, List.append_nil, Bool.false_eq_true, if_false]; exact List.perm_append_singleton _ _
    · simp [others]
  | b :: ys, i, out, q, hl => by
    simp only [List.length_cons] at hl
    have ho : others c y (b :: ys) = if bk c y b = true then others c y ys else b :: others c y ys := by
      unfold others; rw [List.filter_cons]
      by_cases h : bk c y b = true <;> simp [h]
    have j4 : ∀ (out : List api_Bucket) (q : Bool), out.length ≤ 901 → scutageref09_Register_set.j4 b (scutageref09_Register_set.l1 c y n ys) i out q = scutageref09_Register_set.l1 c y n ys (i + 1, out ++ [b], q) := by
      intro out q h
      rw [scutageref09_Register_set.j4, gd_true (fit_small (by simp; omega)), scutageref09_Register_set.j2]
    have keep : bk c y b = false → ∃ q' r, scutageref09_Register_set.l1 c y n ys (i + 1, out ++ [b], q) = some (q', r) ∧ r.length ≤ out.length + (b :: ys).length + 1 ∧ (if q' = true then r else r ++ [⟨c, y, n⟩]).Perm (if q = true then out ++ others c y (b :: ys) else ⟨c, y, n⟩ :: (out ++ others c y (b :: ys))) := by
      intro hb
      obtain ⟨q', r, h1, h2, h3⟩ := rset_loop c y n ys (i + 1) (out ++ [b]) q (by simp; omega)
      refine ⟨q', r, h1, by simp at h2 ⊢; omega, ?_⟩
      rw [ho, hb]
      simpa using h3
    have add : q = false → bk c y b = false → ∃ q' r, scutageref09_Register_set.l1 c y n ys (i + 1, out ++ [⟨c, y, n⟩] ++ [b], true) = some (q', r) ∧ r.length ≤ out.length + (b :: ys).length + 1 ∧ (if q' = true then r else r ++ [⟨c, y, n⟩]).Perm (if q = true then out ++ others c y (b :: ys) else ⟨c, y, n⟩ :: (out ++ others c y (b :: ys))) := by
      intro hq hb
      obtain ⟨q', r, h1, h2, h3⟩ := rset_loop c y n ys (i + 1) (out ++ [⟨c, y, n⟩] ++ [b]) true (by simp; omega)
      refine ⟨q', r, h1, ?_, ?_⟩
      · have hlen := h3.length_eq
        have : (others c y ys).length ≤ ys.length := List.length_filter_le _ _
        have h5 : r.length ≤ (if q' = true then r else r ++ [⟨c, y, n⟩]).length := by split <;> simp
        rw [hlen] at h5
        simp at h5 ⊢; omega
      · rw [ho, hb, hq]
        refine h3.trans ?_
        simp only [if_true, Bool.false_eq_true, if_false, List.append_assoc, List.singleton_append, List.cons_append, List.nil_append]
        exact List.perm_middle
    have j5 : bk c y b = false → ∀ t : Bool, (t = true → q = false) → ∃ q' r, scutageref09_Register_set.j5 out c y n b (scutageref09_Register_set.l1 c y n ys) i q t = some (q', r) ∧ r.length ≤ out.length + (b :: ys).length + 1 ∧ (if q' = true then r else r ++ [⟨c, y, n⟩]).Perm (if q = true then out ++ others c y (b :: ys) else ⟨c, y, n⟩ :: (out ++ others c y (b :: ys))) := by
      intro hb t ht
      rw [scutageref09_Register_set.j5]
      cases t with
      | true => rw [if_pos rfl, gd_true (fit_small (by simp; omega)), j4 _ _ (by simp; omega)]; exact add (ht rfl) hb
      | false => rw [if_neg (by simp), j4 _ _ (by omega)]; exact keep hb
    have j3 : ∀ t : Bool, t = bk c y b → ∃ q' r, scutageref09_Register_set.j3 (scutageref09_Register_set.l1 c y n ys) i out q b c y n t = some (q', r) ∧ r.length ≤ out.length + (b :: ys).length + 1 ∧ (if q' = true then r else r ++ [⟨c, y, n⟩]).Perm (if q = true then out ++ others c y (b :: ys) else ⟨c, y, n⟩ :: (out ++ others c y (b :: ys))) := by
      intro t ht
      rw [scutageref09_Register_set.j3, ht]
      by_cases hb : bk c y b = true
      · rw [if_pos hb, scutageref09_Register_set.j2]
        obtain ⟨q', r, h1, h2, h3⟩ := rset_loop c y n ys (i + 1) out q (by omega)
        refine ⟨q', r, h1, by simp at h2 ⊢; omega, ?_⟩
        rw [ho, if_pos hb]; exact h3
      · have hb' : bk c y b = false := by simpa using hb
        rw [if_neg hb]
        by_cases hq : q = true
        · rw [if_neg (show ¬ (!q) = true by simp [hq])]; exact j5 hb' false (by simp)
        · have hq' : q = false := by simpa using hq
          rw [if_pos (show (!q) = true by simp [hq'])]
          by_cases g1 : b.Class > c
          · rw [if_pos (show decide (b.Class > c) = true by simpa using g1)]; exact j5 hb' true fun _ => hq'
          · rw [if_neg (show ¬ decide (b.Class > c) = true by simpa using g1)]
            by_cases g2 : b.Class = c
            · rw [if_pos (show (b.Class == c) = true by simpa using g2)]; exact j5 hb' _ fun _ => hq'
            · rw [if_neg (show ¬ (b.Class == c) = true by simpa using g2)]; exact j5 hb' _ fun _ => hq'
    rw [scutageref09_Register_set.l1]
    by_cases h1 : b.Class = c
    · rw [if_pos (by simpa using h1)]; exact j3 _ (by rw [Bool.eq_iff_iff]; simp [bk, h1])
    · rw [if_neg (by simpa using h1)]; exact j3 _ (by simp [bk, h1])
theorem rset_ok {l : List api_Bucket} (h : KI l) (hl : l.length ≤ 100) (c y n : Int) : ∃ m, scutageref09_Register_set ⟨l⟩ c y n = some ⟨m⟩ ∧ m.Perm (bput c y n l) := by
  rw [scutageref09_Register_set]
  show ∃ m, (scutageref09_Register_set.l1 c y n l (0, [], n == 0)).bind _ = _ ∧ _
  obtain ⟨q', r, h1, h2, h3⟩ := rset_loop c y n l 0 [] (n == 0) (by simp; omega)
  rw [h1, Option.bind_some]
  have hp : (if (n == 0) = true then [] ++ others c y l else ⟨c, y, n⟩ :: ([] ++ others c y l)) = bput c y n l := by
    unfold bput
    by_cases hn : n = 0 <;> simp [hn]
  rw [hp] at h3
  show ∃ m, (if (!q') = true then gd _ (scutageref09_Register_set.j1 (r ++ [⟨c, y, n⟩])) else scutageref09_Register_set.j1 r) = _ ∧ _
  cases q' with
  | true => rw [if_neg (by simp)]; exact ⟨r, rfl, by simpa using h3⟩
  | false =>
    rw [if_pos (by simp), gd_true (fit_small (by simp at h2 ⊢; omega))]
    exact ⟨_, rfl, by simpa using h3⟩
theorem rmove_ok {l : List api_Bucket} (h : RI l) (c y n : Int) : ∃ e m, scutageref09_Register_Move ⟨l⟩ c y n = some (e, ⟨m⟩) ∧ RI m := by
  have hK := h.toKI
  have hlen := h.len
  have ht := h.tot
  rw [Mny_def] at ht
  have hj : scutageref09_Register_Move.j1 ⟨l⟩ c y n true = some (1, ⟨l⟩) := by unfold scutageref09_Register_Move.j1; rw [if_pos rfl]
  have hg := bget_bd h c y
  unfold scutageref09_Register_Move
  rw [rbucket_ok, Option.bind_some]
  by_cases hV : BV c y
  · rw [if_neg (by simp [hV]), rmoney_ok, Option.bind_some]
    by_cases hn : Mny n
    · have hn' := hn; rw [Mny_def] at hn'
      rw [decide_eq_true hn, Bool.not_true]
      unfold scutageref09_Register_Move.j1
      rw [if_neg (by simp)]
      show ∃ e m, (scutageref09_Register_Get ⟨l⟩ c y).bind _ = _ ∧ _
      rw [rget_ok hK, Option.bind_some, w64_id (by omega) (by omega), rmoney_ok, Option.bind_some]
      have k6 : scutageref09_Register_Move.j2 ⟨l⟩ c y n true = some (6, ⟨l⟩) := by unfold scutageref09_Register_Move.j2; rw [if_pos rfl]
      by_cases hM : Mny (bget c y l + n)
      · rw [if_neg (by simp [hM])]
        show ∃ e m, (scutageref09_Register_Total ⟨l⟩).bind _ = _ ∧ _
        rw [rtotal_ok (fun b hb => (h.val b hb).2) (by omega), Option.bind_some, w64_id (by omega) (by omega), rmoney_ok, Option.bind_some]
        by_cases hT : Mny (bsum l + n)
        · rw [decide_eq_true hT, Bool.not_true]
          unfold scutageref09_Register_Move.j2
          rw [if_neg (by simp)]
          have hc : scutageref09_Register_Copy ⟨l⟩ = some ⟨l⟩ := by
            rw [scutageref09_Register_Copy, gd_true (fit_small (by simp; omega))]; rfl
          show ∃ e m, (scutageref09_Register_Copy ⟨l⟩).bind _ = _ ∧ _
          rw [hc, Option.bind_some]
          show ∃ e m, (scutageref09_Register_Get ⟨l⟩ c y).bind _ = _ ∧ _
          rw [rget_ok hK, Option.bind_some, w64_id (by omega) (by omega)]
          obtain ⟨m, s1, s2⟩ := rset_ok hK (by omega) c y (bget c y l + n)
          show ∃ e m, (scutageref09_Register_set ⟨l⟩ c y (bget c y l + n)).bind _ = _ ∧ _
          rw [s1, Option.bind_some]
          by_cases h12 : m.length > 12
          · rw [if_pos (by simp; omega)]; exact ⟨5, l, rfl, h⟩
          · rw [if_neg (by simp; omega)]
            refine ⟨0, m, rfl, ?_⟩
            have hB : RI (bput c y (bget c y l + n) l) := by
              refine ⟨hK.bput c y _, by rw [← s2.length_eq]; omega, fun b hb => ?_, ?_⟩
              · rcases bput_mem hb with rfl | hb
                · exact ⟨hV, hM⟩
                · exact h.val b hb
              · rw [bput_sum hK, show bsum l - bget c y l + (bget c y l + n) = bsum l + n by omega]; exact hT
            exact hB.perm s2.symm
        · rw [decide_eq_false hT, Bool.not_false]
          exact ⟨6, l, k6, h⟩
      · rw [if_pos (by simp [hM])]; exact ⟨6, l, k6, h⟩
    · rw [decide_eq_false hn, Bool.not_false]
      exact ⟨1, l, hj, h⟩
  · rw [if_pos (by simp [hV])]; exact ⟨1, l, hj, h⟩
theorem reg_loop (l : List Int) : ∀ (fuel : Nat) (xs : List api_Bucket) (v : Int), RI xs → 0 ≤ v → v ≤ 10 → (10 - v).toNat < fuel → ∃ xs', RI xs' ∧ scutageplay_Register.l1 l fuel (xs, v) = some xs'
  | 0, xs, v, _, _, _, h => by omega
  | fuel + 1, xs, v, hx, h0, h1, hf => by
    rw [scutageplay_Register.l1]
    have stop : ∃ xs', RI xs' ∧ scutageplay_Register.j1 v l xs (scutageplay_Register.l1 l fuel) false = some xs' := ⟨xs, hx, by rw [scutageplay_Register.j1, if_neg (by simp)]⟩
    by_cases hl : v < (l.length : Int)
    · rw [if_pos (by simpa using hl)]
      by_cases h8 : v < 10
      · obtain ⟨a, ha, a0, a1⟩ := within_ok (rd l v) 3 (by omega) (by omega)
        obtain ⟨b, hb, b0, b1⟩ := within_ok (w64 (Int.tdiv (rd l v) 3)) 5 (by omega) (by omega)
        obtain ⟨c, hc⟩ := amount_ok (w64 (Int.tdiv (rd l v) 15))
        rw [decide_eq_true h8, scutageplay_Register.j1, if_pos rfl, gd_true ⟨h0, hl⟩, ha, Option.bind_some, hb, Option.bind_some, hc, Option.bind_some]
        obtain ⟨e, m, m1, m2⟩ := rmove_ok hx (w64 (1 + a)) b c
        rw [m1, Option.bind_some]
        obtain ⟨xs', k1, k2⟩ := reg_loop l fuel m (v + 1) m2 (by omega) (by omega) (by omega)
        refine ⟨xs', k1, ?_⟩
        show scutageplay_Register.l1 l fuel (m, w64 (v + 1)) = _
        rw [w64_id (x := v + 1) (by omega) (by omega)]; exact k2
      · rw [decide_eq_false h8]; exact stop
    · rw [if_neg (by simpa using hl)]; exact stop
theorem reg_ok (l : List Int) : ∃ xs, RI xs ∧ scutageplay_Register l = some ⟨xs⟩ := by
  obtain ⟨xs, h1, h2⟩ := reg_loop l FUEL [] 0 .nil (by omega) (by omega) (by simp only [FUEL]; omega)
  exact ⟨xs, h1, by rw [scutageplay_Register, h2]; rfl⟩

/-! ### of the document's register, one of the program's -/
def turn (T : Int) (b : api_Bucket) : Bool := decide (T > 0) == decide (b.Amount < 0)
theorem of_l2 (r : List api_Bucket) (hr : ∀ b ∈ r, Mny b.Amount) (hl : r.length ≤ 100) (L : List api_Bucket) : ∀ (ys dn : List api_Bucket) (v : Int), L = dn ++ ys → 0 ≤ v → v < (L.length : Int) → (turn (bsum r) (rd L v) = true ∨ (v = 0 ∧ ∀ b ∈ dn, turn (bsum r) b = false)) →
    ∃ v', scutagelaw10_Of.l2 r ys ((dn.length : Int), v) = some v' ∧ 0 ≤ v' ∧ v' < (L.length : Int) ∧ (turn (bsum r) (rd L v') = true ∨ (v' = 0 ∧ ∀ b ∈ L, turn (bsum r) b = false))
  | [], dn, v, e, h0, h1, h2 => ⟨v, rfl, h0, h1, by rw [e]; simpa [e] using h2⟩
  | y :: ys, dn, v, e, h0, h1, h2 => by
    rw [scutagelaw10_Of.l2]
    show ∃ v', (bucket_Register_Total ⟨r⟩).bind _ = _ ∧ _
    rw [total_ok hr hl, Option.bind_some]
    have e1 : (((dn ++ [y]).length : Nat) : Int) = (dn.length : Int) + 1 := by simp
    have hlen : (L.length : Int) = dn.length + (ys.length + 1) := by rw [e]; simp
    by_cases ht : turn (bsum r) y = true
    · rw [if_pos (show (decide (bsum r > 0) == decide (y.Amount < 0)) = true from ht), scutagelaw10_Of.j1, ← e1]
      refine of_l2 r hr hl L ys (dn ++ [y]) (dn.length : Int) (by rw [e]; simp) (by omega) (by omega) (.inl ?_)
      rw [e, rd_mid]; exact ht
    · rw [if_neg (show ¬ (decide (bsum r > 0) == decide (y.Amount < 0)) = true from ht), scutagelaw10_Of.j1, ← e1]
      refine of_l2 r hr hl L ys (dn ++ [y]) v (by rw [e]; simp) h0 h1 ?_
      rcases h2 with h2 | ⟨h2, h3⟩
      · exact .inl h2
      · refine .inr ⟨h2, fun b hb => ?_⟩
        rcases List.mem_append.1 hb with hb | hb
        · exact h3 b hb
        · simp at hb; subst hb; simpa using ht
theorem bsum_sign_pos : ∀ {l : List api_Bucket}, (∀ b ∈ l, 0 ≤ b.Amount) → ∀ b ∈ l, 0 ≤ b.Amount ∧ b.Amount ≤ bsum l
  | [], _, b, hb => by cases hb
  | x :: l, h, b, hb => by
    have hx := h x (by simp)
    have hs : 0 ≤ bsum l := by
      clear hb
      induction l with
      | nil => simp [bsum]
      | cons z l ih => have := h z (by simp); have := ih fun q hq => h q (by rcases List.mem_cons.1 hq with rfl | hq <;> simp [*]); simp only [bsum]; omega
    rcases List.mem_cons.1 hb with rfl | hb
    · simp only [bsum]; omega
    · have := bsum_sign_pos (fun q hq => h q (List.mem_cons_of_mem _ hq)) b hb
      simp only [bsum]; omega
theorem bsum_sign_neg : ∀ {l : List api_Bucket}, (∀ b ∈ l, b.Amount ≤ 0) → ∀ b ∈ l, b.Amount ≤ 0 ∧ bsum l ≤ b.Amount
  | [], _, b, hb => by cases hb
  | x :: l, h, b, hb => by
    have hx := h x (by simp)
    have hs : bsum l ≤ 0 := by
      clear hb
      induction l with
      | nil => simp [bsum]
      | cons z l ih => have := h z (by simp); have := ih fun q hq => h q (by rcases List.mem_cons.1 hq with rfl | hq <;> simp [*]); simp only [bsum]; omega
    rcases List.mem_cons.1 hb with rfl | hb
    · simp only [bsum]; omega
    · have := bsum_sign_neg (fun q hq => h q (List.mem_cons_of_mem _ hq)) b hb
      simp only [bsum]; omega
theorem of_loop (B : List api_Bucket) (hB : RI B) : ∀ (fuel : Nat) (r left : List api_Bucket), RI r → (r ++ left).Perm B → left.length < fuel → ∃ r', RI r' ∧ r'.Perm B ∧ scutagelaw10_Of.l1 fuel (r, left) = some (.inr r')
  | 0, r, left, _, _, h => by omega
  | fuel + 1, r, [], hr, hp, hf => by
    refine ⟨r, hr, by simpa using hp, ?_⟩
    rw [scutagelaw10_Of.l1, if_neg (by simp)]
  | fuel + 1, r, z :: left, hr, hp, hf => by
    have hlen := hp.length_eq
    simp only [List.length_append, List.length_cons] at hlen hf
    have hBl := hB.len
    have hRL := hB.perm hp.symm
    obtain ⟨v, v1, v2, v3, v4⟩ := of_l2 r (fun b hb => (hr.val b hb).2) (by omega) (z :: left) (z :: left) [] 0 rfl (by omega) (by simp <;> omega) (.inr ⟨rfl, by simp⟩)
    have v1' : scutagelaw10_Of.l2 r (z :: left) (0, 0) = some v := v1
    obtain ⟨A, x, C, hsp, hA⟩ : ∃ A x C, z :: left = A ++ x :: C ∧ v = (A.length : Int) := by
      refine ⟨(z :: left).take v.toNat, (z :: left)[v.toNat]'(by omega), (z :: left).drop (v.toNat + 1), ?_, ?_⟩
      · rw [List.getElem_cons_drop, List.take_append_drop]
      · rw [List.length_take]; omega
    have hx : rd (z :: left) v = x := by rw [hsp, hA, rd_mid]
    rw [hx] at v4
    have hxm : x ∈ z :: left := by rw [hsp]; simp
    have hxv := hRL.val x (List.mem_append.2 (.inr hxm))
    have hxn := hRL.nz x (List.mem_append.2 (.inr hxm))
    have htot := hRL.tot
    rw [bsum_app] at htot
    have hrt := hr.tot
    have hxM := hxv.2
    rw [Mny_def] at htot hrt hxM
    have hgo : Mny (bsum r + x.Amount) := by
      rw [Mny_def]
      rcases v4 with v4 | ⟨_, v4⟩
      · unfold turn at v4
        by_cases h1 : bsum r > 0 <;> by_cases h2 : x.Amount < 0 <;> simp [h1, h2] at v4 <;> omega
      · by_cases h1 : bsum r > 0
        · have hp0 : ∀ b ∈ z :: left, 0 ≤ b.Amount := by
            intro b hb
            have := v4 b hb
            unfold turn at this
            by_cases h2 : b.Amount < 0
            · simp [h1, h2] at this
            · omega
          have := bsum_sign_pos hp0 x hxm; omega
        · have hp0 : ∀ b ∈ z :: left, b.Amount ≤ 0 := by
            intro b hb
            have := v4 b hb
            unfold turn at this
            by_cases h2 : b.Amount < 0
            · omega
            · simp [h1, h2] at this
          have := bsum_sign_neg hp0 x hxm; omega
    have hno : ∀ b ∈ r, bk x.Class x.Year b = false := by
      intro b hb
      have := (List.pairwise_append.1 hRL.dst).2.2 b hb x hxm
      rw [bk_f]; exact this
    have hg0 : bget x.Class x.Year r = 0 := bget_none hno
    have hput : bput x.Class x.Year (bget x.Class x.Year r + x.Amount) r = x :: r := by
      rw [hg0, Int.zero_add]; unfold bput; rw [if_neg hxn, others_none hno]
    obtain ⟨e, m, m1, m2, m3, m4, m5⟩ := move_ok hr (c := x.Class) (y := x.Year) hxv.2
    have he : e = 0 := m5 hxv.1 (by rw [hg0, Int.zero_add]; exact hxv.2) hgo (by rw [hput]; simp; omega)
    have hmp := (m4 he).2.2
    rw [hput] at hmp
    subst he
    rw [scutagelaw10_Of.l1, if_pos (by simp <;> omega), v1', Option.bind_some, gd_true ⟨v2, v3⟩, hx]
    show ∃ r', RI r' ∧ r'.Perm B ∧ (bucket_Register_Move ⟨r⟩ x.Class x.Year x.Amount).bind _ = _
    rw [m1, Option.bind_some]
    show ∃ r', RI r' ∧ r'.Perm B ∧ (if ((0 : Int) != 0) = true then _ else _) = _
    have hl2 : (z :: left).length = A.length + (C.length + 1) := by rw [hsp]; simp
    have hl3 : (z :: left).length = left.length + 1 := rfl
    have s1 : sb (z :: left) (0 : Int) v = A := by rw [hsp, hA]; exact sb_app A _
    have s2 : sb (z :: left) (w64 (v + 1)) ((z :: left).length : Int) = C := by
      rw [w64_id (by omega) (by omega)]
      unfold sb
      rw [show ((z :: left).length : Int).toNat = (z :: left).length by omega, List.take_length, hsp, hA]
      rw [show ((A.length : Int) + 1).toNat = A.length + 1 by omega]
      simp
    rw [if_neg (by simp), gd_true ⟨by omega, by omega, by omega⟩, gd_true (by rw [w64_id (by omega) (by omega)]; omega), s1, s2, gd_true (fit_small (by omega))]
    refine of_loop B hB fuel m (A ++ C) m2 ?_ (by simp; omega)
    refine List.Perm.trans ?_ hp
    refine (hmp.append_right (A ++ C)).trans ?_
    rw [hsp]
    rw [List.cons_append]
    have : (r ++ (A ++ x :: C)).Perm (x :: (r ++ (A ++ C))) := by
      rw [← List.append_assoc, ← List.append_assoc]
      exact List.perm_middle
    exact this.symm
theorem of_ok {B : List api_Bucket} (hB : RI B) : ∃ r, RI r ∧ r.Perm B ∧ scutagelaw10_Of ⟨B⟩ = some (some ⟨r⟩) := by
  obtain ⟨r, h1, h2, h3⟩ := of_loop B hB FUEL [] B .nil (List.Perm.refl _) (by have := hB.len; simp only [FUEL]; omega)
  refine ⟨r, h1, h2, ?_⟩
  rw [scutagelaw10_Of]
  show gd _ ((scutagelaw10_Of.l1 FUEL ([], [] ++ B)).bind _) = _
  rw [gd_true (fit_small (by have := hB.len; simp; omega)), List.nil_append, h3]; rfl

/-! ### the whole -/
theorem sums_loop {l R : List api_Bucket} (h : RI l) (p : R.Perm l) (s : Srt blt R) : ∀ (ys dn : List api_Bucket) (v : Int), R = dn ++ ys → v = bsum dn → scutagelaw10_BucketSums.l1 ⟨l⟩ R ys ((dn.length : Int), v) = some (.inr (bsum R))
  | [], dn, v, e, hv => by rw [scutagelaw10_BucketSums.l1, hv, e, List.append_nil]
  | y :: ys, dn, v, e, hv => by
    have hRl : R.length ≤ 12 := by rw [p.length_eq]; exact h.len
    have hlen : R.length = dn.length + (ys.length + 1) := by rw [e]; simp
    have hyR : y ∈ R := by rw [e]; simp
    have hyl := p.mem_iff.1 hyR
    have hRI := h.perm p.symm
    have hyM := (h.val y hyl).2
    rw [Mny_def] at hyM
    have hd : ∀ b ∈ dn, Mny b.Amount := fun b hb => (hRI.val b (by rw [e]; simp [hb])).2
    have hb := bsum_bd hd
    have e1 : (((dn ++ [y]).length : Nat) : Int) = (dn.length : Int) + 1 := by simp
    have fin : scutagelaw10_BucketSums.j6 (scutagelaw10_BucketSums.l1 ⟨l⟩ R ys) (dn.length : Int) v y false = some (.inr (bsum R)) := by
      rw [scutagelaw10_BucketSums.j6, if_neg (by simp), ← e1]
      refine sums_loop h p s ys (dn ++ [y]) _ (by rw [e]; simp) ?_
      rw [w64_id (by omega) (by omega), hv, bsum_app]; simp [bsum]
    rw [scutagelaw10_BucketSums.l1, if_neg (by simpa using h.nz y hyl)]
    show (bucket_Register_Get ⟨l⟩ y.Class y.Year).bind _ = _
    rw [get_ok h.toKI, bget_mem h.toKI hyl, Option.bind_some, if_neg (by simp)]
    by_cases h0 : (dn.length : Int) > 0
    · rw [if_pos (by simpa using h0), w64_id (by omega) (by omega), gd_true (by omega)]
      rcases List.eq_nil_or_concat dn with rfl | ⟨D, z, rfl⟩
      · simp at h0
      · rw [List.concat_eq_append] at *
        have e2 : (((D ++ [z]).length : Nat) : Int) - 1 = (D.length : Int) := by simp
        have r : rd R (D.length : Int) = z := by rw [e, List.append_assoc, List.singleton_append, rd_mid]
        have hz : blt z y = true := by
          rw [e] at s
          exact (List.pairwise_append.1 s).2.2 z (by simp) y (by simp)
        rw [blt_t] at hz
        rw [e2, r, if_neg (by simp; omega)]
        by_cases hc : y.Class = z.Class
        · rw [if_pos (by simpa using hc), decide_eq_false (by omega)]; exact fin
        · rw [if_neg (by simpa using hc)]; exact fin
    · rw [if_neg (by simpa using h0)]; exact fin
theorem sums_j2 {l m R : List api_Bucket} (h : RI l) (hm : RI m) (pm : m.Perm l) (p : R.Perm l) (s : Srt blt R) : scutagelaw10_BucketSums.j2 R (bsum l) m = some true := by
  unfold scutagelaw10_BucketSums.j2
  have hRl : R.length ≤ 12 := by rw [p.length_eq]; exact h.len
  have hml := hm.len
  rw [rows_ok hm.toKI hm.len (p.trans pm.symm) s, Option.bind_some, same_api_Bucket R (by omega), Option.bind_some, if_pos rfl]
  show (bucket_Register_Total ⟨m⟩).bind _ = _
  rw [total_ok (fun b hb => (hm.val b hb).2) (by omega), Option.bind_some, bsum_perm pm, if_pos (by simp), wakes_ok]; rfl
theorem sums_j1 {l m R : List api_Bucket} (h : RI l) (hm : RI m) (pm : m.Perm l) (p : R.Perm l) (s : Srt blt R) {a b k : Int} (a0 : 0 ≤ a) (a1 : a < 9) (k0 : 0 ≤ k) (k1 : k < 2001) : scutagelaw10_BucketSums.j1 a b k (bsum l) R m = some true := by
  unfold scutagelaw10_BucketSums.j1
  rw [w64_id (x := 1 + a) (by omega) (by omega), w64_id (x := k - 1000) (by omega) (by omega)]
  have hn : Mny (k - 1000) := by rw [Mny_def]; omega
  have hn2 : Mny (0 - (k - 1000)) := by rw [Mny_def]; omega
  have ht := h.tot
  rw [Mny_def] at ht
  obtain ⟨e, q, m1, m2, m3, m4, m5⟩ := move_ok hm (c := 1 + a) (y := b) hn
  show (bucket_Register_Move ⟨m⟩ (1 + a) b (k - 1000)).bind _ = _
  rw [m1, Option.bind_some]
  show (if (e == 0) = true then _ else scutagelaw10_BucketSums.j2 R (bsum l) q) = _
  by_cases he : e = 0
  · obtain ⟨hV, hM, hq⟩ := m4 he
    rw [if_pos (by simpa using he)]
    have hql := m2.len
    have hqs : bsum q = bsum l + (k - 1000) := by
      rw [bsum_perm hq, bput_sum hm.toKI, bsum_perm pm]; omega
    show (bucket_Register_Total ⟨q⟩).bind _ = _
    rw [total_ok (fun b hb => (m2.val b hb).2) (by omega), Option.bind_some, hqs, w64_id (x := bsum l + (k - 1000)) (by omega) (by omega), if_neg (by simp), w64_id (x := 0 - (k - 1000)) (by omega) (by omega)]
    obtain ⟨e2, q2, n1, n2, n3, n4, n5⟩ := move_ok m2 (c := 1 + a) (y := b) hn2
    have hgq : bget (1 + a) b q = bget (1 + a) b m + (k - 1000) := by
      rw [bget_perm _ _ hq, bput_get, if_pos ⟨rfl, rfl⟩]
    have hback : (bput (1 + a) b (bget (1 + a) b q + (0 - (k - 1000))) q).Perm m := by
      refine same_perm (m2.toKI.bput _ _ _) hm.toKI fun c y => ?_
      rw [bput_get, hgq]
      by_cases hc : c = 1 + a ∧ y = b
      · rw [if_pos hc, hc.1, hc.2]; omega
      · rw [if_neg hc, bget_perm _ _ hq, bput_get, if_neg hc]
    have hgm := bget_bd hm (1 + a) b
    have he2 : e2 = 0 := n5 hV (by rw [hgq, Mny_def]; omega) (by rw [hqs, Mny_def]; omega) (by rw [hback.length_eq]; exact hm.len)
    show (bucket_Register_Move ⟨q⟩ (1 + a) b (0 - (k - 1000))).bind _ = _
    rw [n1, Option.bind_some]
    show scutagelaw10_BucketSums.j4 R (bsum l) q2 (e2 != 0) = _
    unfold scutagelaw10_BucketSums.j4
    rw [if_neg (by simp [he2])]
    exact sums_j2 h n2 (((n4 he2).2.2.trans hback).trans pm) p s
  · rw [if_neg (by simpa using he), m3 he]
    exact sums_j2 h hm pm p s
theorem BucketSums_true (l : List Int) (class_ year class2 year2 n : Int) : scutagelaw10_BucketSums l class_ year class2 year2 n = some true := by
  obtain ⟨B, hB, hl⟩ := reg_ok l
  obtain ⟨r, hr, hp, ho⟩ := of_ok hB
  obtain ⟨R, pR, sR⟩ := sortK r hr.dst
  obtain ⟨a, ha, a0, a1⟩ := within_ok class_ 9 (by omega) (by omega)
  obtain ⟨b, hb, b0, b1⟩ := within_ok year 100 (by omega) (by omega)
  obtain ⟨c, hc, c0, c1⟩ := within_ok class2 9 (by omega) (by omega)
  obtain ⟨d, hd, d0, d1⟩ := within_ok year2 100 (by omega) (by omega)
  obtain ⟨k, hk, k0, k1⟩ := within_ok n 2001 (by omega) (by omega)
  have hrl := hr.len
  have hRl : R.length ≤ 12 := by rw [pR.length_eq]; exact hr.len
  have hn : Mny (k - 1000) := by rw [Mny_def]; omega
  rw [scutagelaw10_BucketSums, hl, Option.bind_some]
  show (scutagelaw10_Of ⟨B⟩).bind _ = _
  rw [ho, Option.bind_some]
  show (bucket_Register_Rows ⟨r⟩).bind _ = _
  rw [rows_ok hr.toKI hr.len pR sR, Option.bind_some]
  show (bucket_Register_Total ⟨r⟩).bind _ = _
  rw [total_ok (fun b hb => (hr.val b hb).2) (by omega), Option.bind_some]
  have hs : scutagelaw10_BucketSums.l1 ⟨r⟩ R R (0, 0) = some (.inr (bsum R)) := sums_loop hr pR sR R [] 0 rfl rfl
  rw [hs, Option.bind_some]
  show (scutagekeep_Within class_ 9).bind _ = _
  rw [ha, Option.bind_some, hb, Option.bind_some, hc, Option.bind_some, hd, Option.bind_some, hk, Option.bind_some, bsum_perm pR, if_neg (by simp)]
  rw [w64_id (x := 1 + a) (by omega) (by omega), w64_id (x := k - 1000) (by omega) (by omega), w64_id (x := 1 + c) (by omega) (by omega)]
  obtain ⟨e, m, m1, m2, m3, m4, m5⟩ := reclass_ok hr (c := 1 + a) (y := b) (c2 := 1 + c) (y2 := d) hn
  show (bucket_Register_Reclass ⟨r⟩ (1 + a) b (1 + c) d (k - 1000)).bind _ = _
  rw [m1, Option.bind_some]
  show (if (e == 0) = true then _ else scutagelaw10_BucketSums.j1 a b k (bsum r) R m) = _
  by_cases he : e = 0
  · obtain ⟨hV, hV2, hne, hm⟩ := m4 he
    rw [if_pos (by simpa using he)]
    have hml := m2.len
    have hms : bsum m = bsum r := by rw [bsum_perm hm, two_sum hr.toKI _ hne]
    show (bucket_Register_Total ⟨m⟩).bind _ = _
    rw [total_ok (fun b hb => (m2.val b hb).2) (by omega), Option.bind_some, hms, if_neg (by simp)]
    obtain ⟨e2, q, n1, n2, n3, n4, n5⟩ := reclass_ok m2 (c := 1 + c) (y := d) (c2 := 1 + a) (y2 := b) hn
    have hne2 : ¬ (1 + c = 1 + a ∧ d = b) := fun h => hne ⟨h.1.symm, h.2.symm⟩
    have hg1 : bget (1 + c) d m = bget (1 + c) d r + (k - 1000) := by
      rw [bget_perm _ _ hm, two_get r _ hne, if_pos ⟨rfl, rfl⟩]
    have hg2 : bget (1 + a) b m = bget (1 + a) b r - (k - 1000) := by
      rw [bget_perm _ _ hm, two_get r _ hne, if_neg hne, if_pos ⟨rfl, rfl⟩]
    have hback : (two (1 + c) d (1 + a) b (k - 1000) m).Perm r := by
      refine same_perm (two_KI m2.toKI _ _ _ _ _) hr.toKI fun x y => ?_
      rw [two_get m _ hne2, hg1, hg2]
      by_cases h1 : x = 1 + a ∧ y = b
      · rw [if_pos h1, h1.1, h1.2]; omega
      · rw [if_neg h1]
        by_cases h2 : x = 1 + c ∧ y = d
        · rw [if_pos h2, h2.1, h2.2]; omega
        · rw [if_neg h2, bget_perm _ _ hm, two_get r _ hne, if_neg h2, if_neg h1]
    have hb1 := bget_bd hr (1 + c) d
    have hb2 := bget_bd hr (1 + a) b
    have he2 : e2 = 0 := n5 hV2 hV hne2 (by rw [hg1, Mny_def]; omega) (by rw [hg2, Mny_def]; omega) (by rw [hback.length_eq]; exact hr.len)
    show (bucket_Register_Reclass ⟨m⟩ (1 + c) d (1 + a) b (k - 1000)).bind _ = _
    rw [n1, Option.bind_some]
    have hq := (n4 he2).2.2.2.trans hback
    show (if (e2 != 0) = true then _ else (bucket_Register_Rows ⟨q⟩).bind _) = _
    rw [if_neg (by simp [he2]), rows_ok n2.toKI n2.len (pR.trans hq.symm) sR, Option.bind_some, same_api_Bucket R (by omega), Option.bind_some]
    show scutagelaw10_BucketSums.j5 a b k (bsum r) R q (!true) = _
    unfold scutagelaw10_BucketSums.j5
    rw [if_neg (by simp)]
    exact sums_j1 hr n2 hq pR sR a0 a1 k0 k1
  · rw [if_neg (by simpa using he), m3 he]
    exact sums_j1 hr hr (List.Perm.refl _) pR sR a0 a1 k0 k1
end Go.Proofs.Ytcmhekibcbpajaa
