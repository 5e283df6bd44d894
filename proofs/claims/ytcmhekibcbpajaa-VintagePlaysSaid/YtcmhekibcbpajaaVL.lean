/- The plain law of VintagePlays. No program in it. -/
import Derived.Test.YtcmhekibcbpajaaVL4
import Derived.Test.YtcmhekibcbpajaaVL0
set_option linter.unusedVariables false
set_option linter.unusedSimpArgs false
namespace Go.Proofs.Ytcmhekibcbpajaa
open Go

theorem within_ok (v n : Int) (h1 : 1 ≤ n) (h2 : n ≤ 1000000000000) : ∃ k, scutagekeep_Within v n = some k ∧ 0 ≤ k ∧ k < n := by
  unfold scutagekeep_Within scutagekeep_Within.j1
  have hlt : Int.tmod v n < n := Int.tmod_lt_of_pos v (by omega)
  have hgt : -n < Int.tmod v n := by
    have := Int.tmod_lt_of_pos (-v) (b := n) (by omega)
    rw [Int.neg_tmod] at this; omega
  rw [if_neg (by simp; omega), gd_true (by omega)]
  by_cases h : Int.tmod v n < 0
  · refine ⟨Int.tmod v n + n, ?_, by omega, by omega⟩
    rw [if_pos (by simpa using h), w64_id (by omega) (by omega)]
  · refine ⟨Int.tmod v n, ?_, by omega, by omega⟩
    rw [if_neg (by simpa using h)]
theorem amount_ok (n : Int) : ∃ k, scutageplay_Amount n = some k := by
  unfold scutageplay_Amount
  obtain ⟨a, ha, _⟩ := within_ok (w64 (Int.tdiv n 23)) 5 (by omega) (by omega)
  obtain ⟨b, hb, _⟩ := within_ok (w64 (Int.tdiv n 23)) 200000000001 (by omega) (by omega)
  obtain ⟨c, hc, _⟩ := within_ok n 4001 (by omega) (by omega)
  rw [ha, hb, hc]
  simp only [Option.bind_some]
  split
  · exact ⟨_, rfl⟩
  split
  · exact ⟨_, rfl⟩
  split
  · exact ⟨_, rfl⟩
  split <;> exact ⟨_, rfl⟩
theorem wakes_ok : scutagelaw13_wakes = some true := by decide +kernel
theorem mn_eq (a b : Int) : mn a b = if a < b then a else b := by unfold mn; split <;> split <;> omega
abbrev Rec := (List api_Vintage × List api_Vintage × Int) → Option (Bool ⊕ Unit)
theorem used_len (xs : List api_Vintage) (hx : VI xs) (l : List scutagelaw13_Act) (v : Int) : ∀ (ys : List Int) (dn us : List Int), us.length = dn.length + ys.length → ∃ us', us'.length = us.length ∧ scutagelaw13_VintagePlays.l2 xs l v ys ((dn.length : Int), us) = some us'
  | [], dn, us, _ => ⟨us, rfl, rfl⟩
  | y :: ys, dn, us, hl => by
    simp only [List.length_cons] at hl
    have e1 : (((dn ++ [y]).length : Nat) : Int) = (dn.length : Int) + 1 := by simp
    have go : ∀ q : List Int, q.length = us.length → ∃ us', us'.length = us.length ∧ scutagelaw13_VintagePlays.l2 xs l v ys ((dn.length : Int) + 1, q) = some us' := by
      intro q hq
      obtain ⟨us', h1, h2⟩ := used_len xs hx l v ys (dn ++ [y]) q (by simp; omega)
      exact ⟨us', h1.trans hq, by rw [← e1]; exact h2⟩
    rw [scutagelaw13_VintagePlays.l2]
    by_cases h : (dn.length : Int) < (xs.length : Int)
    · rw [if_pos (by simpa using h), scutagelaw13_VintagePlays.j11]
      split
      · have hr : rd xs (dn.length : Int) ∈ xs := by
          have := rd_get (xs := xs) (i := (dn.length : Int)) (by omega) h
          exact List.mem_of_getElem? this
        have hp := hx.pos _ hr
        have hs := vsum_mem hx.pos _ hr
        have := hx.sum
        obtain ⟨k, hk, _⟩ := within_ok (rd us (dn.length : Int)) ((rd xs (dn.length : Int)).Left + 1) (by omega) (by omega)
        rw [gd_true (by omega), gd_true ⟨by omega, h⟩, w64_id (by omega) (by omega), hk, Option.bind_some, scutagelaw13_VintagePlays.j10]
        exact go _ (by simp)
      · rw [scutagelaw13_VintagePlays.j10]; exact go _ rfl
    · rw [if_neg (by simpa using h), scutagelaw13_VintagePlays.j11, if_neg (by simp), scutagelaw13_VintagePlays.j10]; exact go _ rfl
theorem plays_j5 {xs : List api_Vintage} (h : VI xs) (l : List scutagelaw13_Act) (v a b c k : Int) (q : Bool) (rec_ : Rec) : ∃ xs', VI xs' ∧ scutagelaw13_VintagePlays.j5 xs a b c xs rec_ v k l q = rec_ (xs', xs', w64 (v + 1)) := by
  have fin : ∀ {m : List api_Vintage}, VI m → vintage_Losses_Rows ⟨m⟩ = some m ∧ scutagekeep_Same_api_Vintage m m = some true ∧ vintage_Losses_Left ⟨m⟩ = some (vsum m) ∧ scutageref09_Losses_Left ⟨m⟩ = some (vsum m) := fun {m} hm =>
    ⟨rows_ok (by have := hm.len; omega), same_api_Vintage m (by have := hm.len; omega), left_ok hm, rleft_ok hm⟩
  unfold scutagelaw13_VintagePlays.j5
  cases q with
  | true =>
    rw [if_pos rfl]
    have hm := vAdd_inv h a b c
    obtain ⟨f1, f2, f3, f4⟩ := fin hm
    simp only [vAdd_ok h, rvAdd_ok h, Option.bind_some, bne_self_eq_false, Bool.false_eq_true, if_false, f1, f2, f3, f4, Bool.not_true]
    exact ⟨_, hm, rfl⟩
  | false =>
    rw [if_neg (by simp)]
    split
    · obtain ⟨y, hy, _⟩ := within_ok (rd l v).Life 12 (by omega) (by omega)
      have hm := vStay_inv h y
      obtain ⟨f1, f2, f3, f4⟩ := fin hm
      simp only [hy, expire_ok h, rexpire_ok h, Option.bind_some, bne_self_eq_false, Bool.false_eq_true, if_false, f1, f2, f3, f4, Bool.not_true]
      exact ⟨_, hm, rfl⟩
    · obtain ⟨y, hy, y0, y1⟩ := within_ok (rd l v).f_N 2 (by omega) (by omega)
      have hlen := h.len
      have hmn := mn_eq ((rd l v).Used.length : Int) ((xs.length : Int) + y)
      have hm0 : 0 ≤ mn ((rd l v).Used.length : Int) ((xs.length : Int) + y) ∧ mn ((rd l v).Used.length : Int) ((xs.length : Int) + y) ≤ ((rd l v).Used.length : Int) ∧ mn ((rd l v).Used.length : Int) ((xs.length : Int) + y) ≤ 14 := by rw [hmn]; split <;> omega
      have hsb : (sb (rd l v).Used (0 : Int) (mn ((rd l v).Used.length : Int) ((xs.length : Int) + y))).length ≤ 14 := by
        rw [sb_len (by omega) hm0.1 hm0.2.1]; omega
      have hcut : scutagekeep_Cut_int (rd l v).Used (w64 ((xs.length : Int) + y)) = some (sb (rd l v).Used (0 : Int) (mn ((rd l v).Used.length : Int) ((xs.length : Int) + y))) := by
        rw [scutagekeep_Cut_int, w64_id (by omega) (by omega), gd_true ⟨by omega, hm0.1, hm0.2.1⟩, copy_int _ (by omega)]; rfl
      obtain ⟨us, u1, u2⟩ := used_len xs h l v (sb (rd l v).Used (0 : Int) (mn ((rd l v).Used.length : Int) ((xs.length : Int) + y))) [] (sb (rd l v).Used (0 : Int) (mn ((rd l v).Used.length : Int) ((xs.length : Int) + y))) (by simp)
      have u2' : scutagelaw13_VintagePlays.l2 xs l v (sb (rd l v).Used (0 : Int) (mn ((rd l v).Used.length : Int) ((xs.length : Int) + y))) (0, sb (rd l v).Used (0 : Int) (mn ((rd l v).Used.length : Int) ((xs.length : Int) + y))) = some us := u2
      have hm := vTake_inv h us
      obtain ⟨f1, f2, f3, f4⟩ := fin hm
      simp only [hy, hcut, u2', copy_int us (by omega), take_ok h, rtake_ok h, same_int us (by omega), Option.bind_some, bne_self_eq_false, Bool.false_eq_true, if_false, Bool.not_true, scutagelaw13_VintagePlays.j8, f1, f2, f3, f4]
      exact ⟨_, hm, rfl⟩
theorem plays_j3 {xs : List api_Vintage} (h : VI xs) (l : List scutagelaw13_Act) (v a b c : Int) (rec_ : Rec) : ∃ xs', VI xs' ∧ scutagelaw13_VintagePlays.j3 v xs l xs rec_ a b c = rec_ (xs', xs', w64 (v + 1)) := by
  have j4 : ∃ xs', VI xs' ∧ scutagelaw13_VintagePlays.j4 l v xs a b c xs rec_ = rec_ (xs', xs', w64 (v + 1)) := by
    obtain ⟨k, hk, _⟩ := within_ok (rd l v).Do 7 (by omega) (by omega)
    rw [scutagelaw13_VintagePlays.j4, hk, Option.bind_some]
    split
    · exact plays_j5 h l v a b c k _ rec_
    split
    · exact plays_j5 h l v a b c k _ rec_
    split
    · exact plays_j5 h l v a b c k _ rec_
    · exact plays_j5 h l v a b c k _ rec_
  unfold scutagelaw13_VintagePlays.j3
  split
  · have h1 := vAdd_inv h 1 2 5
    simp only [vclone_ok (by have := h.len; omega : xs.length ≤ 1000), Option.bind_some, vAdd_ok h, expire_ok h1]
    exact j4
  · exact j4
theorem plays_loop (l : List scutagelaw13_Act) : ∀ (fuel : Nat) (xs : List api_Vintage) (v : Int), VI xs → 0 ≤ v → v ≤ 24 → (24 - v).toNat < fuel → scutagelaw13_VintagePlays.l1 l fuel (xs, xs, v) = some (.inr ())
  | 0, xs, v, _, _, _, hf => by omega
  | fuel + 1, xs, v, h, h0, h1, hf => by
    rw [scutagelaw13_VintagePlays.l1]
    by_cases hl : v < (l.length : Int)
    · rw [if_pos (by simpa using hl)]
      by_cases h2 : v < 24
      · obtain ⟨a, ha, a0, a1⟩ := within_ok (rd l v).Origin 8 (by omega) (by omega)
        obtain ⟨b, hb, b0, b1⟩ := within_ok (rd l v).Life 6 (by omega) (by omega)
        obtain ⟨n, hn⟩ := amount_ok (rd l v).f_N
        rw [decide_eq_true h2, scutagelaw13_VintagePlays.j1, if_pos rfl, gd_true ⟨h0, hl⟩, ha, Option.bind_some, Option.bind_some, hb, Option.bind_some, hn, Option.bind_some]
        have go : ∀ a b c, scutagelaw13_VintagePlays.j3 v xs l xs (scutagelaw13_VintagePlays.l1 l fuel) a b c = some (.inr ()) := by
          intro a b c
          obtain ⟨xs', h', e⟩ := plays_j3 h l v a b c (scutagelaw13_VintagePlays.l1 l fuel)
          rw [e, w64_id (by omega) (by omega)]
          exact plays_loop l fuel xs' (v + 1) h' (by omega) (by omega) (by omega)
        split
        · exact go _ _ _
        · exact go _ _ _
      · rw [decide_eq_false h2, scutagelaw13_VintagePlays.j1, if_neg (by simp)]
    · rw [if_neg (by simpa using hl), scutagelaw13_VintagePlays.j1, if_neg (by simp)]
theorem VintagePlays_true (l : List scutagelaw13_Act) : scutagelaw13_VintagePlays l = some true := by
  rw [scutagelaw13_VintagePlays]
  show (scutagelaw13_VintagePlays.l1 l FUEL ([], [], 0)).bind _ = _
  rw [plays_loop l FUEL [] 0 .nil (by omega) (by omega) (by simp only [FUEL]; omega), Option.bind_some, wakes_ok]; rfl
end Go.Proofs.Ytcmhekibcbpajaa
