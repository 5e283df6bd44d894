/- The Go functions come to their models: printed by gen.py. -/
import Derived.Test.YtcmhekibcbpajaaDX0
set_option linter.unusedVariables false
set_option linter.unusedSimpArgs false
set_option maxRecDepth 100000
namespace Go.Proofs.Ytcmhekibcbpajaa
open Go Go.RowKit
attribute [local irreducible] W R N L Hp Row SlR Bx

set_option maxHeartbeats 2000000 in
theorem scutagelaw15_CurrentErrors_ok {w0 w : World} {Γ : List (World → Prop)} (n_ : Int) (r0_ : Bool) (H : Hp w0 (Γ) w) (hm : scutagelaw15_CurrentErrors n_ = some r0_) : Calls Try.prog 6 #[.int .i64 n_] w (fun e w => e = .returned (.bool r0_) ∧ Hp w0 (Γ) w) := by
  unfold scutagelaw15_CurrentErrors at hm
  refine st_enter Try.func6 rfl Try.ntmps6 (Nat.le_of_ble_eq_true rfl) ?_
  refine st_seq ?_
  refine st_region ?_
  refine r_pure (.bool false) rfl ?_
  refine r_seq ?_
  refine st_seq ?_
  refine st_region ?_
  refine r_pure (.int .i64 n_) rfl ?_
  obtain ⟨y1, hy2, hm⟩ := bind_some hm
  refine r_callf Try.call9 (scutagekeep_Within_ok n_ 1000 y1 H hy2) ?_
  rintro e4 wd3 ⟨rfl, H6⟩
  refine ⟨_, rfl, ?_⟩
  refine r_pure (.int .i64 y1) rfl ?_
  refine r_seq ?_
  refine st_seq ?_
  refine st_region ?_
  obtain ⟨y7, hy8, hm⟩ := bind_some hm
  refine r_callf Try.call8 (vintage_New_ok  y7 H6 hy8) ?_
  rintro e10 wd9 ⟨b13, A14, n15, c16, rfl, H12⟩
  obtain rfl := (H12.g1).leneq
  refine ⟨_, rfl, ?_⟩
  refine r_pure (.pointer (some ⟨b13, 0, none⟩)) rfl ?_
  refine r_seq ?_
  refine st_seq ?_
  refine st_seq ?_
  refine st_region ?_
  refine r_pure (.pointer (some ⟨b13, 0, none⟩)) rfl ?_
  refine r_eqn Try.underlying23 rfl rfl ?_
  refine r_seq ?_
  refine st_condf rfl rfl ?_
  refine st_skip ?_
  refine n_sq ?_
  refine st_seq ?_
  refine st_seq ?_
  refine st_region ?_
  refine r_pure (.int .i64 0) rfl ?_
  refine r_seq ?_
  refine st_block ?_
  obtain ⟨tl29, hl30, hm28⟩ := bind_some hm
  refine st_loopF (scutagelaw15_CurrentErrors.l1) (fun s ρ w => ∃ xs25 : List api_Vintage, ∃ v26 : Int, ∃ A22 : Option Addr, ∃ n23 : Nat, ∃ c24 : Nat, (xs25, v26) = s ∧ (∃ base, ρ = updl base [(0, .int .i64 y1), (3, .pointer (some ⟨b13, 0, none⟩)), (4, .int .i64 v26)]) ∧ Hp w0 (Row K38 (.slice A22 n23 c24) xs25 :: Bx b13 75 [.slice A22 n23 c24] :: Γ) w) hl30 (fun _ => rfl) ⟨y7.f_l, 0, A14, y7.f_l.length, c16, rfl, upk (ac rfl (ac rfl (ac rfl an))), H12.u1⟩ ?_
  rintro fuel36 IH38 s ρ w ⟨xs25, v26, A22, n23, c24, rfl, ⟨base, rfl⟩, H27⟩ hm
  obtain rfl := (H27.g0).leneq
  rw [scutagelaw15_CurrentErrors.l1] at hm
  refine st_seq ?_
  refine st_seq ?_
  refine st_region ?_
  refine r_pure (.int .i64 v26) rfl ?_
  refine r_pure (.bool (decide (v26 < 12))) rfl ?_
  refine r_seq ?_
  rcases ite_some hm with ⟨hb39, hm⟩ | ⟨hb39, hm⟩
  · refine st_condt hb39 rfl ?_
    refine st_skip ?_
    refine n_sq ?_
    refine st_seq ?_
    refine st_block ?_
    refine st_region ?_
    refine r_pure (.pointer (some ⟨b13, 0, none⟩)) rfl ?_
    refine r_pure (.int .i64 v26) rfl ?_
    refine r_pure (.int .i64 v26) rfl ?_
    refine r_pure (.int .i64 (w64 (v26 + 20))) rfl ?_
    obtain ⟨⟨y40, y41⟩, hy42, hm⟩ := bind_some hm
    refine r_callf Try.call12 (vintage_Losses_Add_ok b13 (⟨xs25⟩ : vintage_Losses) A22 c24 v26 (w64 (v26 + 20)) 5 y40 y41 H27.u1 hy42) ?_
    rintro e44 wd43 ⟨A47, n48, c49, rfl, H46⟩
    obtain rfl := (H46.g1).leneq
    refine ⟨_, rfl, ?_⟩
    refine r_nil ?_
    refine n_bl ?_
    refine n_sq ?_
    refine st_region ?_
    refine r_pure (.int .i64 v26) rfl ?_
    refine r_pure (.int .i64 (w64 (v26 + 1))) rfl ?_
    refine r_pure (.int .i64 (w64 (v26 + 1))) rfl ?_
    refine r_nil ?_
    refine n_round (IH38 _ _ _ ⟨y41.f_l, w64 (v26 + 1), A47, y41.f_l.length, c49, rfl, upk (ac rfl (ac rfl (ac rfl an))), H46.u1⟩ hm)
  · refine st_condf hb39 rfl ?_
    have hq_ := Option.some.inj hm
    refine st_exit rfl ?_
    subst hq_
    refine n_sq ?_
    refine st_seq ?_
    refine st_seq ?_
    refine st_region ?_
    refine r_pure (.int .i64 y1) rfl ?_
    refine r_build [.int .i64 y1, .int .i64 0, .int .i64 0, .int .i64 (-1), .int .i64 1, .int .i64 1, .int .i64 1, .int .i64 1] FL64 (by kernel_rfl) ?_
    refine r_pure (.int .i64 y1) rfl ?_
    refine r_build [.int .i64 y1, .int .i64 0, .int .i64 0, .int .i64 1000001, .int .i64 1, .int .i64 1, .int .i64 1, .int .i64 1] FL64 (by kernel_rfl) ?_
    refine r_pure (.int .i64 y1) rfl ?_
    refine r_build [.int .i64 y1, .int .i64 0, .int .i64 0, .int .i64 1, .int .i64 (-1), .int .i64 1, .int .i64 1, .int .i64 1] FL64 (by kernel_rfl) ?_
    refine r_pure (.int .i64 y1) rfl ?_
    refine r_build [.int .i64 y1, .int .i64 0, .int .i64 0, .int .i64 1, .int .i64 1, .int .i64 100, .int .i64 1, .int .i64 1] FL64 (by kernel_rfl) ?_
    refine r_pure (.int .i64 y1) rfl ?_
    refine r_build [.int .i64 y1, .int .i64 0, .int .i64 0, .int .i64 1, .int .i64 1, .int .i64 1, .int .i64 (-1), .int .i64 1] FL64 (by kernel_rfl) ?_
    refine r_build [.int .i64 100000000000, .int .i64 1, .int .i64 0, .int .i64 1, .int .i64 1, .int .i64 1, .int .i64 1, .int .i64 6] FL64 (by kernel_rfl) ?_
    refine r_build [.int .i64 100000000001, .int .i64 0, .int .i64 0, .int .i64 1, .int .i64 1, .int .i64 1, .int .i64 1, .int .i64 6] FL64 (by kernel_rfl) ?_
    refine r_pure (.int .i64 y1) rfl ?_
    refine r_pure (.int .i64 (w64 ((-1) - y1))) rfl ?_
    refine r_build [.int .i64 (w64 ((-1) - y1)), .int .i64 0, .int .i64 0, .int .i64 1, .int .i64 60, .int .i64 15, .int .i64 1, .int .i64 5] FL64 (by kernel_rfl) ?_
    refine r_build [.int .i64 (-100000000000), .int .i64 0, .int .i64 0, .int .i64 1, .int .i64 5, .int .i64 15, .int .i64 1, .int .i64 6] FL64 (by kernel_rfl) ?_
    refine r_pure (.int .i64 y1) rfl ?_
    refine r_build [.int .i64 y1, .int .i64 0, .int .i64 0, .int .i64 1, .int .i64 1, .int .i64 15, .int .i64 1, .int .i64 0] FL64 (by kernel_rfl) ?_
    refine r_buildSliceF (K := K64) [(⟨y1, 0, 0, (-1), 1, 1, 1, 1⟩ : Anon64), (⟨y1, 0, 0, 1000001, 1, 1, 1, 1⟩ : Anon64), (⟨y1, 0, 0, 1, (-1), 1, 1, 1⟩ : Anon64), (⟨y1, 0, 0, 1, 1, 100, 1, 1⟩ : Anon64), (⟨y1, 0, 0, 1, 1, 1, (-1), 1⟩ : Anon64), (⟨100000000000, 1, 0, 1, 1, 1, 1, 6⟩ : Anon64), (⟨100000000001, 0, 0, 1, 1, 1, 1, 6⟩ : Anon64), (⟨w64 ((-1) - y1), 0, 0, 1, 60, 15, 1, 5⟩ : Anon64), (⟨(-100000000000), 0, 0, 1, 5, 15, 1, 6⟩ : Anon64), (⟨y1, 0, 0, 1, 1, 15, 1, 0⟩ : Anon64)] EL65 rfl rfl rfl (by decide) (by decide) ⟨rfl, rfl, ⟨rfl, rfl, ⟨rfl, rfl, ⟨rfl, rfl, ⟨rfl, rfl, ⟨rfl, rfl, ⟨rfl, rfl, ⟨rfl, rfl, ⟨rfl, rfl, ⟨rfl, rfl, trivial⟩⟩⟩⟩⟩⟩⟩⟩⟩⟩ H27 ?_
    intro b50 wd52 H51
    refine r_len Try.underlying65 rfl ?_
    refine r_pure (.int .i64 0) rfl ?_
    refine r_seq ?_
    refine st_block ?_
    obtain ⟨tl57, hl58, hm56⟩ := bind_some hm28
    refine st_loopF (scutagelaw15_CurrentErrors.l2 y1 xs25) (fun s ρ w => ∃ v54 : Int, v54 = s ∧ (∃ base, ρ = updl base [(3, .pointer (some ⟨b13, 0, none⟩)), (42, .slice (some ⟨b50, 0, none⟩) 10 10), (43, .int .i64 (10 : Int)), (44, .int .i64 v54)]) ∧ Hp w0 (Row K38 (.slice A22 xs25.length c24) xs25 :: Bx b13 75 [.slice A22 xs25.length c24] :: Row K64 (.slice (some ⟨b50, 0, none⟩) 10 10) [(⟨y1, 0, 0, (-1), 1, 1, 1, 1⟩ : Anon64), (⟨y1, 0, 0, 1000001, 1, 1, 1, 1⟩ : Anon64), (⟨y1, 0, 0, 1, (-1), 1, 1, 1⟩ : Anon64), (⟨y1, 0, 0, 1, 1, 100, 1, 1⟩ : Anon64), (⟨y1, 0, 0, 1, 1, 1, (-1), 1⟩ : Anon64), (⟨100000000000, 1, 0, 1, 1, 1, 1, 6⟩ : Anon64), (⟨100000000001, 0, 0, 1, 1, 1, 1, 6⟩ : Anon64), (⟨w64 ((-1) - y1), 0, 0, 1, 60, 15, 1, 5⟩ : Anon64), (⟨(-100000000000), 0, 0, 1, 5, 15, 1, 6⟩ : Anon64), (⟨y1, 0, 0, 1, 1, 15, 1, 0⟩ : Anon64)] :: Γ) w) hl58 (fun _ => rfl) ⟨0, rfl, upk (ac rfl (ac rfl (ac rfl (ac rfl an)))), H51.u2.u2⟩ ?_
    rintro fuel64 IH66 s ρ w ⟨v54, rfl, ⟨base, rfl⟩, H55⟩ hm
    rw [scutagelaw15_CurrentErrors.l2] at hm
    refine st_seq ?_
    refine st_region ?_
    refine r_pure (.bool (decide (v54 < (10 : Int)))) rfl ?_
    refine r_seq ?_
    refine st_seq ?_
    rcases ite_some hm with ⟨hb67, hm⟩ | ⟨hb67, hm⟩
    · refine st_condt hb67 rfl ?_
      refine st_skip ?_
      refine n_sq ?_
      refine st_cut (fun ρ w => (∃ base, ρ = updl base [(3, .pointer (some ⟨b13, 0, none⟩)), (42, .slice (some ⟨b50, 0, none⟩) 10 10), (43, .int .i64 (10 : Int)), (44, .int .i64 v54)]) ∧ Hp w0 (Row K38 (.slice A22 xs25.length c24) xs25 :: Bx b13 75 [.slice A22 xs25.length c24] :: Row K64 (.slice (some ⟨b50, 0, none⟩) 10 10) [(⟨y1, 0, 0, (-1), 1, 1, 1, 1⟩ : Anon64), (⟨y1, 0, 0, 1000001, 1, 1, 1, 1⟩ : Anon64), (⟨y1, 0, 0, 1, (-1), 1, 1, 1⟩ : Anon64), (⟨y1, 0, 0, 1, 1, 100, 1, 1⟩ : Anon64), (⟨y1, 0, 0, 1, 1, 1, (-1), 1⟩ : Anon64), (⟨100000000000, 1, 0, 1, 1, 1, 1, 6⟩ : Anon64), (⟨100000000001, 0, 0, 1, 1, 1, 1, 6⟩ : Anon64), (⟨w64 ((-1) - y1), 0, 0, 1, 60, 15, 1, 5⟩ : Anon64), (⟨(-100000000000), 0, 0, 1, 5, 15, 1, 6⟩ : Anon64), (⟨y1, 0, 0, 1, 1, 15, 1, 0⟩ : Anon64)] :: Γ) w ∧ scutagelaw15_CurrentErrors.j1 (scutagelaw15_CurrentErrors.l2 y1 xs25 fuel64) v54 = some tl57) ?_ ?_
      · refine st_block ?_
        refine st_seq ?_
        refine st_region ?_
        obtain ⟨⟨h069, h170⟩, hm⟩ := gd_some hm
        have hj71 := rd_get h069 h170
        refine r_ix IX65 rfl rfl rfl h069 (by have h1_ := (H55.g2).leneq; have h2_ := h170; rw [← h1_] at h2_; exact h2_) ?_
        refine r_ldA [.int .i64 ((rd [(⟨y1, 0, 0, (-1), 1, 1, 1, 1⟩ : Anon64), (⟨y1, 0, 0, 1000001, 1, 1, 1, 1⟩ : Anon64), (⟨y1, 0, 0, 1, (-1), 1, 1, 1⟩ : Anon64), (⟨y1, 0, 0, 1, 1, 100, 1, 1⟩ : Anon64), (⟨y1, 0, 0, 1, 1, 1, (-1), 1⟩ : Anon64), (⟨100000000000, 1, 0, 1, 1, 1, 1, 6⟩ : Anon64), (⟨100000000001, 0, 0, 1, 1, 1, 1, 6⟩ : Anon64), (⟨w64 ((-1) - y1), 0, 0, 1, 60, 15, 1, 5⟩ : Anon64), (⟨(-100000000000), 0, 0, 1, 5, 15, 1, 6⟩ : Anon64), (⟨y1, 0, 0, 1, 1, 15, 1, 0⟩ : Anon64)] v54).book), .int .i64 ((rd [(⟨y1, 0, 0, (-1), 1, 1, 1, 1⟩ : Anon64), (⟨y1, 0, 0, 1000001, 1, 1, 1, 1⟩ : Anon64), (⟨y1, 0, 0, 1, (-1), 1, 1, 1⟩ : Anon64), (⟨y1, 0, 0, 1, 1, 100, 1, 1⟩ : Anon64), (⟨y1, 0, 0, 1, 1, 1, (-1), 1⟩ : Anon64), (⟨100000000000, 1, 0, 1, 1, 1, 1, 6⟩ : Anon64), (⟨100000000001, 0, 0, 1, 1, 1, 1, 6⟩ : Anon64), (⟨w64 ((-1) - y1), 0, 0, 1, 60, 15, 1, 5⟩ : Anon64), (⟨(-100000000000), 0, 0, 1, 5, 15, 1, 6⟩ : Anon64), (⟨y1, 0, 0, 1, 1, 15, 1, 0⟩ : Anon64)] v54).perm), .int .i64 ((rd [(⟨y1, 0, 0, (-1), 1, 1, 1, 1⟩ : Anon64), (⟨y1, 0, 0, 1000001, 1, 1, 1, 1⟩ : Anon64), (⟨y1, 0, 0, 1, (-1), 1, 1, 1⟩ : Anon64), (⟨y1, 0, 0, 1, 1, 100, 1, 1⟩ : Anon64), (⟨y1, 0, 0, 1, 1, 1, (-1), 1⟩ : Anon64), (⟨100000000000, 1, 0, 1, 1, 1, 1, 6⟩ : Anon64), (⟨100000000001, 0, 0, 1, 1, 1, 1, 6⟩ : Anon64), (⟨w64 ((-1) - y1), 0, 0, 1, 60, 15, 1, 5⟩ : Anon64), (⟨(-100000000000), 0, 0, 1, 5, 15, 1, 6⟩ : Anon64), (⟨y1, 0, 0, 1, 1, 15, 1, 0⟩ : Anon64)] v54).moved), .int .i64 ((rd [(⟨y1, 0, 0, (-1), 1, 1, 1, 1⟩ : Anon64), (⟨y1, 0, 0, 1000001, 1, 1, 1, 1⟩ : Anon64), (⟨y1, 0, 0, 1, (-1), 1, 1, 1⟩ : Anon64), (⟨y1, 0, 0, 1, 1, 100, 1, 1⟩ : Anon64), (⟨y1, 0, 0, 1, 1, 1, (-1), 1⟩ : Anon64), (⟨100000000000, 1, 0, 1, 1, 1, 1, 6⟩ : Anon64), (⟨100000000001, 0, 0, 1, 1, 1, 1, 6⟩ : Anon64), (⟨w64 ((-1) - y1), 0, 0, 1, 60, 15, 1, 5⟩ : Anon64), (⟨(-100000000000), 0, 0, 1, 5, 15, 1, 6⟩ : Anon64), (⟨y1, 0, 0, 1, 1, 15, 1, 0⟩ : Anon64)] v54).cap), .int .i64 ((rd [(⟨y1, 0, 0, (-1), 1, 1, 1, 1⟩ : Anon64), (⟨y1, 0, 0, 1000001, 1, 1, 1, 1⟩ : Anon64), (⟨y1, 0, 0, 1, (-1), 1, 1, 1⟩ : Anon64), (⟨y1, 0, 0, 1, 1, 100, 1, 1⟩ : Anon64), (⟨y1, 0, 0, 1, 1, 1, (-1), 1⟩ : Anon64), (⟨100000000000, 1, 0, 1, 1, 1, 1, 6⟩ : Anon64), (⟨100000000001, 0, 0, 1, 1, 1, 1, 6⟩ : Anon64), (⟨w64 ((-1) - y1), 0, 0, 1, 60, 15, 1, 5⟩ : Anon64), (⟨(-100000000000), 0, 0, 1, 5, 15, 1, 6⟩ : Anon64), (⟨y1, 0, 0, 1, 1, 15, 1, 0⟩ : Anon64)] v54).life), .int .i64 ((rd [(⟨y1, 0, 0, (-1), 1, 1, 1, 1⟩ : Anon64), (⟨y1, 0, 0, 1000001, 1, 1, 1, 1⟩ : Anon64), (⟨y1, 0, 0, 1, (-1), 1, 1, 1⟩ : Anon64), (⟨y1, 0, 0, 1, 1, 100, 1, 1⟩ : Anon64), (⟨y1, 0, 0, 1, 1, 1, (-1), 1⟩ : Anon64), (⟨100000000000, 1, 0, 1, 1, 1, 1, 6⟩ : Anon64), (⟨100000000001, 0, 0, 1, 1, 1, 1, 6⟩ : Anon64), (⟨w64 ((-1) - y1), 0, 0, 1, 60, 15, 1, 5⟩ : Anon64), (⟨(-100000000000), 0, 0, 1, 5, 15, 1, 6⟩ : Anon64), (⟨y1, 0, 0, 1, 1, 15, 1, 0⟩ : Anon64)] v54).year), .int .i64 ((rd [(⟨y1, 0, 0, (-1), 1, 1, 1, 1⟩ : Anon64), (⟨y1, 0, 0, 1000001, 1, 1, 1, 1⟩ : Anon64), (⟨y1, 0, 0, 1, (-1), 1, 1, 1⟩ : Anon64), (⟨y1, 0, 0, 1, 1, 100, 1, 1⟩ : Anon64), (⟨y1, 0, 0, 1, 1, 1, (-1), 1⟩ : Anon64), (⟨100000000000, 1, 0, 1, 1, 1, 1, 6⟩ : Anon64), (⟨100000000001, 0, 0, 1, 1, 1, 1, 6⟩ : Anon64), (⟨w64 ((-1) - y1), 0, 0, 1, 60, 15, 1, 5⟩ : Anon64), (⟨(-100000000000), 0, 0, 1, 5, 15, 1, 6⟩ : Anon64), (⟨y1, 0, 0, 1, 1, 15, 1, 0⟩ : Anon64)] v54).f_r), .int .i64 ((rd [(⟨y1, 0, 0, (-1), 1, 1, 1, 1⟩ : Anon64), (⟨y1, 0, 0, 1000001, 1, 1, 1, 1⟩ : Anon64), (⟨y1, 0, 0, 1, (-1), 1, 1, 1⟩ : Anon64), (⟨y1, 0, 0, 1, 1, 100, 1, 1⟩ : Anon64), (⟨y1, 0, 0, 1, 1, 1, (-1), 1⟩ : Anon64), (⟨100000000000, 1, 0, 1, 1, 1, 1, 6⟩ : Anon64), (⟨100000000001, 0, 0, 1, 1, 1, 1, 6⟩ : Anon64), (⟨w64 ((-1) - y1), 0, 0, 1, 60, 15, 1, 5⟩ : Anon64), (⟨(-100000000000), 0, 0, 1, 5, 15, 1, 6⟩ : Anon64), (⟨y1, 0, 0, 1, 1, 15, 1, 0⟩ : Anon64)] v54).f_e)] LD64 rfl rfl ((H55.g2.rd).csA rfl hj71) ?_
        refine r_alloc [.int .i64 0, .int .i64 0, .int .i64 0, .int .i64 0, .int .i64 0, .int .i64 0, .int .i64 0, .int .i64 0] Try.zeroValue64 H55 rfl ?_
        intro b72 wd74 H73
        refine r_stA [.int .i64 ((rd [(⟨y1, 0, 0, (-1), 1, 1, 1, 1⟩ : Anon64), (⟨y1, 0, 0, 1000001, 1, 1, 1, 1⟩ : Anon64), (⟨y1, 0, 0, 1, (-1), 1, 1, 1⟩ : Anon64), (⟨y1, 0, 0, 1, 1, 100, 1, 1⟩ : Anon64), (⟨y1, 0, 0, 1, 1, 1, (-1), 1⟩ : Anon64), (⟨100000000000, 1, 0, 1, 1, 1, 1, 6⟩ : Anon64), (⟨100000000001, 0, 0, 1, 1, 1, 1, 6⟩ : Anon64), (⟨w64 ((-1) - y1), 0, 0, 1, 60, 15, 1, 5⟩ : Anon64), (⟨(-100000000000), 0, 0, 1, 5, 15, 1, 6⟩ : Anon64), (⟨y1, 0, 0, 1, 1, 15, 1, 0⟩ : Anon64)] v54).book), .int .i64 ((rd [(⟨y1, 0, 0, (-1), 1, 1, 1, 1⟩ : Anon64), (⟨y1, 0, 0, 1000001, 1, 1, 1, 1⟩ : Anon64), (⟨y1, 0, 0, 1, (-1), 1, 1, 1⟩ : Anon64), (⟨y1, 0, 0, 1, 1, 100, 1, 1⟩ : Anon64), (⟨y1, 0, 0, 1, 1, 1, (-1), 1⟩ : Anon64), (⟨100000000000, 1, 0, 1, 1, 1, 1, 6⟩ : Anon64), (⟨100000000001, 0, 0, 1, 1, 1, 1, 6⟩ : Anon64), (⟨w64 ((-1) - y1), 0, 0, 1, 60, 15, 1, 5⟩ : Anon64), (⟨(-100000000000), 0, 0, 1, 5, 15, 1, 6⟩ : Anon64), (⟨y1, 0, 0, 1, 1, 15, 1, 0⟩ : Anon64)] v54).perm), .int .i64 ((rd [(⟨y1, 0, 0, (-1), 1, 1, 1, 1⟩ : Anon64), (⟨y1, 0, 0, 1000001, 1, 1, 1, 1⟩ : Anon64), (⟨y1, 0, 0, 1, (-1), 1, 1, 1⟩ : Anon64), (⟨y1, 0, 0, 1, 1, 100, 1, 1⟩ : Anon64), (⟨y1, 0, 0, 1, 1, 1, (-1), 1⟩ : Anon64), (⟨100000000000, 1, 0, 1, 1, 1, 1, 6⟩ : Anon64), (⟨100000000001, 0, 0, 1, 1, 1, 1, 6⟩ : Anon64), (⟨w64 ((-1) - y1), 0, 0, 1, 60, 15, 1, 5⟩ : Anon64), (⟨(-100000000000), 0, 0, 1, 5, 15, 1, 6⟩ : Anon64), (⟨y1, 0, 0, 1, 1, 15, 1, 0⟩ : Anon64)] v54).moved), .int .i64 ((rd [(⟨y1, 0, 0, (-1), 1, 1, 1, 1⟩ : Anon64), (⟨y1, 0, 0, 1000001, 1, 1, 1, 1⟩ : Anon64), (⟨y1, 0, 0, 1, (-1), 1, 1, 1⟩ : Anon64), (⟨y1, 0, 0, 1, 1, 100, 1, 1⟩ : Anon64), (⟨y1, 0, 0, 1, 1, 1, (-1), 1⟩ : Anon64), (⟨100000000000, 1, 0, 1, 1, 1, 1, 6⟩ : Anon64), (⟨100000000001, 0, 0, 1, 1, 1, 1, 6⟩ : Anon64), (⟨w64 ((-1) - y1), 0, 0, 1, 60, 15, 1, 5⟩ : Anon64), (⟨(-100000000000), 0, 0, 1, 5, 15, 1, 6⟩ : Anon64), (⟨y1, 0, 0, 1, 1, 15, 1, 0⟩ : Anon64)] v54).cap), .int .i64 ((rd [(⟨y1, 0, 0, (-1), 1, 1, 1, 1⟩ : Anon64), (⟨y1, 0, 0, 1000001, 1, 1, 1, 1⟩ : Anon64), (⟨y1, 0, 0, 1, (-1), 1, 1, 1⟩ : Anon64), (⟨y1, 0, 0, 1, 1, 100, 1, 1⟩ : Anon64), (⟨y1, 0, 0, 1, 1, 1, (-1), 1⟩ : Anon64), (⟨100000000000, 1, 0, 1, 1, 1, 1, 6⟩ : Anon64), (⟨100000000001, 0, 0, 1, 1, 1, 1, 6⟩ : Anon64), (⟨w64 ((-1) - y1), 0, 0, 1, 60, 15, 1, 5⟩ : Anon64), (⟨(-100000000000), 0, 0, 1, 5, 15, 1, 6⟩ : Anon64), (⟨y1, 0, 0, 1, 1, 15, 1, 0⟩ : Anon64)] v54).life), .int .i64 ((rd [(⟨y1, 0, 0, (-1), 1, 1, 1, 1⟩ : Anon64), (⟨y1, 0, 0, 1000001, 1, 1, 1, 1⟩ : Anon64), (⟨y1, 0, 0, 1, (-1), 1, 1, 1⟩ : Anon64), (⟨y1, 0, 0, 1, 1, 100, 1, 1⟩ : Anon64), (⟨y1, 0, 0, 1, 1, 1, (-1), 1⟩ : Anon64), (⟨100000000000, 1, 0, 1, 1, 1, 1, 6⟩ : Anon64), (⟨100000000001, 0, 0, 1, 1, 1, 1, 6⟩ : Anon64), (⟨w64 ((-1) - y1), 0, 0, 1, 60, 15, 1, 5⟩ : Anon64), (⟨(-100000000000), 0, 0, 1, 5, 15, 1, 6⟩ : Anon64), (⟨y1, 0, 0, 1, 1, 15, 1, 0⟩ : Anon64)] v54).year), .int .i64 ((rd [(⟨y1, 0, 0, (-1), 1, 1, 1, 1⟩ : Anon64), (⟨y1, 0, 0, 1000001, 1, 1, 1, 1⟩ : Anon64), (⟨y1, 0, 0, 1, (-1), 1, 1, 1⟩ : Anon64), (⟨y1, 0, 0, 1, 1, 100, 1, 1⟩ : Anon64), (⟨y1, 0, 0, 1, 1, 1, (-1), 1⟩ : Anon64), (⟨100000000000, 1, 0, 1, 1, 1, 1, 6⟩ : Anon64), (⟨100000000001, 0, 0, 1, 1, 1, 1, 6⟩ : Anon64), (⟨w64 ((-1) - y1), 0, 0, 1, 60, 15, 1, 5⟩ : Anon64), (⟨(-100000000000), 0, 0, 1, 5, 15, 1, 6⟩ : Anon64), (⟨y1, 0, 0, 1, 1, 15, 1, 0⟩ : Anon64)] v54).f_r), .int .i64 ((rd [(⟨y1, 0, 0, (-1), 1, 1, 1, 1⟩ : Anon64), (⟨y1, 0, 0, 1000001, 1, 1, 1, 1⟩ : Anon64), (⟨y1, 0, 0, 1, (-1), 1, 1, 1⟩ : Anon64), (⟨y1, 0, 0, 1, 1, 100, 1, 1⟩ : Anon64), (⟨y1, 0, 0, 1, 1, 1, (-1), 1⟩ : Anon64), (⟨100000000000, 1, 0, 1, 1, 1, 1, 6⟩ : Anon64), (⟨100000000001, 0, 0, 1, 1, 1, 1, 6⟩ : Anon64), (⟨w64 ((-1) - y1), 0, 0, 1, 60, 15, 1, 5⟩ : Anon64), (⟨(-100000000000), 0, 0, 1, 5, 15, 1, 6⟩ : Anon64), (⟨y1, 0, 0, 1, 1, 15, 1, 0⟩ : Anon64)] v54).f_e)] LD64 rfl rfl rfl rfl H73 (Nat.le_of_ble_eq_true rfl) rfl ?_
        intro wd76 H75
        refine r_seq ?_
        refine st_seq ?_
        refine st_region ?_
        refine r_pure (.pointer (some ⟨b13, 0, none⟩)) rfl ?_
        refine r_fa FA64_0 ⟨b72, 0, none⟩ rfl rfl ?_
        refine r_ld1 (.int .i64 ((rd [(⟨y1, 0, 0, (-1), 1, 1, 1, 1⟩ : Anon64), (⟨y1, 0, 0, 1000001, 1, 1, 1, 1⟩ : Anon64), (⟨y1, 0, 0, 1, (-1), 1, 1, 1⟩ : Anon64), (⟨y1, 0, 0, 1, 1, 100, 1, 1⟩ : Anon64), (⟨y1, 0, 0, 1, 1, 1, (-1), 1⟩ : Anon64), (⟨100000000000, 1, 0, 1, 1, 1, 1, 6⟩ : Anon64), (⟨100000000001, 0, 0, 1, 1, 1, 1, 6⟩ : Anon64), (⟨w64 ((-1) - y1), 0, 0, 1, 60, 15, 1, 5⟩ : Anon64), (⟨(-100000000000), 0, 0, 1, 5, 15, 1, 6⟩ : Anon64), (⟨y1, 0, 0, 1, 1, 15, 1, 0⟩ : Anon64)] v54).book)) LD3 rfl ((H75.g0).cell _ rfl) ?_
        refine r_fa FA64_1 ⟨b72, 1, none⟩ rfl rfl ?_
        refine r_ld1 (.int .i64 ((rd [(⟨y1, 0, 0, (-1), 1, 1, 1, 1⟩ : Anon64), (⟨y1, 0, 0, 1000001, 1, 1, 1, 1⟩ : Anon64), (⟨y1, 0, 0, 1, (-1), 1, 1, 1⟩ : Anon64), (⟨y1, 0, 0, 1, 1, 100, 1, 1⟩ : Anon64), (⟨y1, 0, 0, 1, 1, 1, (-1), 1⟩ : Anon64), (⟨100000000000, 1, 0, 1, 1, 1, 1, 6⟩ : Anon64), (⟨100000000001, 0, 0, 1, 1, 1, 1, 6⟩ : Anon64), (⟨w64 ((-1) - y1), 0, 0, 1, 60, 15, 1, 5⟩ : Anon64), (⟨(-100000000000), 0, 0, 1, 5, 15, 1, 6⟩ : Anon64), (⟨y1, 0, 0, 1, 1, 15, 1, 0⟩ : Anon64)] v54).perm)) LD3 rfl ((H75.g0).cell _ rfl) ?_
        refine r_fa FA64_2 ⟨b72, 2, none⟩ rfl rfl ?_
        refine r_ld1 (.int .i64 ((rd [(⟨y1, 0, 0, (-1), 1, 1, 1, 1⟩ : Anon64), (⟨y1, 0, 0, 1000001, 1, 1, 1, 1⟩ : Anon64), (⟨y1, 0, 0, 1, (-1), 1, 1, 1⟩ : Anon64), (⟨y1, 0, 0, 1, 1, 100, 1, 1⟩ : Anon64), (⟨y1, 0, 0, 1, 1, 1, (-1), 1⟩ : Anon64), (⟨100000000000, 1, 0, 1, 1, 1, 1, 6⟩ : Anon64), (⟨100000000001, 0, 0, 1, 1, 1, 1, 6⟩ : Anon64), (⟨w64 ((-1) - y1), 0, 0, 1, 60, 15, 1, 5⟩ : Anon64), (⟨(-100000000000), 0, 0, 1, 5, 15, 1, 6⟩ : Anon64), (⟨y1, 0, 0, 1, 1, 15, 1, 0⟩ : Anon64)] v54).moved)) LD3 rfl ((H75.g0).cell _ rfl) ?_
        refine r_fa FA64_3 ⟨b72, 3, none⟩ rfl rfl ?_
        refine r_ld1 (.int .i64 ((rd [(⟨y1, 0, 0, (-1), 1, 1, 1, 1⟩ : Anon64), (⟨y1, 0, 0, 1000001, 1, 1, 1, 1⟩ : Anon64), (⟨y1, 0, 0, 1, (-1), 1, 1, 1⟩ : Anon64), (⟨y1, 0, 0, 1, 1, 100, 1, 1⟩ : Anon64), (⟨y1, 0, 0, 1, 1, 1, (-1), 1⟩ : Anon64), (⟨100000000000, 1, 0, 1, 1, 1, 1, 6⟩ : Anon64), (⟨100000000001, 0, 0, 1, 1, 1, 1, 6⟩ : Anon64), (⟨w64 ((-1) - y1), 0, 0, 1, 60, 15, 1, 5⟩ : Anon64), (⟨(-100000000000), 0, 0, 1, 5, 15, 1, 6⟩ : Anon64), (⟨y1, 0, 0, 1, 1, 15, 1, 0⟩ : Anon64)] v54).cap)) LD3 rfl ((H75.g0).cell _ rfl) ?_
        refine r_fa FA64_4 ⟨b72, 4, none⟩ rfl rfl ?_
        refine r_ld1 (.int .i64 ((rd [(⟨y1, 0, 0, (-1), 1, 1, 1, 1⟩ : Anon64), (⟨y1, 0, 0, 1000001, 1, 1, 1, 1⟩ : Anon64), (⟨y1, 0, 0, 1, (-1), 1, 1, 1⟩ : Anon64), (⟨y1, 0, 0, 1, 1, 100, 1, 1⟩ : Anon64), (⟨y1, 0, 0, 1, 1, 1, (-1), 1⟩ : Anon64), (⟨100000000000, 1, 0, 1, 1, 1, 1, 6⟩ : Anon64), (⟨100000000001, 0, 0, 1, 1, 1, 1, 6⟩ : Anon64), (⟨w64 ((-1) - y1), 0, 0, 1, 60, 15, 1, 5⟩ : Anon64), (⟨(-100000000000), 0, 0, 1, 5, 15, 1, 6⟩ : Anon64), (⟨y1, 0, 0, 1, 1, 15, 1, 0⟩ : Anon64)] v54).life)) LD3 rfl ((H75.g0).cell _ rfl) ?_
        refine r_fa FA64_5 ⟨b72, 5, none⟩ rfl rfl ?_
        refine r_ld1 (.int .i64 ((rd [(⟨y1, 0, 0, (-1), 1, 1, 1, 1⟩ : Anon64), (⟨y1, 0, 0, 1000001, 1, 1, 1, 1⟩ : Anon64), (⟨y1, 0, 0, 1, (-1), 1, 1, 1⟩ : Anon64), (⟨y1, 0, 0, 1, 1, 100, 1, 1⟩ : Anon64), (⟨y1, 0, 0, 1, 1, 1, (-1), 1⟩ : Anon64), (⟨100000000000, 1, 0, 1, 1, 1, 1, 6⟩ : Anon64), (⟨100000000001, 0, 0, 1, 1, 1, 1, 6⟩ : Anon64), (⟨w64 ((-1) - y1), 0, 0, 1, 60, 15, 1, 5⟩ : Anon64), (⟨(-100000000000), 0, 0, 1, 5, 15, 1, 6⟩ : Anon64), (⟨y1, 0, 0, 1, 1, 15, 1, 0⟩ : Anon64)] v54).year)) LD3 rfl ((H75.g0).cell _ rfl) ?_
        refine r_fa FA64_6 ⟨b72, 6, none⟩ rfl rfl ?_
        refine r_ld1 (.int .i64 ((rd [(⟨y1, 0, 0, (-1), 1, 1, 1, 1⟩ : Anon64), (⟨y1, 0, 0, 1000001, 1, 1, 1, 1⟩ : Anon64), (⟨y1, 0, 0, 1, (-1), 1, 1, 1⟩ : Anon64), (⟨y1, 0, 0, 1, 1, 100, 1, 1⟩ : Anon64), (⟨y1, 0, 0, 1, 1, 1, (-1), 1⟩ : Anon64), (⟨100000000000, 1, 0, 1, 1, 1, 1, 6⟩ : Anon64), (⟨100000000001, 0, 0, 1, 1, 1, 1, 6⟩ : Anon64), (⟨w64 ((-1) - y1), 0, 0, 1, 60, 15, 1, 5⟩ : Anon64), (⟨(-100000000000), 0, 0, 1, 5, 15, 1, 6⟩ : Anon64), (⟨y1, 0, 0, 1, 1, 15, 1, 0⟩ : Anon64)] v54).f_r)) LD3 rfl ((H75.g0).cell _ rfl) ?_
        obtain ⟨⟨y77, y78, y79⟩, hy80, hm⟩ := bind_some hm
        refine r_callf Try.call35 (current_Tax_ok b13 (⟨xs25⟩ : vintage_Losses) A22 xs25.length c24 rfl (((H75).g1).cap) (fun _ H => (H.g1.rd)) (fun _ H => (H.g2)) ((rd [(⟨y1, 0, 0, (-1), 1, 1, 1, 1⟩ : Anon64), (⟨y1, 0, 0, 1000001, 1, 1, 1, 1⟩ : Anon64), (⟨y1, 0, 0, 1, (-1), 1, 1, 1⟩ : Anon64), (⟨y1, 0, 0, 1, 1, 100, 1, 1⟩ : Anon64), (⟨y1, 0, 0, 1, 1, 1, (-1), 1⟩ : Anon64), (⟨100000000000, 1, 0, 1, 1, 1, 1, 6⟩ : Anon64), (⟨100000000001, 0, 0, 1, 1, 1, 1, 6⟩ : Anon64), (⟨w64 ((-1) - y1), 0, 0, 1, 60, 15, 1, 5⟩ : Anon64), (⟨(-100000000000), 0, 0, 1, 5, 15, 1, 6⟩ : Anon64), (⟨y1, 0, 0, 1, 1, 15, 1, 0⟩ : Anon64)] v54).book) ((rd [(⟨y1, 0, 0, (-1), 1, 1, 1, 1⟩ : Anon64), (⟨y1, 0, 0, 1000001, 1, 1, 1, 1⟩ : Anon64), (⟨y1, 0, 0, 1, (-1), 1, 1, 1⟩ : Anon64), (⟨y1, 0, 0, 1, 1, 100, 1, 1⟩ : Anon64), (⟨y1, 0, 0, 1, 1, 1, (-1), 1⟩ : Anon64), (⟨100000000000, 1, 0, 1, 1, 1, 1, 6⟩ : Anon64), (⟨100000000001, 0, 0, 1, 1, 1, 1, 6⟩ : Anon64), (⟨w64 ((-1) - y1), 0, 0, 1, 60, 15, 1, 5⟩ : Anon64), (⟨(-100000000000), 0, 0, 1, 5, 15, 1, 6⟩ : Anon64), (⟨y1, 0, 0, 1, 1, 15, 1, 0⟩ : Anon64)] v54).perm) ((rd [(⟨y1, 0, 0, (-1), 1, 1, 1, 1⟩ : Anon64), (⟨y1, 0, 0, 1000001, 1, 1, 1, 1⟩ : Anon64), (⟨y1, 0, 0, 1, (-1), 1, 1, 1⟩ : Anon64), (⟨y1, 0, 0, 1, 1, 100, 1, 1⟩ : Anon64), (⟨y1, 0, 0, 1, 1, 1, (-1), 1⟩ : Anon64), (⟨100000000000, 1, 0, 1, 1, 1, 1, 6⟩ : Anon64), (⟨100000000001, 0, 0, 1, 1, 1, 1, 6⟩ : Anon64), (⟨w64 ((-1) - y1), 0, 0, 1, 60, 15, 1, 5⟩ : Anon64), (⟨(-100000000000), 0, 0, 1, 5, 15, 1, 6⟩ : Anon64), (⟨y1, 0, 0, 1, 1, 15, 1, 0⟩ : Anon64)] v54).moved) ((rd [(⟨y1, 0, 0, (-1), 1, 1, 1, 1⟩ : Anon64), (⟨y1, 0, 0, 1000001, 1, 1, 1, 1⟩ : Anon64), (⟨y1, 0, 0, 1, (-1), 1, 1, 1⟩ : Anon64), (⟨y1, 0, 0, 1, 1, 100, 1, 1⟩ : Anon64), (⟨y1, 0, 0, 1, 1, 1, (-1), 1⟩ : Anon64), (⟨100000000000, 1, 0, 1, 1, 1, 1, 6⟩ : Anon64), (⟨100000000001, 0, 0, 1, 1, 1, 1, 6⟩ : Anon64), (⟨w64 ((-1) - y1), 0, 0, 1, 60, 15, 1, 5⟩ : Anon64), (⟨(-100000000000), 0, 0, 1, 5, 15, 1, 6⟩ : Anon64), (⟨y1, 0, 0, 1, 1, 15, 1, 0⟩ : Anon64)] v54).cap) ((rd [(⟨y1, 0, 0, (-1), 1, 1, 1, 1⟩ : Anon64), (⟨y1, 0, 0, 1000001, 1, 1, 1, 1⟩ : Anon64), (⟨y1, 0, 0, 1, (-1), 1, 1, 1⟩ : Anon64), (⟨y1, 0, 0, 1, 1, 100, 1, 1⟩ : Anon64), (⟨y1, 0, 0, 1, 1, 1, (-1), 1⟩ : Anon64), (⟨100000000000, 1, 0, 1, 1, 1, 1, 6⟩ : Anon64), (⟨100000000001, 0, 0, 1, 1, 1, 1, 6⟩ : Anon64), (⟨w64 ((-1) - y1), 0, 0, 1, 60, 15, 1, 5⟩ : Anon64), (⟨(-100000000000), 0, 0, 1, 5, 15, 1, 6⟩ : Anon64), (⟨y1, 0, 0, 1, 1, 15, 1, 0⟩ : Anon64)] v54).life) ((rd [(⟨y1, 0, 0, (-1), 1, 1, 1, 1⟩ : Anon64), (⟨y1, 0, 0, 1000001, 1, 1, 1, 1⟩ : Anon64), (⟨y1, 0, 0, 1, (-1), 1, 1, 1⟩ : Anon64), (⟨y1, 0, 0, 1, 1, 100, 1, 1⟩ : Anon64), (⟨y1, 0, 0, 1, 1, 1, (-1), 1⟩ : Anon64), (⟨100000000000, 1, 0, 1, 1, 1, 1, 6⟩ : Anon64), (⟨100000000001, 0, 0, 1, 1, 1, 1, 6⟩ : Anon64), (⟨w64 ((-1) - y1), 0, 0, 1, 60, 15, 1, 5⟩ : Anon64), (⟨(-100000000000), 0, 0, 1, 5, 15, 1, 6⟩ : Anon64), (⟨y1, 0, 0, 1, 1, 15, 1, 0⟩ : Anon64)] v54).year) ((rd [(⟨y1, 0, 0, (-1), 1, 1, 1, 1⟩ : Anon64), (⟨y1, 0, 0, 1000001, 1, 1, 1, 1⟩ : Anon64), (⟨y1, 0, 0, 1, (-1), 1, 1, 1⟩ : Anon64), (⟨y1, 0, 0, 1, 1, 100, 1, 1⟩ : Anon64), (⟨y1, 0, 0, 1, 1, 1, (-1), 1⟩ : Anon64), (⟨100000000000, 1, 0, 1, 1, 1, 1, 6⟩ : Anon64), (⟨100000000001, 0, 0, 1, 1, 1, 1, 6⟩ : Anon64), (⟨w64 ((-1) - y1), 0, 0, 1, 60, 15, 1, 5⟩ : Anon64), (⟨(-100000000000), 0, 0, 1, 5, 15, 1, 6⟩ : Anon64), (⟨y1, 0, 0, 1, 1, 15, 1, 0⟩ : Anon64)] v54).f_r) y77 y78 y79 H75 hy80) ?_
        rintro e82 wd81 (⟨hn86, A87, n88, c89, rfl, H84⟩ | ⟨o83, hn86, A90, n91, c92, b93, A94, n95, c96, rfl, H85⟩)
        · subst hn86
          obtain rfl := (H84.g0).leneq
          have hm : (if (y79 != (rd [(⟨y1, 0, 0, (-1), 1, 1, 1, 1⟩ : Anon64), (⟨y1, 0, 0, 1000001, 1, 1, 1, 1⟩ : Anon64), (⟨y1, 0, 0, 1, (-1), 1, 1, 1⟩ : Anon64), (⟨y1, 0, 0, 1, 1, 100, 1, 1⟩ : Anon64), (⟨y1, 0, 0, 1, 1, 1, (-1), 1⟩ : Anon64), (⟨100000000000, 1, 0, 1, 1, 1, 1, 6⟩ : Anon64), (⟨100000000001, 0, 0, 1, 1, 1, 1, 6⟩ : Anon64), (⟨w64 ((-1) - y1), 0, 0, 1, 60, 15, 1, 5⟩ : Anon64), (⟨(-100000000000), 0, 0, 1, 5, 15, 1, 6⟩ : Anon64), (⟨y1, 0, 0, 1, 1, 15, 1, 0⟩ : Anon64)] v54).f_e) = true then scutagelaw15_CurrentErrors.j2 (scutagelaw15_CurrentErrors.l2 y1 xs25 fuel64) v54 true else (if (!(false == (y79 == 0))) = true then scutagelaw15_CurrentErrors.j2 (scutagelaw15_CurrentErrors.l2 y1 xs25 fuel64) v54 true else (if (y79 != 0) = true then (if (y77.Income != 0) = true then scutagelaw15_CurrentErrors.j2 (scutagelaw15_CurrentErrors.l2 y1 xs25 fuel64) v54 true else (if (y77.Tax != 0) = true then scutagelaw15_CurrentErrors.j2 (scutagelaw15_CurrentErrors.l2 y1 xs25 fuel64) v54 true else scutagelaw15_CurrentErrors.j2 (scutagelaw15_CurrentErrors.l2 y1 xs25 fuel64) v54 (y77.New != 0))) else scutagelaw15_CurrentErrors.j2 (scutagelaw15_CurrentErrors.l2 y1 xs25 fuel64) v54 false))) = some tl57 := hm
          refine ⟨_, rfl, ?_⟩
          refine r_pure (.tuple #[.agg #[.int .i64 y77.Income, .int .i64 y77.Expired, .int .i64 y77.Used, .int .i64 y77.New, .int .i64 y77.Taxable, .int .i64 y77.Tax, .slice A87 y77.Vector.length c89], .pointer none, .int .i64 y79]) rfl ?_
          refine r_pure (.agg #[.int .i64 y77.Income, .int .i64 y77.Expired, .int .i64 y77.Used, .int .i64 y77.New, .int .i64 y77.Taxable, .int .i64 y77.Tax, .slice A87 y77.Vector.length c89]) rfl ?_
          refine r_pure (.pointer none) rfl ?_
          refine r_pure (.int .i64 y79) rfl ?_
          refine r_alloc [.int .i64 0, .int .i64 0, .int .i64 0, .int .i64 0, .int .i64 0, .int .i64 0, .slice none 0 0] Try.zeroValue59 H84 rfl ?_
          intro b97 wd99 H98
          refine r_stA [.int .i64 y77.Income, .int .i64 y77.Expired, .int .i64 y77.Used, .int .i64 y77.New, .int .i64 y77.Taxable, .int .i64 y77.Tax, .slice A87 y77.Vector.length c89] LD59 rfl rfl rfl rfl H98 (Nat.le_of_ble_eq_true rfl) rfl ?_
          intro wd101 H100
          refine r_pure (.pointer none) rfl ?_
          refine r_pure (.int .i64 y79) rfl ?_
          refine r_seq ?_
          refine st_cut (fun ρ w => ∃ q102 : Bool, (∃ base, ρ = updl base [(3, .pointer (some ⟨b13, 0, none⟩)), (42, .slice (some ⟨b50, 0, none⟩) 10 10), (43, .int .i64 (10 : Int)), (44, .int .i64 v54), (97, .bool q102)]) ∧ Hp w0 (Row K38 (.slice A22 xs25.length c24) xs25 :: Bx b13 75 [.slice A22 xs25.length c24] :: Row K64 (.slice (some ⟨b50, 0, none⟩) 10 10) [(⟨y1, 0, 0, (-1), 1, 1, 1, 1⟩ : Anon64), (⟨y1, 0, 0, 1000001, 1, 1, 1, 1⟩ : Anon64), (⟨y1, 0, 0, 1, (-1), 1, 1, 1⟩ : Anon64), (⟨y1, 0, 0, 1, 1, 100, 1, 1⟩ : Anon64), (⟨y1, 0, 0, 1, 1, 1, (-1), 1⟩ : Anon64), (⟨100000000000, 1, 0, 1, 1, 1, 1, 6⟩ : Anon64), (⟨100000000001, 0, 0, 1, 1, 1, 1, 6⟩ : Anon64), (⟨w64 ((-1) - y1), 0, 0, 1, 60, 15, 1, 5⟩ : Anon64), (⟨(-100000000000), 0, 0, 1, 5, 15, 1, 6⟩ : Anon64), (⟨y1, 0, 0, 1, 1, 15, 1, 0⟩ : Anon64)] :: Γ) w ∧ scutagelaw15_CurrentErrors.j2 (scutagelaw15_CurrentErrors.l2 y1 xs25 fuel64) v54 q102 = some tl57) ?_ ?_
          · refine st_region ?_
            refine r_pure (.int .i64 y79) rfl ?_
            refine r_fa FA64_7 ⟨b72, 7, none⟩ rfl rfl ?_
            refine r_ld1 (.int .i64 ((rd [(⟨y1, 0, 0, (-1), 1, 1, 1, 1⟩ : Anon64), (⟨y1, 0, 0, 1000001, 1, 1, 1, 1⟩ : Anon64), (⟨y1, 0, 0, 1, (-1), 1, 1, 1⟩ : Anon64), (⟨y1, 0, 0, 1, 1, 100, 1, 1⟩ : Anon64), (⟨y1, 0, 0, 1, 1, 1, (-1), 1⟩ : Anon64), (⟨100000000000, 1, 0, 1, 1, 1, 1, 6⟩ : Anon64), (⟨100000000001, 0, 0, 1, 1, 1, 1, 6⟩ : Anon64), (⟨w64 ((-1) - y1), 0, 0, 1, 60, 15, 1, 5⟩ : Anon64), (⟨(-100000000000), 0, 0, 1, 5, 15, 1, 6⟩ : Anon64), (⟨y1, 0, 0, 1, 1, 15, 1, 0⟩ : Anon64)] v54).f_e)) LD34 rfl ((H100.g2).cell _ rfl) ?_
            refine r_pure (.bool (y79 != (rd [(⟨y1, 0, 0, (-1), 1, 1, 1, 1⟩ : Anon64), (⟨y1, 0, 0, 1000001, 1, 1, 1, 1⟩ : Anon64), (⟨y1, 0, 0, 1, (-1), 1, 1, 1⟩ : Anon64), (⟨y1, 0, 0, 1, 1, 100, 1, 1⟩ : Anon64), (⟨y1, 0, 0, 1, 1, 1, (-1), 1⟩ : Anon64), (⟨100000000000, 1, 0, 1, 1, 1, 1, 6⟩ : Anon64), (⟨100000000001, 0, 0, 1, 1, 1, 1, 6⟩ : Anon64), (⟨w64 ((-1) - y1), 0, 0, 1, 60, 15, 1, 5⟩ : Anon64), (⟨(-100000000000), 0, 0, 1, 5, 15, 1, 6⟩ : Anon64), (⟨y1, 0, 0, 1, 1, 15, 1, 0⟩ : Anon64)] v54).f_e)) rfl ?_
            refine r_pure (.bool (y79 != (rd [(⟨y1, 0, 0, (-1), 1, 1, 1, 1⟩ : Anon64), (⟨y1, 0, 0, 1000001, 1, 1, 1, 1⟩ : Anon64), (⟨y1, 0, 0, 1, (-1), 1, 1, 1⟩ : Anon64), (⟨y1, 0, 0, 1, 1, 100, 1, 1⟩ : Anon64), (⟨y1, 0, 0, 1, 1, 1, (-1), 1⟩ : Anon64), (⟨100000000000, 1, 0, 1, 1, 1, 1, 6⟩ : Anon64), (⟨100000000001, 0, 0, 1, 1, 1, 1, 6⟩ : Anon64), (⟨w64 ((-1) - y1), 0, 0, 1, 60, 15, 1, 5⟩ : Anon64), (⟨(-100000000000), 0, 0, 1, 5, 15, 1, 6⟩ : Anon64), (⟨y1, 0, 0, 1, 1, 15, 1, 0⟩ : Anon64)] v54).f_e)) rfl ?_
            rcases ite_some hm with ⟨hb105, hm⟩ | ⟨hb105, hm⟩
            · refine r_not (wn_f rfl rfl (by decide) rfl hb105) ?_
              refine r_not (wn_f rfl rfl (by decide) rfl hb105) ?_
              refine r_not (wn_f rfl rfl (by decide) rfl hb105) ?_
              refine r_not (wn_f rfl rfl (by decide) rfl hb105) ?_
              refine r_not (wn_f rfl rfl (by decide) rfl hb105) ?_
              refine r_pick_t (.bool true) hb105 rfl rfl ?_
              refine r_pure (.bool true) rfl ?_
              refine r_not (wn_f rfl rfl (by decide) rfl rfl) ?_
              refine r_not (wn_f rfl rfl (by decide) rfl rfl) ?_
              refine r_not (wn_f rfl rfl (by decide) rfl rfl) ?_
              refine r_not (wn_u rfl rfl (by decide) rfl rfl) ?_
              refine r_not (wn_u rfl rfl (by decide) rfl rfl) ?_
              refine r_not (wn_u rfl rfl (by decide) rfl rfl) ?_
              refine r_not (wn_u rfl rfl (by decide) rfl rfl) ?_
              refine r_not (wn_u rfl rfl (by decide) rfl rfl) ?_
              refine r_not (wn_u rfl rfl (by decide) rfl rfl) ?_
              refine r_not (wn_u rfl rfl (by decide) rfl rfl) ?_
              refine r_not (wn_u rfl rfl (by decide) rfl rfl) ?_
              refine r_not (wn_u rfl rfl (by decide) rfl rfl) ?_
              refine r_not (wn_u rfl rfl (by decide) rfl rfl) ?_
              refine r_not (wn_u rfl rfl (by decide) rfl rfl) ?_
              refine r_not (wn_u rfl rfl (by decide) rfl rfl) ?_
              refine r_not (wn_u rfl rfl (by decide) rfl rfl) ?_
              refine r_not (wn_f rfl rfl (by decide) rfl rfl) ?_
              refine r_pick_t (.bool true) rfl rfl rfl ?_
              refine r_nil ?_
              refine n_cut ⟨true, upk (ac rfl (ac rfl (ac rfl (ac rfl (ac rfl an))))), H100.d.d.d.u2.u2.u2, hm⟩
            · refine r_pure (.pointer none) rfl ?_ (wn_t rfl rfl (by decide) rfl hb105)
              refine r_nen Try.underlying23 rfl rfl ?_ (wn_t rfl rfl (by decide) rfl hb105)
              refine r_pure (.int .i64 y79) rfl ?_ (wn_t rfl rfl (by decide) rfl hb105)
              refine r_pure (.bool (y79 == 0)) rfl ?_ (wn_t rfl rfl (by decide) rfl hb105)
              refine r_neb Try.underlying4 rfl rfl ?_ (wn_t rfl rfl (by decide) rfl hb105)
              refine r_pick_f (.bool (!(false == (y79 == 0)))) hb105 rfl rfl ?_
              refine r_pure (.bool (!(false == (y79 == 0)))) rfl ?_
              rcases ite_some hm with ⟨hb106, hm⟩ | ⟨hb106, hm⟩
              · refine r_not (wn_f rfl rfl (by decide) rfl hb106) ?_
                refine r_not (wn_f rfl rfl (by decide) rfl hb106) ?_
                refine r_not (wn_f rfl rfl (by decide) rfl hb106) ?_
                refine r_not (wn_u rfl rfl (by decide) rfl rfl) ?_
                refine r_not (wn_u rfl rfl (by decide) rfl rfl) ?_
                refine r_not (wn_u rfl rfl (by decide) rfl rfl) ?_
                refine r_not (wn_u rfl rfl (by decide) rfl rfl) ?_
                refine r_not (wn_u rfl rfl (by decide) rfl rfl) ?_
                refine r_not (wn_u rfl rfl (by decide) rfl rfl) ?_
                refine r_not (wn_u rfl rfl (by decide) rfl rfl) ?_
                refine r_not (wn_u rfl rfl (by decide) rfl rfl) ?_
                refine r_not (wn_u rfl rfl (by decide) rfl rfl) ?_
                refine r_not (wn_u rfl rfl (by decide) rfl rfl) ?_
                refine r_not (wn_u rfl rfl (by decide) rfl rfl) ?_
                refine r_not (wn_u rfl rfl (by decide) rfl rfl) ?_
                refine r_not (wn_u rfl rfl (by decide) rfl rfl) ?_
                refine r_not (wn_f rfl rfl (by decide) rfl hb106) ?_
                refine r_pick_t (.bool true) hb106 rfl rfl ?_
                refine r_nil ?_
                refine n_cut ⟨true, upk (ac rfl (ac rfl (ac rfl (ac rfl (ac rfl an))))), H100.d.d.d.u2.u2.u2, hm⟩
              · refine r_pure (.int .i64 y79) rfl ?_ (wn_t rfl rfl (by decide) rfl hb106)
                refine r_pure (.bool (y79 != 0)) rfl ?_ (wn_t rfl rfl (by decide) rfl hb106)
                refine r_pure (.bool (y79 != 0)) rfl ?_ (wn_t rfl rfl (by decide) rfl hb106)
                rcases ite_some hm with ⟨hb107, hm⟩ | ⟨hb107, hm⟩
                · refine r_fa FA59_0 ⟨b97, 0, none⟩ rfl rfl ?_ (wn_t rfl rfl (by decide) rfl hb107)
                  refine r_ld1 (.int .i64 y77.Income) LD3 rfl ((H100.g0).cell _ rfl) ?_ (wn_t rfl rfl (by decide) rfl hb107)
                  refine r_pure (.bool (y77.Income != 0)) rfl ?_ (wn_t rfl rfl (by decide) rfl hb107)
                  refine r_pure (.bool (y77.Income != 0)) rfl ?_ (wn_t rfl rfl (by decide) rfl hb107)
                  rcases ite_some hm with ⟨hb108, hm⟩ | ⟨hb108, hm⟩
                  · refine r_not (wn_f rfl rfl (by decide) rfl hb108) ?_
                    refine r_not (wn_f rfl rfl (by decide) rfl hb108) ?_
                    refine r_not (wn_f rfl rfl (by decide) rfl hb108) ?_
                    refine r_pick_t (.bool true) hb108 rfl rfl ?_ (wn_t rfl rfl (by decide) rfl hb107)
                    refine r_pure (.bool true) rfl ?_ (wn_t rfl rfl (by decide) rfl hb107)
                    refine r_not (wn_f rfl rfl (by decide) rfl rfl) ?_
                    refine r_not (wn_f rfl rfl (by decide) rfl rfl) ?_
                    refine r_not (wn_f rfl rfl (by decide) rfl rfl) ?_
                    refine r_pick_t (.bool true) rfl rfl rfl ?_ (wn_t rfl rfl (by decide) rfl hb107)
                    refine r_pick_t (.bool true) hb107 rfl rfl ?_ (wn_t rfl rfl (by decide) rfl hb106)
                    refine r_pick_f (.bool true) hb106 rfl rfl ?_
                    refine r_nil ?_
                    refine n_cut ⟨true, upk (ac rfl (ac rfl (ac rfl (ac rfl (ac rfl an))))), H100.d.d.d.u2.u2.u2, hm⟩
                  · refine r_fa FA59_5 ⟨b97, 5, none⟩ rfl rfl ?_ (wn_t rfl rfl (by decide) rfl hb108)
                    refine r_ld1 (.int .i64 y77.Tax) LD3 rfl ((H100.g0).cell _ rfl) ?_ (wn_t rfl rfl (by decide) rfl hb108)
                    refine r_pure (.bool (y77.Tax != 0)) rfl ?_ (wn_t rfl rfl (by decide) rfl hb108)
                    refine r_pick_f (.bool (y77.Tax != 0)) hb108 rfl rfl ?_ (wn_t rfl rfl (by decide) rfl hb107)
                    refine r_pure (.bool (y77.Tax != 0)) rfl ?_ (wn_t rfl rfl (by decide) rfl hb107)
                    rcases ite_some hm with ⟨hb109, hm⟩ | ⟨hb109, hm⟩
                    · refine r_not (wn_f rfl rfl (by decide) rfl hb109) ?_
                      refine r_not (wn_f rfl rfl (by decide) rfl hb109) ?_
                      refine r_not (wn_f rfl rfl (by decide) rfl hb109) ?_
                      refine r_pick_t (.bool true) hb109 rfl rfl ?_ (wn_t rfl rfl (by decide) rfl hb107)
                      refine r_pick_t (.bool true) hb107 rfl rfl ?_ (wn_t rfl rfl (by decide) rfl hb106)
                      refine r_pick_f (.bool true) hb106 rfl rfl ?_
                      refine r_nil ?_
                      refine n_cut ⟨true, upk (ac rfl (ac rfl (ac rfl (ac rfl (ac rfl an))))), H100.d.d.d.u2.u2.u2, hm⟩
                    · refine r_fa FA59_3 ⟨b97, 3, none⟩ rfl rfl ?_ (wn_t rfl rfl (by decide) rfl hb109)
                      refine r_ld1 (.int .i64 y77.New) LD3 rfl ((H100.g0).cell _ rfl) ?_ (wn_t rfl rfl (by decide) rfl hb109)
                      refine r_pure (.bool (y77.New != 0)) rfl ?_ (wn_t rfl rfl (by decide) rfl hb109)
                      refine r_pick_f (.bool (y77.New != 0)) hb109 rfl rfl ?_ (wn_t rfl rfl (by decide) rfl hb107)
                      refine r_pick_t (.bool (y77.New != 0)) hb107 rfl rfl ?_ (wn_t rfl rfl (by decide) rfl hb106)
                      refine r_pick_f (.bool (y77.New != 0)) hb106 rfl rfl ?_
                      refine r_nil ?_
                      refine n_cut ⟨y77.New != 0, upk (ac rfl (ac rfl (ac rfl (ac rfl (ac rfl an))))), H100.d.d.d.u2.u2.u2, hm⟩
                · refine r_not (wn_f rfl rfl (by decide) rfl hb107) ?_
                  refine r_not (wn_f rfl rfl (by decide) rfl hb107) ?_
                  refine r_not (wn_f rfl rfl (by decide) rfl hb107) ?_
                  refine r_not (wn_f rfl rfl (by decide) rfl hb107) ?_
                  refine r_not (wn_u rfl rfl (by decide) rfl rfl) ?_
                  refine r_not (wn_u rfl rfl (by decide) rfl rfl) ?_
                  refine r_not (wn_u rfl rfl (by decide) rfl rfl) ?_
                  refine r_not (wn_f rfl rfl (by decide) rfl hb107) ?_
                  refine r_not (wn_f rfl rfl (by decide) rfl hb107) ?_
                  refine r_not (wn_u rfl rfl (by decide) rfl rfl) ?_
                  refine r_not (wn_u rfl rfl (by decide) rfl rfl) ?_
                  refine r_not (wn_u rfl rfl (by decide) rfl rfl) ?_
                  refine r_not (wn_f rfl rfl (by decide) rfl hb107) ?_
                  refine r_pick_f (.bool false) hb107 rfl rfl ?_ (wn_t rfl rfl (by decide) rfl hb106)
                  refine r_pick_f (.bool false) hb106 rfl rfl ?_
                  refine r_nil ?_
                  refine n_cut ⟨false, upk (ac rfl (ac rfl (ac rfl (ac rfl (ac rfl an))))), H100.d.d.d.u2.u2.u2, hm⟩
          · rintro ρ w ⟨q102, ⟨base, rfl⟩, H103, hm⟩
            unfold scutagelaw15_CurrentErrors.j2 at hm
            rcases ite_some hm with ⟨hb104, hm⟩ | ⟨hb104, hm⟩
            · refine st_condt hb104 rfl ?_
              refine st_seq ?_
              refine st_region ?_
              refine r_pure (.bool false) rfl ?_
              refine r_seq ?_
              have hq_ := Option.some.inj hm
              subst hq_
              have hq_ := Option.some.inj (show some (false : Bool) = some r0_ from hm56)
              subst hq_
              refine st_ret1 rfl rfl (Nat.le_of_ble_eq_true rfl) rfl ?_
              exact ⟨rfl, H103.d.d.d⟩
            · refine st_condf hb104 rfl ?_
              refine st_skip ?_
              refine n_bl ?_
              refine n_cut ⟨upk (ac rfl (ac rfl (ac rfl (ac rfl an)))), H103.u2.u2.u2, hm⟩
        · subst hn86
          obtain rfl := (H85.g0).leneq
          obtain rfl := (H85.g2).leneq
          have hm : (if (y79 != (rd [(⟨y1, 0, 0, (-1), 1, 1, 1, 1⟩ : Anon64), (⟨y1, 0, 0, 1000001, 1, 1, 1, 1⟩ : Anon64), (⟨y1, 0, 0, 1, (-1), 1, 1, 1⟩ : Anon64), (⟨y1, 0, 0, 1, 1, 100, 1, 1⟩ : Anon64), (⟨y1, 0, 0, 1, 1, 1, (-1), 1⟩ : Anon64), (⟨100000000000, 1, 0, 1, 1, 1, 1, 6⟩ : Anon64), (⟨100000000001, 0, 0, 1, 1, 1, 1, 6⟩ : Anon64), (⟨w64 ((-1) - y1), 0, 0, 1, 60, 15, 1, 5⟩ : Anon64), (⟨(-100000000000), 0, 0, 1, 5, 15, 1, 6⟩ : Anon64), (⟨y1, 0, 0, 1, 1, 15, 1, 0⟩ : Anon64)] v54).f_e) = true then scutagelaw15_CurrentErrors.j3 (scutagelaw15_CurrentErrors.l2 y1 xs25 fuel64) v54 true else (if (!(true == (y79 == 0))) = true then scutagelaw15_CurrentErrors.j3 (scutagelaw15_CurrentErrors.l2 y1 xs25 fuel64) v54 true else (if (y79 != 0) = true then (if (y77.Income != 0) = true then scutagelaw15_CurrentErrors.j3 (scutagelaw15_CurrentErrors.l2 y1 xs25 fuel64) v54 true else (if (y77.Tax != 0) = true then scutagelaw15_CurrentErrors.j3 (scutagelaw15_CurrentErrors.l2 y1 xs25 fuel64) v54 true else scutagelaw15_CurrentErrors.j3 (scutagelaw15_CurrentErrors.l2 y1 xs25 fuel64) v54 (y77.New != 0))) else scutagelaw15_CurrentErrors.j3 (scutagelaw15_CurrentErrors.l2 y1 xs25 fuel64) v54 false))) = some tl57 := hm
          refine ⟨_, rfl, ?_⟩
          refine r_pure (.tuple #[.agg #[.int .i64 y77.Income, .int .i64 y77.Expired, .int .i64 y77.Used, .int .i64 y77.New, .int .i64 y77.Taxable, .int .i64 y77.Tax, .slice A90 y77.Vector.length c92], .pointer (some ⟨b93, 0, none⟩), .int .i64 y79]) rfl ?_
          refine r_pure (.agg #[.int .i64 y77.Income, .int .i64 y77.Expired, .int .i64 y77.Used, .int .i64 y77.New, .int .i64 y77.Taxable, .int .i64 y77.Tax, .slice A90 y77.Vector.length c92]) rfl ?_
          refine r_pure (.pointer (some ⟨b93, 0, none⟩)) rfl ?_
          refine r_pure (.int .i64 y79) rfl ?_
          refine r_alloc [.int .i64 0, .int .i64 0, .int .i64 0, .int .i64 0, .int .i64 0, .int .i64 0, .slice none 0 0] Try.zeroValue59 H85 rfl ?_
          intro b110 wd112 H111
          refine r_stA [.int .i64 y77.Income, .int .i64 y77.Expired, .int .i64 y77.Used, .int .i64 y77.New, .int .i64 y77.Taxable, .int .i64 y77.Tax, .slice A90 y77.Vector.length c92] LD59 rfl rfl rfl rfl H111 (Nat.le_of_ble_eq_true rfl) rfl ?_
          intro wd114 H113
          refine r_pure (.pointer (some ⟨b93, 0, none⟩)) rfl ?_
          refine r_pure (.int .i64 y79) rfl ?_
          refine r_seq ?_
          refine st_cut (fun ρ w => ∃ q115 : Bool, (∃ base, ρ = updl base [(3, .pointer (some ⟨b13, 0, none⟩)), (42, .slice (some ⟨b50, 0, none⟩) 10 10), (43, .int .i64 (10 : Int)), (44, .int .i64 v54), (97, .bool q115)]) ∧ Hp w0 (Row K38 (.slice A22 xs25.length c24) xs25 :: Bx b13 75 [.slice A22 xs25.length c24] :: Row K64 (.slice (some ⟨b50, 0, none⟩) 10 10) [(⟨y1, 0, 0, (-1), 1, 1, 1, 1⟩ : Anon64), (⟨y1, 0, 0, 1000001, 1, 1, 1, 1⟩ : Anon64), (⟨y1, 0, 0, 1, (-1), 1, 1, 1⟩ : Anon64), (⟨y1, 0, 0, 1, 1, 100, 1, 1⟩ : Anon64), (⟨y1, 0, 0, 1, 1, 1, (-1), 1⟩ : Anon64), (⟨100000000000, 1, 0, 1, 1, 1, 1, 6⟩ : Anon64), (⟨100000000001, 0, 0, 1, 1, 1, 1, 6⟩ : Anon64), (⟨w64 ((-1) - y1), 0, 0, 1, 60, 15, 1, 5⟩ : Anon64), (⟨(-100000000000), 0, 0, 1, 5, 15, 1, 6⟩ : Anon64), (⟨y1, 0, 0, 1, 1, 15, 1, 0⟩ : Anon64)] :: Γ) w ∧ scutagelaw15_CurrentErrors.j3 (scutagelaw15_CurrentErrors.l2 y1 xs25 fuel64) v54 q115 = some tl57) ?_ ?_
          · refine st_region ?_
            refine r_pure (.int .i64 y79) rfl ?_
            refine r_fa FA64_7 ⟨b72, 7, none⟩ rfl rfl ?_
            refine r_ld1 (.int .i64 ((rd [(⟨y1, 0, 0, (-1), 1, 1, 1, 1⟩ : Anon64), (⟨y1, 0, 0, 1000001, 1, 1, 1, 1⟩ : Anon64), (⟨y1, 0, 0, 1, (-1), 1, 1, 1⟩ : Anon64), (⟨y1, 0, 0, 1, 1, 100, 1, 1⟩ : Anon64), (⟨y1, 0, 0, 1, 1, 1, (-1), 1⟩ : Anon64), (⟨100000000000, 1, 0, 1, 1, 1, 1, 6⟩ : Anon64), (⟨100000000001, 0, 0, 1, 1, 1, 1, 6⟩ : Anon64), (⟨w64 ((-1) - y1), 0, 0, 1, 60, 15, 1, 5⟩ : Anon64), (⟨(-100000000000), 0, 0, 1, 5, 15, 1, 6⟩ : Anon64), (⟨y1, 0, 0, 1, 1, 15, 1, 0⟩ : Anon64)] v54).f_e)) LD34 rfl ((H113.g4).cell _ rfl) ?_
            refine r_pure (.bool (y79 != (rd [(⟨y1, 0, 0, (-1), 1, 1, 1, 1⟩ : Anon64), (⟨y1, 0, 0, 1000001, 1, 1, 1, 1⟩ : Anon64), (⟨y1, 0, 0, 1, (-1), 1, 1, 1⟩ : Anon64), (⟨y1, 0, 0, 1, 1, 100, 1, 1⟩ : Anon64), (⟨y1, 0, 0, 1, 1, 1, (-1), 1⟩ : Anon64), (⟨100000000000, 1, 0, 1, 1, 1, 1, 6⟩ : Anon64), (⟨100000000001, 0, 0, 1, 1, 1, 1, 6⟩ : Anon64), (⟨w64 ((-1) - y1), 0, 0, 1, 60, 15, 1, 5⟩ : Anon64), (⟨(-100000000000), 0, 0, 1, 5, 15, 1, 6⟩ : Anon64), (⟨y1, 0, 0, 1, 1, 15, 1, 0⟩ : Anon64)] v54).f_e)) rfl ?_
            refine r_pure (.bool (y79 != (rd [(⟨y1, 0, 0, (-1), 1, 1, 1, 1⟩ : Anon64), (⟨y1, 0, 0, 1000001, 1, 1, 1, 1⟩ : Anon64), (⟨y1, 0, 0, 1, (-1), 1, 1, 1⟩ : Anon64), (⟨y1, 0, 0, 1, 1, 100, 1, 1⟩ : Anon64), (⟨y1, 0, 0, 1, 1, 1, (-1), 1⟩ : Anon64), (⟨100000000000, 1, 0, 1, 1, 1, 1, 6⟩ : Anon64), (⟨100000000001, 0, 0, 1, 1, 1, 1, 6⟩ : Anon64), (⟨w64 ((-1) - y1), 0, 0, 1, 60, 15, 1, 5⟩ : Anon64), (⟨(-100000000000), 0, 0, 1, 5, 15, 1, 6⟩ : Anon64), (⟨y1, 0, 0, 1, 1, 15, 1, 0⟩ : Anon64)] v54).f_e)) rfl ?_
            rcases ite_some hm with ⟨hb118, hm⟩ | ⟨hb118, hm⟩
            · refine r_not (wn_f rfl rfl (by decide) rfl hb118) ?_
              refine r_not (wn_f rfl rfl (by decide) rfl hb118) ?_
              refine r_not (wn_f rfl rfl (by decide) rfl hb118) ?_
              refine r_not (wn_f rfl rfl (by decide) rfl hb118) ?_
              refine r_not (wn_f rfl rfl (by decide) rfl hb118) ?_
              refine r_pick_t (.bool true) hb118 rfl rfl ?_
              refine r_pure (.bool true) rfl ?_
              refine r_not (wn_f rfl rfl (by decide) rfl rfl) ?_
              refine r_not (wn_f rfl rfl (by decide) rfl rfl) ?_
              refine r_not (wn_f rfl rfl (by decide) rfl rfl) ?_
              refine r_not (wn_u rfl rfl (by decide) rfl rfl) ?_
              refine r_not (wn_u rfl rfl (by decide) rfl rfl) ?_
              refine r_not (wn_u rfl rfl (by decide) rfl rfl) ?_
              refine r_not (wn_u rfl rfl (by decide) rfl rfl) ?_
              refine r_not (wn_u rfl rfl (by decide) rfl rfl) ?_
              refine r_not (wn_u rfl rfl (by decide) rfl rfl) ?_
              refine r_not (wn_u rfl rfl (by decide) rfl rfl) ?_
              refine r_not (wn_u rfl rfl (by decide) rfl rfl) ?_
              refine r_not (wn_u rfl rfl (by decide) rfl rfl) ?_
              refine r_not (wn_u rfl rfl (by decide) rfl rfl) ?_
              refine r_not (wn_u rfl rfl (by decide) rfl rfl) ?_
              refine r_not (wn_u rfl rfl (by decide) rfl rfl) ?_
              refine r_not (wn_u rfl rfl (by decide) rfl rfl) ?_
              refine r_not (wn_f rfl rfl (by decide) rfl rfl) ?_
              refine r_pick_t (.bool true) rfl rfl rfl ?_
              refine r_nil ?_
              refine n_cut ⟨true, upk (ac rfl (ac rfl (ac rfl (ac rfl (ac rfl an))))), H113.d.d.d.d.d.u2.u2.u2, hm⟩
            · refine r_pure (.pointer (some ⟨b93, 0, none⟩)) rfl ?_ (wn_t rfl rfl (by decide) rfl hb118)
              refine r_nen Try.underlying23 rfl rfl ?_ (wn_t rfl rfl (by decide) rfl hb118)
              refine r_pure (.int .i64 y79) rfl ?_ (wn_t rfl rfl (by decide) rfl hb118)
              refine r_pure (.bool (y79 == 0)) rfl ?_ (wn_t rfl rfl (by decide) rfl hb118)
              refine r_neb Try.underlying4 rfl rfl ?_ (wn_t rfl rfl (by decide) rfl hb118)
              refine r_pick_f (.bool (!(true == (y79 == 0)))) hb118 rfl rfl ?_
              refine r_pure (.bool (!(true == (y79 == 0)))) rfl ?_
              rcases ite_some hm with ⟨hb119, hm⟩ | ⟨hb119, hm⟩
              · refine r_not (wn_f rfl rfl (by decide) rfl hb119) ?_
                refine r_not (wn_f rfl rfl (by decide) rfl hb119) ?_
                refine r_not (wn_f rfl rfl (by decide) rfl hb119) ?_
                refine r_not (wn_u rfl rfl (by decide) rfl rfl) ?_
                refine r_not (wn_u rfl rfl (by decide) rfl rfl) ?_
                refine r_not (wn_u rfl rfl (by decide) rfl rfl) ?_
                refine r_not (wn_u rfl rfl (by decide) rfl rfl) ?_
                refine r_not (wn_u rfl rfl (by decide) rfl rfl) ?_
                refine r_not (wn_u rfl rfl (by decide) rfl rfl) ?_
                refine r_not (wn_u rfl rfl (by decide) rfl rfl) ?_
                refine r_not (wn_u rfl rfl (by decide) rfl rfl) ?_
                refine r_not (wn_u rfl rfl (by decide) rfl rfl) ?_
                refine r_not (wn_u rfl rfl (by decide) rfl rfl) ?_
                refine r_not (wn_u rfl rfl (by decide) rfl rfl) ?_
                refine r_not (wn_u rfl rfl (by decide) rfl rfl) ?_
                refine r_not (wn_u rfl rfl (by decide) rfl rfl) ?_
                refine r_not (wn_f rfl rfl (by decide) rfl hb119) ?_
                refine r_pick_t (.bool true) hb119 rfl rfl ?_
                refine r_nil ?_
                refine n_cut ⟨true, upk (ac rfl (ac rfl (ac rfl (ac rfl (ac rfl an))))), H113.d.d.d.d.d.u2.u2.u2, hm⟩
              · refine r_pure (.int .i64 y79) rfl ?_ (wn_t rfl rfl (by decide) rfl hb119)
                refine r_pure (.bool (y79 != 0)) rfl ?_ (wn_t rfl rfl (by decide) rfl hb119)
                refine r_pure (.bool (y79 != 0)) rfl ?_ (wn_t rfl rfl (by decide) rfl hb119)
                rcases ite_some hm with ⟨hb120, hm⟩ | ⟨hb120, hm⟩
                · refine r_fa FA59_0 ⟨b110, 0, none⟩ rfl rfl ?_ (wn_t rfl rfl (by decide) rfl hb120)
                  refine r_ld1 (.int .i64 y77.Income) LD3 rfl ((H113.g0).cell _ rfl) ?_ (wn_t rfl rfl (by decide) rfl hb120)
                  refine r_pure (.bool (y77.Income != 0)) rfl ?_ (wn_t rfl rfl (by decide) rfl hb120)
                  refine r_pure (.bool (y77.Income != 0)) rfl ?_ (wn_t rfl rfl (by decide) rfl hb120)
                  rcases ite_some hm with ⟨hb121, hm⟩ | ⟨hb121, hm⟩
                  · refine r_not (wn_f rfl rfl (by decide) rfl hb121) ?_
                    refine r_not (wn_f rfl rfl (by decide) rfl hb121) ?_
                    refine r_not (wn_f rfl rfl (by decide) rfl hb121) ?_
                    refine r_pick_t (.bool true) hb121 rfl rfl ?_ (wn_t rfl rfl (by decide) rfl hb120)
                    refine r_pure (.bool true) rfl ?_ (wn_t rfl rfl (by decide) rfl hb120)
                    refine r_not (wn_f rfl rfl (by decide) rfl rfl) ?_
                    refine r_not (wn_f rfl rfl (by decide) rfl rfl) ?_
                    refine r_not (wn_f rfl rfl (by decide) rfl rfl) ?_
                    refine r_pick_t (.bool true) rfl rfl rfl ?_ (wn_t rfl rfl (by decide) rfl hb120)
                    refine r_pick_t (.bool true) hb120 rfl rfl ?_ (wn_t rfl rfl (by decide) rfl hb119)
                    refine r_pick_f (.bool true) hb119 rfl rfl ?_
                    refine r_nil ?_
                    refine n_cut ⟨true, upk (ac rfl (ac rfl (ac rfl (ac rfl (ac rfl an))))), H113.d.d.d.d.d.u2.u2.u2, hm⟩
                  · refine r_fa FA59_5 ⟨b110, 5, none⟩ rfl rfl ?_ (wn_t rfl rfl (by decide) rfl hb121)
                    refine r_ld1 (.int .i64 y77.Tax) LD3 rfl ((H113.g0).cell _ rfl) ?_ (wn_t rfl rfl (by decide) rfl hb121)
                    refine r_pure (.bool (y77.Tax != 0)) rfl ?_ (wn_t rfl rfl (by decide) rfl hb121)
                    refine r_pick_f (.bool (y77.Tax != 0)) hb121 rfl rfl ?_ (wn_t rfl rfl (by decide) rfl hb120)
                    refine r_pure (.bool (y77.Tax != 0)) rfl ?_ (wn_t rfl rfl (by decide) rfl hb120)
                    rcases ite_some hm with ⟨hb122, hm⟩ | ⟨hb122, hm⟩
                    · refine r_not (wn_f rfl rfl (by decide) rfl hb122) ?_
                      refine r_not (wn_f rfl rfl (by decide) rfl hb122) ?_
                      refine r_not (wn_f rfl rfl (by decide) rfl hb122) ?_
                      refine r_pick_t (.bool true) hb122 rfl rfl ?_ (wn_t rfl rfl (by decide) rfl hb120)
                      refine r_pick_t (.bool true) hb120 rfl rfl ?_ (wn_t rfl rfl (by decide) rfl hb119)
                      refine r_pick_f (.bool true) hb119 rfl rfl ?_
                      refine r_nil ?_
                      refine n_cut ⟨true, upk (ac rfl (ac rfl (ac rfl (ac rfl (ac rfl an))))), H113.d.d.d.d.d.u2.u2.u2, hm⟩
                    · refine r_fa FA59_3 ⟨b110, 3, none⟩ rfl rfl ?_ (wn_t rfl rfl (by decide) rfl hb122)
                      refine r_ld1 (.int .i64 y77.New) LD3 rfl ((H113.g0).cell _ rfl) ?_ (wn_t rfl rfl (by decide) rfl hb122)
                      refine r_pure (.bool (y77.New != 0)) rfl ?_ (wn_t rfl rfl (by decide) rfl hb122)
                      refine r_pick_f (.bool (y77.New != 0)) hb122 rfl rfl ?_ (wn_t rfl rfl (by decide) rfl hb120)
                      refine r_pick_t (.bool (y77.New != 0)) hb120 rfl rfl ?_ (wn_t rfl rfl (by decide) rfl hb119)
                      refine r_pick_f (.bool (y77.New != 0)) hb119 rfl rfl ?_
                      refine r_nil ?_
                      refine n_cut ⟨y77.New != 0, upk (ac rfl (ac rfl (ac rfl (ac rfl (ac rfl an))))), H113.d.d.d.d.d.u2.u2.u2, hm⟩
                · refine r_not (wn_f rfl rfl (by decide) rfl hb120) ?_
                  refine r_not (wn_f rfl rfl (by decide) rfl hb120) ?_
                  refine r_not (wn_f rfl rfl (by decide) rfl hb120) ?_
                  refine r_not (wn_f rfl rfl (by decide) rfl hb120) ?_
                  refine r_not (wn_u rfl rfl (by decide) rfl rfl) ?_
                  refine r_not (wn_u rfl rfl (by decide) rfl rfl) ?_
                  refine r_not (wn_u rfl rfl (by decide) rfl rfl) ?_
                  refine r_not (wn_f rfl rfl (by decide) rfl hb120) ?_
                  refine r_not (wn_f rfl rfl (by decide) rfl hb120) ?_
                  refine r_not (wn_u rfl rfl (by decide) rfl rfl) ?_
                  refine r_not (wn_u rfl rfl (by decide) rfl rfl) ?_
                  refine r_not (wn_u rfl rfl (by decide) rfl rfl) ?_
                  refine r_not (wn_f rfl rfl (by decide) rfl hb120) ?_
                  refine r_pick_f (.bool false) hb120 rfl rfl ?_ (wn_t rfl rfl (by decide) rfl hb119)
                  refine r_pick_f (.bool false) hb119 rfl rfl ?_
                  refine r_nil ?_
                  refine n_cut ⟨false, upk (ac rfl (ac rfl (ac rfl (ac rfl (ac rfl an))))), H113.d.d.d.d.d.u2.u2.u2, hm⟩
          · rintro ρ w ⟨q115, ⟨base, rfl⟩, H116, hm⟩
            unfold scutagelaw15_CurrentErrors.j3 at hm
            rcases ite_some hm with ⟨hb117, hm⟩ | ⟨hb117, hm⟩
            · refine st_condt hb117 rfl ?_
              refine st_seq ?_
              refine st_region ?_
              refine r_pure (.bool false) rfl ?_
              refine r_seq ?_
              have hq_ := Option.some.inj hm
              subst hq_
              have hq_ := Option.some.inj (show some (false : Bool) = some r0_ from hm56)
              subst hq_
              refine st_ret1 rfl rfl (Nat.le_of_ble_eq_true rfl) rfl ?_
              exact ⟨rfl, H116.d.d.d⟩
            · refine st_condf hb117 rfl ?_
              refine st_skip ?_
              refine n_bl ?_
              refine n_cut ⟨upk (ac rfl (ac rfl (ac rfl (ac rfl an)))), H116.u2.u2.u2, hm⟩
      · rintro ρ w ⟨⟨base, rfl⟩, H68, hm⟩
        unfold scutagelaw15_CurrentErrors.j1 at hm
        refine st_region ?_
        refine r_pure (.int .i64 (w64 (v54 + 1))) rfl ?_
        refine r_pure (.int .i64 (w64 (v54 + 1))) rfl ?_
        refine r_nil ?_
        refine n_round (IH66 _ _ _ ⟨w64 (v54 + 1), rfl, upk (ac rfl (ac rfl (ac rfl (ac rfl an)))), H68.u2.u2.u2⟩ hm)
    · refine st_condf hb67 rfl ?_
      have hq_ := Option.some.inj hm
      refine st_exit rfl ?_
      subst hq_
      refine n_sq ?_
      refine st_cut (fun ρ w => ∃ q123 : Bool, (∃ base, ρ = updl base [(2, .bool q123)]) ∧ Hp w0 (Γ) w ∧ scutagelaw15_CurrentErrors.j4 q123 = some r0_) ?_ ?_
      · refine st_region ?_
        refine r_pure (.pointer (some ⟨b13, 0, none⟩)) rfl ?_
        obtain ⟨y125, hy126, hm⟩ := bind_some hm56
        refine r_callf Try.call23 (vintage_Losses_Left_ok b13 (⟨xs25⟩ : vintage_Losses) A22 xs25.length c24 rfl (((H55).g0).cap) (fun _ H => (H.g0.rd)) (fun _ H => (H.g1)) y125 H55 hy126) ?_
        rintro e128 wd127 ⟨rfl, H130⟩
        refine ⟨_, rfl, ?_⟩
        refine r_pure (.bool (y125 == 60)) rfl ?_
        refine r_pure (.bool (y125 == 60)) rfl ?_
        rcases ite_some hm with ⟨hb131, hm⟩ | ⟨hb131, hm⟩
        · obtain ⟨y132, hy133, hm⟩ := bind_some hm
          refine r_callf Try.call36 (scutagelaw15_wakes_ok  y132 H130 hy133) ?_ (wn_t rfl rfl (by decide) rfl hb131)
          rintro e135 wd134 ⟨rfl, H137⟩
          refine ⟨_, rfl, ?_⟩
          refine r_pick_t (.bool y132) hb131 rfl rfl ?_
          refine r_pure (.bool y132) rfl ?_
          refine r_nil ?_
          refine n_cut ⟨y132, upk (ac rfl an), H137.d.d.d, hm⟩
        · refine r_not (wn_f rfl rfl (by decide) rfl hb131) ?_
          refine r_pick_f (.bool false) hb131 rfl rfl ?_
          refine r_pure (.bool false) rfl ?_
          refine r_nil ?_
          refine n_cut ⟨false, upk (ac rfl an), H130.d.d.d, hm⟩
      · rintro ρ w ⟨q123, ⟨base, rfl⟩, H124, hm⟩
        unfold scutagelaw15_CurrentErrors.j4 at hm
        have hq_ := Option.some.inj hm
        subst hq_
        refine st_ret1 rfl rfl (Nat.le_of_ble_eq_true rfl) rfl ?_
        exact ⟨rfl, H124⟩


end Go.Proofs.Ytcmhekibcbpajaa
