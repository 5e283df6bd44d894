/- The Go functions come to their models: printed by gen.py. -/
import Derived.Test.YtdhekpodgemneaaPT
set_option linter.unusedVariables false
set_option linter.unusedSimpArgs false
set_option maxRecDepth 100000
namespace Go.Proofs.Ytdhekpodgemneaa
open Go Go.RowKit
attribute [local irreducible] W R N L Hp Row SlR Bx RwN

set_option maxHeartbeats 2000000 in
theorem store_New_ok {w0 w : World} {Γ : List (World → Prop)}  (r0_ : store_Store) (H : Hp w0 (Γ) w) (hm : store_New = some r0_) : Calls Try.prog 4 #[] w (fun e w => ∃ (bx1 : Nat), ∃ (Ax2 : Option Addr) (nx3 cx4 : Nat), ∃ (avx5 : Value), e = .returned (.pointer (some ⟨bx1, 0, none⟩)) ∧ Hp w0 (Bx bx1 52 [.slice Ax2 nx3 cx4] :: RwN NK37 (.slice Ax2 nx3 cx4) r0_.f_l avx5 :: Ins NK37 r0_.f_l avx5 :: Γ) w) := by
  unfold store_New at hm
  refine st_enter Try.func4 rfl Try.ntmps4 (Nat.le_of_ble_eq_true rfl) ?_
  refine st_seq ?_
  refine st_region ?_
  refine r_pure (.pointer none) rfl ?_
  refine r_seq ?_
  refine st_seq ?_
  refine st_region ?_
  refine r_build [.slice none 0 0] FL52 rfl ?_
  refine r_box [.slice none 0 0] H rfl ?_
  intro b1 wd3 H2
  refine r_pure (.pointer (some ⟨b1, 0, none⟩)) rfl ?_
  refine r_seq ?_
  have H4 := H2.add (A := Ins NK37 ([] : List api_Journal) (.tuple #[])) (Ins.nil _)
  have H5 := H4.add (A := RwN NK37 (.slice none 0 0) ([] : List api_Journal) (.tuple #[])) RwN.nil
  have hq_ := Option.some.inj hm
  subst hq_
  refine st_ret1 rfl rfl (Nat.le_of_ble_eq_true rfl) rfl ?_
  exact ⟨b1, none, 0, 0, (.tuple #[]), rfl, H5.u1.u1.u2⟩

set_option maxHeartbeats 2000000 in
theorem scutagekeep_Within_ok {w0 w : World} {Γ : List (World → Prop)} (v_ : Int) (n_ : Int) (r0_ : Int) (H : Hp w0 (Γ) w) (hm : scutagekeep_Within v_ n_ = some r0_) : Calls Try.prog 5 #[.int .i64 v_, .int .i64 n_] w (fun e w => e = .returned (.int .i64 r0_) ∧ Hp w0 (Γ) w) := by
  unfold scutagekeep_Within at hm
  refine st_enter Try.func5 rfl Try.ntmps5 (Nat.le_of_ble_eq_true rfl) ?_
  refine st_seq ?_
  refine st_region ?_
  refine r_pure (.int .i64 0) rfl ?_
  refine r_seq ?_
  refine st_seq ?_
  refine st_seq ?_
  refine st_region ?_
  refine r_pure (.int .i64 n_) rfl ?_
  refine r_pure (.bool (decide (n_ < 1))) rfl ?_
  refine r_seq ?_
  rcases ite_some hm with ⟨hb1, hm⟩ | ⟨hb1, hm⟩
  · refine st_condt hb1 rfl ?_
    refine st_seq ?_
    refine st_region ?_
    refine r_pure (.int .i64 0) rfl ?_
    refine r_seq ?_
    have hq_ := Option.some.inj hm
    subst hq_
    refine st_ret1 rfl rfl (Nat.le_of_ble_eq_true rfl) rfl ?_
    exact ⟨rfl, H⟩
  · refine st_condf hb1 rfl ?_
    refine st_skip ?_
    refine n_sq ?_
    refine st_seq ?_
    refine st_region ?_
    refine r_pure (.int .i64 v_) rfl ?_
    refine r_pure (.int .i64 n_) rfl ?_
    obtain ⟨h2, hm⟩ := gd_some hm
    refine r_rem h2 rfl rfl ?_
    refine r_pure (.int .i64 (Int.tmod v_ n_)) rfl ?_
    refine r_seq ?_
    refine st_cut (fun ρ w => ∃ v3 : Int, (∃ base, ρ = updl base [(5, .int .i64 v3)]) ∧ Hp w0 (Γ) w ∧ scutagekeep_Within.j1 v3 = some r0_) ?_ ?_
    · refine st_seq ?_
      refine st_region ?_
      refine r_pure (.int .i64 (Int.tmod v_ n_)) rfl ?_
      refine r_pure (.bool (decide (Int.tmod v_ n_ < 0))) rfl ?_
      refine r_seq ?_
      rcases ite_some hm with ⟨hb5, hm⟩ | ⟨hb5, hm⟩
      · refine st_condt hb5 rfl ?_
        refine st_region ?_
        refine r_pure (.int .i64 (Int.tmod v_ n_)) rfl ?_
        refine r_pure (.int .i64 n_) rfl ?_
        refine r_pure (.int .i64 (w64 (Int.tmod v_ n_ + n_))) rfl ?_
        refine r_pure (.int .i64 (w64 (Int.tmod v_ n_ + n_))) rfl ?_
        refine r_nil ?_
        refine n_cut ⟨w64 (Int.tmod v_ n_ + n_), upk (ac rfl an), H, hm⟩
      · refine st_condf hb5 rfl ?_
        refine st_skip ?_
        refine n_cut ⟨Int.tmod v_ n_, upk (ac rfl an), H, hm⟩
    · rintro ρ w ⟨v3, ⟨base, rfl⟩, H4, hm⟩
      unfold scutagekeep_Within.j1 at hm
      refine st_seq ?_
      refine st_region ?_
      refine r_pure (.int .i64 v3) rfl ?_
      refine r_pure (.int .i64 v3) rfl ?_
      refine r_seq ?_
      have hq_ := Option.some.inj hm
      subst hq_
      refine st_ret1 rfl rfl (Nat.le_of_ble_eq_true rfl) rfl ?_
      exact ⟨rfl, H4⟩

set_option maxHeartbeats 2000000 in
theorem scutageplay_Amount_ok {w0 w : World} {Γ : List (World → Prop)} (n_ : Int) (r0_ : Int) (H : Hp w0 (Γ) w) (hm : scutageplay_Amount n_ = some r0_) : Calls Try.prog 19 #[.int .i64 n_] w (fun e w => e = .returned (.int .i64 r0_) ∧ Hp w0 (Γ) w) := by
  unfold scutageplay_Amount at hm
  refine st_enter Try.func19 rfl Try.ntmps19 (Nat.le_of_ble_eq_true rfl) ?_
  refine st_seq ?_
  refine st_region ?_
  refine r_pure (.int .i64 0) rfl ?_
  refine r_seq ?_
  refine st_seq ?_
  refine st_seq ?_
  refine st_region ?_
  refine r_pure (.int .i64 n_) rfl ?_
  refine r_rem (by decide) rfl rfl ?_
  refine r_seq ?_
  refine st_block ?_
  refine st_seq ?_
  refine st_region ?_
  refine r_pure (.bool (Int.tmod n_ 23 == 20)) rfl ?_
  refine r_pure (.bool (Int.tmod n_ 23 == 20)) rfl ?_
  refine r_seq ?_
  rcases ite_some hm with ⟨hb1, hm⟩ | ⟨hb1, hm⟩
  · refine st_condt hb1 rfl ?_
    refine st_seq ?_
    refine st_region ?_
    refine r_pure (.int .i64 n_) rfl ?_
    refine r_quo (by decide) rfl rfl ?_
    obtain ⟨y2, hy3, hm⟩ := bind_some hm
    refine r_callf Try.call5 (scutagekeep_Within_ok (w64 (Int.tdiv n_ 23)) 5 y2 H hy3) ?_
    rintro e5 wd4 ⟨rfl, H7⟩
    refine ⟨_, rfl, ?_⟩
    refine r_pure (.int .i64 (w64 (100000000000 - y2))) rfl ?_
    refine r_pure (.int .i64 (w64 (w64 (100000000000 - y2) + 2))) rfl ?_
    refine r_pure (.int .i64 (w64 (w64 (100000000000 - y2) + 2))) rfl ?_
    refine r_seq ?_
    have hq_ := Option.some.inj hm
    subst hq_
    refine st_ret1 rfl rfl (Nat.le_of_ble_eq_true rfl) rfl ?_
    exact ⟨rfl, H7⟩
  · refine st_condf hb1 rfl ?_
    refine st_seq ?_
    refine st_region ?_
    refine r_pure (.bool (Int.tmod n_ 23 == 21)) rfl ?_
    refine r_pure (.bool (Int.tmod n_ 23 == 21)) rfl ?_
    refine r_seq ?_
    rcases ite_some hm with ⟨hb8, hm⟩ | ⟨hb8, hm⟩
    · refine st_condt hb8 rfl ?_
      refine st_seq ?_
      refine st_region ?_
      refine r_pure (.int .i64 n_) rfl ?_
      refine r_quo (by decide) rfl rfl ?_
      obtain ⟨y9, hy10, hm⟩ := bind_some hm
      refine r_callf Try.call5 (scutagekeep_Within_ok (w64 (Int.tdiv n_ 23)) 5 y9 H hy10) ?_
      rintro e12 wd11 ⟨rfl, H14⟩
      refine ⟨_, rfl, ?_⟩
      refine r_pure (.int .i64 (w64 ((-100000000000) + y9))) rfl ?_
      refine r_pure (.int .i64 (w64 (w64 ((-100000000000) + y9) - 2))) rfl ?_
      refine r_pure (.int .i64 (w64 (w64 ((-100000000000) + y9) - 2))) rfl ?_
      refine r_seq ?_
      have hq_ := Option.some.inj hm
      subst hq_
      refine st_ret1 rfl rfl (Nat.le_of_ble_eq_true rfl) rfl ?_
      exact ⟨rfl, H14⟩
    · refine st_condf hb8 rfl ?_
      refine st_seq ?_
      refine st_region ?_
      refine r_pure (.bool (Int.tmod n_ 23 == 22)) rfl ?_
      refine r_pure (.bool (Int.tmod n_ 23 == 22)) rfl ?_
      refine r_seq ?_
      rcases ite_some hm with ⟨hb15, hm⟩ | ⟨hb15, hm⟩
      · refine st_condt hb15 rfl ?_
        refine st_seq ?_
        refine st_region ?_
        refine r_pure (.int .i64 n_) rfl ?_
        refine r_pure (.int .i64 n_) rfl ?_
        refine r_seq ?_
        have hq_ := Option.some.inj hm
        subst hq_
        refine st_ret1 rfl rfl (Nat.le_of_ble_eq_true rfl) rfl ?_
        exact ⟨rfl, H⟩
      · refine st_condf hb15 rfl ?_
        refine st_seq ?_
        refine st_region ?_
        refine r_pure (.bool (Int.tmod n_ 23 == 19)) rfl ?_
        refine r_pure (.bool (Int.tmod n_ 23 == 19)) rfl ?_
        refine r_seq ?_
        rcases ite_some hm with ⟨hb16, hm⟩ | ⟨hb16, hm⟩
        · refine st_condt hb16 rfl ?_
          refine st_seq ?_
          refine st_region ?_
          refine r_pure (.int .i64 n_) rfl ?_
          refine r_quo (by decide) rfl rfl ?_
          obtain ⟨y17, hy18, hm⟩ := bind_some hm
          refine r_callf Try.call5 (scutagekeep_Within_ok (w64 (Int.tdiv n_ 23)) 200000000001 y17 H hy18) ?_
          rintro e20 wd19 ⟨rfl, H22⟩
          refine ⟨_, rfl, ?_⟩
          refine r_pure (.int .i64 (w64 (y17 - 100000000000))) rfl ?_
          refine r_pure (.int .i64 (w64 (y17 - 100000000000))) rfl ?_
          refine r_seq ?_
          have hq_ := Option.some.inj hm
          subst hq_
          refine st_ret1 rfl rfl (Nat.le_of_ble_eq_true rfl) rfl ?_
          exact ⟨rfl, H22⟩
        · refine st_condf hb16 rfl ?_
          refine st_skip ?_
          refine n_bl ?_
          refine n_sq ?_
          refine st_seq ?_
          refine st_region ?_
          refine r_pure (.int .i64 n_) rfl ?_
          obtain ⟨y23, hy24, hm⟩ := bind_some hm
          refine r_callf Try.call5 (scutagekeep_Within_ok n_ 4001 y23 H hy24) ?_
          rintro e26 wd25 ⟨rfl, H28⟩
          refine ⟨_, rfl, ?_⟩
          refine r_pure (.int .i64 (w64 (y23 - 2000))) rfl ?_
          refine r_pure (.int .i64 (w64 (y23 - 2000))) rfl ?_
          refine r_seq ?_
          have hq_ := Option.some.inj hm
          subst hq_
          refine st_ret1 rfl rfl (Nat.le_of_ble_eq_true rfl) rfl ?_
          exact ⟨rfl, H28⟩

set_option maxHeartbeats 2000000 in
theorem scutageref01_Money_ok {w0 w : World} {Γ : List (World → Prop)} (n_ : Int) (r0_ : Bool) (H : Hp w0 (Γ) w) (hm : scutageref01_Money n_ = some r0_) : Calls Try.prog 30 #[.int .i64 n_] w (fun e w => e = .returned (.bool r0_) ∧ Hp w0 (Γ) w) := by
  unfold scutageref01_Money at hm
  refine st_enter Try.func30 rfl Try.ntmps30 (Nat.le_of_ble_eq_true rfl) ?_
  refine st_seq ?_
  refine st_region ?_
  refine r_pure (.bool false) rfl ?_
  refine r_seq ?_
  refine st_cut (fun ρ w => ∃ q1 : Bool, (∃ base, ρ = updl base [(2, .bool q1)]) ∧ Hp w0 (Γ) w ∧ scutageref01_Money.j1 q1 = some r0_) ?_ ?_
  · refine st_region ?_
    refine r_pure (.int .i64 n_) rfl ?_
    refine r_pure (.bool (decide (n_ ≥ (-100000000000)))) rfl ?_
    refine r_pure (.bool (decide (n_ ≥ (-100000000000)))) rfl ?_
    rcases ite_some hm with ⟨hb3, hm⟩ | ⟨hb3, hm⟩
    · refine r_pure (.int .i64 n_) rfl ?_ (wn_t rfl rfl (by decide) rfl hb3)
      refine r_pure (.bool (decide (n_ ≤ 100000000000))) rfl ?_ (wn_t rfl rfl (by decide) rfl hb3)
      refine r_pick_t (.bool (decide (n_ ≤ 100000000000))) hb3 rfl rfl ?_
      refine r_pure (.bool (decide (n_ ≤ 100000000000))) rfl ?_
      refine r_nil ?_
      refine n_cut ⟨decide (n_ ≤ 100000000000), upk (ac rfl an), H, hm⟩
    · refine r_not (wn_f rfl rfl (by decide) rfl hb3) ?_
      refine r_not (wn_f rfl rfl (by decide) rfl hb3) ?_
      refine r_pick_f (.bool false) hb3 rfl rfl ?_
      refine r_pure (.bool false) rfl ?_
      refine r_nil ?_
      refine n_cut ⟨false, upk (ac rfl an), H, hm⟩
  · rintro ρ w ⟨q1, ⟨base, rfl⟩, H2, hm⟩
    unfold scutageref01_Money.j1 at hm
    have hq_ := Option.some.inj hm
    subst hq_
    refine st_ret1 rfl rfl (Nat.le_of_ble_eq_true rfl) rfl ?_
    exact ⟨rfl, H2⟩

set_option maxHeartbeats 2000000 in
theorem scutageref01_Merge_ok {w0 w : World} {Γ : List (World → Prop)} (lines : List api_Line) (A1 : Option Addr) (n6 c2 : Nat) (hn5 : n6 = lines.length) (hc3 : lines.length ≤ c2) (hv4 : ∀ u, Hp w0 Γ u → SlR K43 A1 lines u) (r0_ : List api_Line) (H : Hp w0 (Γ) w) (hm : scutageref01_Merge lines = some r0_) : Calls Try.prog 28 #[.slice A1 n6 c2] w (fun e w => ∃ (Ax1 : Option Addr) (nx2 cx3 : Nat), e = .returned (.slice Ax1 nx2 cx3) ∧ Hp w0 (Row K43 (.slice Ax1 nx2 cx3) r0_ :: Γ) w) := by
  subst hn5
  unfold scutageref01_Merge at hm
  refine st_enter Try.func28 rfl Try.ntmps28 (Nat.le_of_ble_eq_true rfl) ?_
  refine st_seq ?_
  refine st_region ?_
  refine r_pure (.slice none 0 0) rfl ?_
  refine r_seq ?_
  refine st_seq ?_
  refine st_region ?_
  refine r_pure (.slice none 0 0) rfl ?_
  refine r_seq ?_
  refine st_seq ?_
  refine st_seq ?_
  refine st_region ?_
  refine r_pure (.int .i64 1) rfl ?_
  refine r_seq ?_
  refine st_block ?_
  have H13 := H.add (A := Row K43 (.slice none 0 0) []) Row.nil
  obtain ⟨tl21, hl22, hm20⟩ := bind_some hm
  refine st_loopF (scutageref01_Merge.l1 lines) (fun s ρ w => ∃ xs17 : List api_Line, ∃ v18 : Int, ∃ A14 : Option Addr, ∃ n15 : Nat, ∃ c16 : Nat, (xs17, v18) = s ∧ (∃ base, ρ = updl base [(0, .slice A1 lines.length c2), (3, .slice A14 n15 c16), (4, .int .i64 v18)]) ∧ Hp w0 (Row K43 (.slice A14 n15 c16) xs17 :: Γ) w) hl22 (fun _ => rfl) ⟨([] : List api_Line), 1, none, 0, 0, rfl, upk (ac rfl (ac rfl (ac rfl an))), H13⟩ ?_
  rintro fuel28 IH30 s ρ w ⟨xs17, v18, A14, n15, c16, rfl, ⟨base, rfl⟩, H19⟩ hm
  obtain rfl := (H19.g0).leneq
  rw [scutageref01_Merge.l1] at hm
  refine st_seq ?_
  refine st_seq ?_
  refine st_region ?_
  refine r_pure (.int .i64 v18) rfl ?_
  refine r_pure (.bool (decide (v18 ≤ 7))) rfl ?_
  refine r_seq ?_
  rcases ite_some hm with ⟨hb31, hm⟩ | ⟨hb31, hm⟩
  · refine st_condt hb31 rfl ?_
    refine st_skip ?_
    refine n_sq ?_
    refine st_cut (fun ρ w => ∃ A32 : Option Addr, ∃ n33 : Nat, ∃ c34 : Nat, ∃ xs35 : List api_Line, (∃ base, ρ = updl base [(0, .slice A1 lines.length c2), (3, .slice A32 n33 c34), (4, .int .i64 v18)]) ∧ Hp w0 (Row K43 (.slice A32 n33 c34) xs35 :: Γ) w ∧ scutageref01_Merge.j1 (scutageref01_Merge.l1 lines fuel28) v18 xs35 = some tl21) ?_ ?_
    · refine st_block ?_
      refine st_seq ?_
      refine st_region ?_
      refine r_pure (.int .i64 0) rfl ?_
      refine r_seq ?_
      refine st_seq ?_
      refine st_seq ?_
      refine st_region ?_
      refine r_pure (.slice A1 lines.length c2) rfl ?_
      refine r_len Try.underlying34 rfl ?_
      refine r_pure (.int .i64 0) rfl ?_
      refine r_seq ?_
      refine st_block ?_
      have hlim58 := (hv4 _ H19.d).lim
      obtain ⟨tl41, hl42, hm40⟩ := bind_some hm
      refine st_loopL (scutageref01_Merge.l2 v18) (fun ys47 s ρ w => ∃ i43 : Int, ∃ v38 : Int, ∃ dn44 : List api_Line, (i43, v38) = s ∧ lines = dn44 ++ ys47 ∧ i43 = (dn44.length : Int) ∧ (∃ base, ρ = updl base [(0, .slice A1 lines.length c2), (3, .slice A14 xs17.length c16), (4, .int .i64 v18), (5, .int .i64 v38), (12, .slice A1 lines.length c2), (13, .int .i64 (lines.length : Int)), (14, .int .i64 i43)]) ∧ Hp w0 (Row K43 (.slice A14 xs17.length c16) xs17 :: Γ) w) hl42 ⟨0, 0, [], rfl, rfl, rfl, upk (ac rfl (ac rfl (ac rfl (ac rfl (ac rfl (ac rfl (ac rfl an))))))), H19⟩ ?_
      rintro m ys47 IH51 s ρ w ⟨i43, v38, dn44, rfl, hxs45, hi46, ⟨base, rfl⟩, H39⟩ hm
      rcases ys47 with _ | ⟨y48, ys47⟩
      · rw [scutageref01_Merge.l2] at hm
        have hb52 := range_end hxs45 hi46
        refine st_seq ?_
        refine st_region ?_
        refine r_pure (.bool (decide (i43 < (lines.length : Int)))) rfl ?_
        refine r_seq ?_
        refine st_seq ?_
        refine st_condf hb52 rfl ?_
        have hq_ := Option.some.inj hm
        refine st_exit rfl ?_
        subst hq_
        refine n_sq ?_
        refine st_seq ?_
        refine st_region ?_
        refine r_pure (.int .i64 v38) rfl ?_
        refine r_pure (.bool (v38 != 0)) rfl ?_
        refine r_seq ?_
        rcases ite_some hm40 with ⟨hb59, hm⟩ | ⟨hb59, hm⟩
        · refine st_condt hb59 rfl ?_
          refine st_region ?_
          refine r_pure (.slice A14 xs17.length c16) rfl ?_
          refine r_pure (.int .i64 v18) rfl ?_
          refine r_pure (.int .i64 v38) rfl ?_
          refine r_build [.int .i64 v18, .int .i64 v38] FL43 rfl ?_
          refine r_buildSlice (K := K43) [(⟨v18, v38⟩ : api_Line)] EL34 rfl rfl rfl (by decide) (by decide) rfl H39 ?_
          intro b60 wd62 H61
          obtain ⟨hf63, hm⟩ := gd_some hm
          refine r_append (K := K43) (ys := [(⟨v18, v38⟩ : api_Line)]) AP34 rfl rfl rfl rfl H61.u1 (((H61.u1).g1).src) (fit_le hf63 (by decide)) ?_
          intro A64 c65 wd66 H67
          refine r_pure (.slice A64 ((xs17 ++ [(⟨v18, v38⟩ : api_Line)]).length) c65) rfl ?_
          refine r_nil ?_
          refine n_bl ?_
          refine n_cut ⟨A64, (xs17 ++ [(⟨v18, v38⟩ : api_Line)]).length, c65, xs17 ++ [(⟨v18, v38⟩ : api_Line)], upk (ac rfl (ac rfl (ac rfl an))), H67.u1.d, hm⟩
        · refine st_condf hb59 rfl ?_
          refine st_skip ?_
          refine n_bl ?_
          refine n_cut ⟨A14, xs17.length, c16, xs17, upk (ac rfl (ac rfl (ac rfl an))), H39, hm⟩
      · rw [scutageref01_Merge.l2] at hm
        have hb53 := range_in hxs45 hi46
        obtain ⟨h054, h155, hj56⟩ := range_ix hxs45 hi46
        have hnx57 := range_next hxs45 hi46 hlim58
        refine st_seq ?_
        refine st_region ?_
        refine r_pure (.bool (decide (i43 < (lines.length : Int)))) rfl ?_
        refine r_seq ?_
        refine st_seq ?_
        refine st_condt hb53 rfl ?_
        refine st_skip ?_
        refine n_sq ?_
        refine st_cut (fun ρ w => ∃ v68 : Int, (∃ base, ρ = updl base [(0, .slice A1 lines.length c2), (3, .slice A14 xs17.length c16), (4, .int .i64 v18), (5, .int .i64 v68), (12, .slice A1 lines.length c2), (13, .int .i64 (lines.length : Int)), (14, .int .i64 i43)]) ∧ Hp w0 (Row K43 (.slice A14 xs17.length c16) xs17 :: Γ) w ∧ scutageref01_Merge.j2 (scutageref01_Merge.l2 v18 ys47) i43 v68 = some tl41) ?_ ?_
        · refine st_block ?_
          refine st_seq ?_
          refine st_region ?_
          have hA70 := (hv4 _ H39.d).adO hj56
          refine r_ix IX34 rfl rfl hA70 h054 h155 ?_
          refine r_ldA [.int .i64 y48.Account, .int .i64 y48.Amount] LD43 rfl rfl ((hv4 _ H39.d).csA hA70 hj56) ?_
          refine r_alloc [.int .i64 0, .int .i64 0] Try.zeroValue43 H39 rfl ?_
          intro b71 wd73 H72
          refine r_stA [.int .i64 y48.Account, .int .i64 y48.Amount] LD43 rfl rfl rfl rfl H72 (Nat.le_of_ble_eq_true rfl) rfl ?_
          intro wd75 H74
          refine r_seq ?_
          refine st_seq ?_
          refine st_region ?_
          refine r_fa FA43_0 ⟨b71, 0, none⟩ rfl rfl ?_
          refine r_ld1 (.int .i64 y48.Account) LD3 rfl ((H74.g0).cell _ rfl) ?_
          refine r_pure (.int .i64 v18) rfl ?_
          refine r_pure (.bool (y48.Account == v18)) rfl ?_
          refine r_seq ?_
          rcases ite_some hm with ⟨hb76, hm⟩ | ⟨hb76, hm⟩
          · refine st_condt hb76 rfl ?_
            refine st_region ?_
            refine r_pure (.int .i64 v38) rfl ?_
            refine r_fa FA43_1 ⟨b71, 1, none⟩ rfl rfl ?_
            refine r_ld1 (.int .i64 y48.Amount) LD3 rfl ((H74.g0).cell _ rfl) ?_
            refine r_pure (.int .i64 (w64 (v38 + y48.Amount))) rfl ?_
            refine r_pure (.int .i64 (w64 (v38 + y48.Amount))) rfl ?_
            refine r_nil ?_
            refine n_bl ?_
            refine n_cut ⟨w64 (v38 + y48.Amount), upk (ac rfl (ac rfl (ac rfl (ac rfl (ac rfl (ac rfl (ac rfl an))))))), H74.d, hm⟩
          · refine st_condf hb76 rfl ?_
            refine st_skip ?_
            refine n_bl ?_
            refine n_cut ⟨v38, upk (ac rfl (ac rfl (ac rfl (ac rfl (ac rfl (ac rfl (ac rfl an))))))), H74.d, hm⟩
        · rintro ρ w ⟨v68, ⟨base, rfl⟩, H69, hm⟩
          unfold scutageref01_Merge.j2 at hm
          refine st_region ?_
          refine r_pure (.int .i64 (w64 (i43 + 1))) rfl ?_
          refine r_pure (.int .i64 (w64 (i43 + 1))) rfl ?_
          refine r_nil ?_
          refine n_round (IH51 _ _ rfl _ _ _ ⟨i43 + 1, v68, dn44 ++ [y48], rfl, range_more hxs45, range_len hi46, upk (ac rfl (ac rfl (ac rfl (ac rfl (ac rfl (ac rfl (ac hnx57 an))))))), H69⟩ hm)
    · rintro ρ w ⟨A32, n33, c34, xs35, ⟨base, rfl⟩, H36, hm⟩
      obtain rfl := (H36.g0).leneq
      unfold scutageref01_Merge.j1 at hm
      refine st_region ?_
      refine r_pure (.int .i64 v18) rfl ?_
      refine r_pure (.int .i64 (w64 (v18 + 1))) rfl ?_
      refine r_pure (.int .i64 (w64 (v18 + 1))) rfl ?_
      refine r_nil ?_
      refine n_round (IH30 _ _ _ ⟨xs35, w64 (v18 + 1), A32, xs35.length, c34, rfl, upk (ac rfl (ac rfl (ac rfl an))), H36⟩ hm)
  · refine st_condf hb31 rfl ?_
    have hq_ := Option.some.inj hm
    refine st_exit rfl ?_
    subst hq_
    refine n_sq ?_
    refine st_seq ?_
    refine st_region ?_
    refine r_pure (.slice A14 xs17.length c16) rfl ?_
    refine r_pure (.slice A14 xs17.length c16) rfl ?_
    refine r_seq ?_
    have hq_ := Option.some.inj hm20
    subst hq_
    refine st_ret1 rfl rfl (Nat.le_of_ble_eq_true rfl) rfl ?_
    exact ⟨A14, xs17.length, c16, rfl, H19⟩

set_option maxHeartbeats 2000000 in
theorem scutageplay_Right_ok {w0 w : World} {Γ : List (World → Prop)} (accounts : List Int) (A1 : Option Addr) (n6 c2 : Nat) (hn5 : n6 = accounts.length) (hc3 : accounts.length ≤ c2) (hv4 : ∀ u, Hp w0 Γ u → SlR K3 A1 accounts u) (amounts : List Int) (A7 : Option Addr) (n12 c8 : Nat) (hn11 : n12 = amounts.length) (hc9 : amounts.length ≤ c8) (hv10 : ∀ u, Hp w0 Γ u → SlR K3 A7 amounts u) (r0_ : List api_Line) (H : Hp w0 (Γ) w) (hm : scutageplay_Right accounts amounts = some r0_) : Calls Try.prog 20 #[.slice A1 n6 c2, .slice A7 n12 c8] w (fun e w => ∃ (Ax1 : Option Addr) (nx2 cx3 : Nat), e = .returned (.slice Ax1 nx2 cx3) ∧ Hp w0 (Row K43 (.slice Ax1 nx2 cx3) r0_ :: Γ) w) := by
  subst hn5
  subst hn11
  unfold scutageplay_Right at hm
  refine st_enter Try.func20 rfl Try.ntmps20 (Nat.le_of_ble_eq_true rfl) ?_
  refine st_seq ?_
  refine st_region ?_
  refine r_pure (.slice none 0 0) rfl ?_
  refine r_seq ?_
  refine st_seq ?_
  refine st_region ?_
  refine r_pure (.slice none 0 0) rfl ?_
  refine r_seq ?_
  refine st_seq ?_
  refine st_seq ?_
  refine st_region ?_
  refine r_pure (.int .i64 0) rfl ?_
  refine r_seq ?_
  refine st_block ?_
  have H19 := H.add (A := Row K43 (.slice none 0 0) []) Row.nil
  obtain ⟨tl27, hl28, hm26⟩ := bind_some hm
  refine st_loopF (scutageplay_Right.l1 accounts amounts) (fun s ρ w => ∃ xs23 : List api_Line, ∃ v24 : Int, ∃ A20 : Option Addr, ∃ n21 : Nat, ∃ c22 : Nat, (xs23, v24) = s ∧ (∃ base, ρ = updl base [(0, .slice A1 accounts.length c2), (1, .slice A7 amounts.length c8), (5, .slice A20 n21 c22), (6, .int .i64 v24)]) ∧ Hp w0 (Row K43 (.slice A20 n21 c22) xs23 :: Γ) w) hl28 (fun _ => rfl) ⟨([] : List api_Line), 0, none, 0, 0, rfl, upk (ac rfl (ac rfl (ac rfl (ac rfl an)))), H19⟩ ?_
  rintro fuel34 IH36 s ρ w ⟨xs23, v24, A20, n21, c22, rfl, ⟨base, rfl⟩, H25⟩ hm
  obtain rfl := (H25.g0).leneq
  rw [scutageplay_Right.l1] at hm
  refine st_seq ?_
  refine st_cut (fun ρ w => ∃ q37 : Bool, (∃ base, ρ = updl base [(0, .slice A1 accounts.length c2), (1, .slice A7 amounts.length c8), (5, .slice A20 xs23.length c22), (6, .int .i64 v24), (24, .bool q37)]) ∧ Hp w0 (Row K43 (.slice A20 xs23.length c22) xs23 :: Γ) w ∧ scutageplay_Right.j1 v24 amounts accounts xs23 (scutageplay_Right.l1 accounts amounts fuel34) q37 = some tl27) ?_ ?_
  · refine st_region ?_
    refine r_pure (.int .i64 v24) rfl ?_
    refine r_pure (.slice A1 accounts.length c2) rfl ?_
    refine r_len Try.underlying29 rfl ?_
    refine r_pure (.bool (decide (v24 < (accounts.length : Int)))) rfl ?_
    refine r_pure (.bool (decide (v24 < (accounts.length : Int)))) rfl ?_
    rcases ite_some hm with ⟨hb131, hm⟩ | ⟨hb131, hm⟩
    · refine r_pure (.int .i64 v24) rfl ?_ (wn_t rfl rfl (by decide) rfl hb131)
      refine r_pure (.slice A7 amounts.length c8) rfl ?_ (wn_t rfl rfl (by decide) rfl hb131)
      refine r_len Try.underlying29 rfl ?_ (wn_t rfl rfl (by decide) rfl hb131)
      refine r_pure (.bool (decide (v24 < (amounts.length : Int)))) rfl ?_ (wn_t rfl rfl (by decide) rfl hb131)
      refine r_pick_t (.bool (decide (v24 < (amounts.length : Int)))) hb131 rfl rfl ?_
      refine r_pure (.bool (decide (v24 < (amounts.length : Int)))) rfl ?_
      rcases ite_some hm with ⟨hb132, hm⟩ | ⟨hb132, hm⟩
      · refine r_pure (.int .i64 v24) rfl ?_ (wn_t rfl rfl (by decide) rfl hb132)
        refine r_pure (.bool (decide (v24 < 12))) rfl ?_ (wn_t rfl rfl (by decide) rfl hb132)
        refine r_pick_t (.bool (decide (v24 < 12))) hb132 rfl rfl ?_
        refine r_nil ?_
        refine n_cut ⟨decide (v24 < 12), upk (ac rfl (ac rfl (ac rfl (ac rfl (ac rfl an))))), H25, hm⟩
      · refine r_not (wn_f rfl rfl (by decide) rfl hb132) ?_
        refine r_not (wn_f rfl rfl (by decide) rfl hb132) ?_
        refine r_pick_f (.bool false) hb132 rfl rfl ?_
        refine r_nil ?_
        refine n_cut ⟨false, upk (ac rfl (ac rfl (ac rfl (ac rfl (ac rfl an))))), H25, hm⟩
    · refine r_not (wn_f rfl rfl (by decide) rfl hb131) ?_
      refine r_not (wn_f rfl rfl (by decide) rfl hb131) ?_
      refine r_not (wn_f rfl rfl (by decide) rfl hb131) ?_
      refine r_not (wn_f rfl rfl (by decide) rfl hb131) ?_
      refine r_pick_f (.bool false) hb131 rfl rfl ?_
      refine r_pure (.bool false) rfl ?_
      refine r_not (wn_f rfl rfl (by decide) rfl rfl) ?_
      refine r_not (wn_f rfl rfl (by decide) rfl rfl) ?_
      refine r_pick_f (.bool false) rfl rfl rfl ?_
      refine r_nil ?_
      refine n_cut ⟨false, upk (ac rfl (ac rfl (ac rfl (ac rfl (ac rfl an))))), H25, hm⟩
  · rintro ρ w ⟨q37, ⟨base, rfl⟩, H38, hm⟩
    unfold scutageplay_Right.j1 at hm
    rcases ite_some hm with ⟨hb39, hm⟩ | ⟨hb39, hm⟩
    · refine st_condt hb39 rfl ?_
      refine st_skip ?_
      refine n_sq ?_
      refine st_seq ?_
      refine st_block ?_
      refine st_seq ?_
      refine st_region ?_
      refine r_pure (.slice A7 amounts.length c8) rfl ?_
      refine r_pure (.int .i64 v24) rfl ?_
      obtain ⟨⟨h040, h141⟩, hm⟩ := gd_some hm
      have hj42 := rd_get h040 h141
      have hA43 := (hv10 _ H38.d).adO hj42
      refine r_ix IX29 rfl rfl hA43 h040 h141 ?_
      refine r_ld1 (.int .i64 (rd amounts v24)) LD3 rfl ((hv10 _ H38.d).c0A hA43 hj42 _ rfl) ?_
      obtain ⟨y44, hy45, hm⟩ := bind_some hm
      refine r_callf Try.call19 (scutageplay_Amount_ok (rd amounts v24) y44 H38 hy45) ?_
      rintro e47 wd46 ⟨rfl, H49⟩
      refine ⟨_, rfl, ?_⟩
      refine r_pure (.int .i64 y44) rfl ?_
      refine r_seq ?_
      refine st_cut (fun ρ w => ∃ v50 : Int, (∃ base, ρ = updl base [(0, .slice A1 accounts.length c2), (1, .slice A7 amounts.length c8), (5, .slice A20 xs23.length c22), (6, .int .i64 v24), (7, .int .i64 v50)]) ∧ Hp w0 (Row K43 (.slice A20 xs23.length c22) xs23 :: Γ) w ∧ scutageplay_Right.j2 v24 accounts xs23 (scutageplay_Right.l1 accounts amounts fuel34) v50 = some tl27) ?_ ?_
      · refine st_seq ?_
        refine st_region ?_
        refine r_pure (.int .i64 y44) rfl ?_
        obtain ⟨y70, hy71, hm⟩ := bind_some hm
        refine r_callf Try.call30 (scutageref01_Money_ok y44 y70 H49 hy71) ?_
        rintro e73 wd72 ⟨rfl, H75⟩
        refine ⟨_, rfl, ?_⟩
        refine r_pure (.bool (!y70)) rfl ?_
        refine r_seq ?_
        rcases ite_some hm with ⟨hb76, hm⟩ | ⟨hb76, hm⟩
        · refine st_condt hb76 rfl ?_
          refine st_region ?_
          refine r_pure (.int .i64 5) rfl ?_
          refine r_nil ?_
          refine n_cut ⟨5, upk (ac rfl (ac rfl (ac rfl (ac rfl (ac rfl an))))), H75, hm⟩
        · refine st_condf hb76 rfl ?_
          refine st_skip ?_
          refine n_cut ⟨y44, upk (ac rfl (ac rfl (ac rfl (ac rfl (ac rfl an))))), H75, hm⟩
      · rintro ρ w ⟨v50, ⟨base, rfl⟩, H51, hm⟩
        unfold scutageplay_Right.j2 at hm
        refine st_region ?_
        refine r_pure (.slice A20 xs23.length c22) rfl ?_
        refine r_pure (.slice A1 accounts.length c2) rfl ?_
        refine r_pure (.int .i64 v24) rfl ?_
        obtain ⟨⟨h052, h153⟩, hm⟩ := gd_some hm
        have hj54 := rd_get h052 h153
        have hA55 := (hv4 _ H51.d).adO hj54
        refine r_ix IX29 rfl rfl hA55 h052 h153 ?_
        refine r_ld1 (.int .i64 (rd accounts v24)) LD3 rfl ((hv4 _ H51.d).c0A hA55 hj54 _ rfl) ?_
        obtain ⟨y56, hy57, hm⟩ := bind_some hm
        refine r_callf Try.call5 (scutagekeep_Within_ok (rd accounts v24) 7 y56 H51 hy57) ?_
        rintro e59 wd58 ⟨rfl, H61⟩
        refine ⟨_, rfl, ?_⟩
        refine r_pure (.int .i64 (w64 (1 + y56))) rfl ?_
        refine r_pure (.int .i64 v50) rfl ?_
        refine r_rem (by decide) rfl rfl ?_
        refine r_build [.int .i64 (w64 (1 + y56)), .int .i64 (Int.tmod v50 1000000)] FL43 rfl ?_
        refine r_buildSlice (K := K43) [(⟨w64 (1 + y56), Int.tmod v50 1000000⟩ : api_Line)] EL34 rfl rfl rfl (by decide) (by decide) rfl H61 ?_
        intro b62 wd64 H63
        obtain ⟨hf65, hm⟩ := gd_some hm
        refine r_append (K := K43) (ys := [(⟨w64 (1 + y56), Int.tmod v50 1000000⟩ : api_Line)]) AP34 rfl rfl rfl rfl H63.u1 (((H63.u1).g1).src) (fit_le hf65 (by decide)) ?_
        intro A66 c67 wd68 H69
        refine r_pure (.slice A66 ((xs23 ++ [(⟨w64 (1 + y56), Int.tmod v50 1000000⟩ : api_Line)]).length) c67) rfl ?_
        refine r_nil ?_
        refine n_bl ?_
        refine n_sq ?_
        refine st_region ?_
        refine r_pure (.int .i64 v24) rfl ?_
        refine r_pure (.int .i64 (w64 (v24 + 1))) rfl ?_
        refine r_pure (.int .i64 (w64 (v24 + 1))) rfl ?_
        refine r_nil ?_
        refine n_round (IH36 _ _ _ ⟨xs23 ++ [(⟨w64 (1 + y56), Int.tmod v50 1000000⟩ : api_Line)], w64 (v24 + 1), A66, (xs23 ++ [(⟨w64 (1 + y56), Int.tmod v50 1000000⟩ : api_Line)]).length, c67, rfl, upk (ac rfl (ac rfl (ac rfl (ac rfl an)))), H69.u1.d⟩ hm)
    · refine st_condf hb39 rfl ?_
      have hq_ := Option.some.inj hm
      refine st_exit rfl ?_
      subst hq_
      refine n_sq ?_
      refine st_seq ?_
      refine st_region ?_
      refine r_pure (.slice A20 xs23.length c22) rfl ?_
      obtain ⟨y77, hy78, hm⟩ := bind_some hm26
      refine r_callf Try.call28 (scutageref01_Merge_ok xs23 A20 xs23.length c22 rfl (((H38).g0).cap) (fun _ H => (H.g0.rd)) y77 H38 hy78) ?_
      rintro e80 wd79 ⟨A83, n84, c85, rfl, H82⟩
      obtain rfl := (H82.g0).leneq
      refine ⟨_, rfl, ?_⟩
      refine r_pure (.slice A83 y77.length c85) rfl ?_
      refine r_seq ?_
      refine st_seq ?_
      refine st_region ?_
      refine r_pure (.int .i64 0) rfl ?_
      refine r_seq ?_
      refine st_seq ?_
      refine st_seq ?_
      refine st_region ?_
      refine r_pure (.slice A83 y77.length c85) rfl ?_
      refine r_len Try.underlying34 rfl ?_
      refine r_pure (.int .i64 0) rfl ?_
      refine r_seq ?_
      refine st_block ?_
      have hlim107 := (H82.g0.rd).lim
      obtain ⟨tl90, hl91, hm89⟩ := bind_some hm
      refine st_loopL (scutageplay_Right.l2) (fun ys96 s ρ w => ∃ i92 : Int, ∃ v87 : Int, ∃ dn93 : List api_Line, (i92, v87) = s ∧ y77 = dn93 ++ ys96 ∧ i92 = (dn93.length : Int) ∧ (∃ base, ρ = updl base [(5, .slice A83 y77.length c85), (8, .int .i64 v87), (49, .slice A83 y77.length c85), (50, .int .i64 (y77.length : Int)), (51, .int .i64 i92)]) ∧ Hp w0 (Row K43 (.slice A83 y77.length c85) y77 :: Γ) w) hl91 ⟨0, 0, [], rfl, rfl, rfl, upk (ac rfl (ac rfl (ac rfl (ac rfl (ac rfl an))))), H82.u1.d⟩ ?_
      rintro m ys96 IH100 s ρ w ⟨i92, v87, dn93, rfl, hxs94, hi95, ⟨base, rfl⟩, H88⟩ hm
      rcases ys96 with _ | ⟨y97, ys96⟩
      · rw [scutageplay_Right.l2] at hm
        have hb101 := range_end hxs94 hi95
        refine st_seq ?_
        refine st_region ?_
        refine r_pure (.bool (decide (i92 < (y77.length : Int)))) rfl ?_
        refine r_seq ?_
        refine st_seq ?_
        refine st_condf hb101 rfl ?_
        have hq_ := Option.some.inj hm
        refine st_exit rfl ?_
        subst hq_
        refine n_sq ?_
        refine st_seq ?_
        refine st_region ?_
        refine r_pure (.slice A83 y77.length c85) rfl ?_
        refine r_pure (.int .i64 v87) rfl ?_
        refine r_pure (.int .i64 (w64 (0 - v87))) rfl ?_
        refine r_build [.int .i64 2, .int .i64 (w64 (0 - v87))] FL43 rfl ?_
        refine r_buildSlice (K := K43) [(⟨2, w64 (0 - v87)⟩ : api_Line)] EL34 rfl rfl rfl (by decide) (by decide) rfl H88 ?_
        intro b108 wd110 H109
        obtain ⟨hf111, hm⟩ := gd_some hm89
        refine r_append (K := K43) (ys := [(⟨2, w64 (0 - v87)⟩ : api_Line)]) AP34 rfl rfl rfl rfl H109.u1 (((H109.u1).g1).src) (fit_le hf111 (by decide)) ?_
        intro A112 c113 wd114 H115
        obtain ⟨y116, hy117, hm⟩ := bind_some hm
        refine r_callf Try.call28 (scutageref01_Merge_ok (y77 ++ [(⟨2, w64 (0 - v87)⟩ : api_Line)]) A112 ((y77 ++ [(⟨2, w64 (0 - v87)⟩ : api_Line)]).length) c113 rfl (((H115).g0).cap) (fun _ H => (H.g0.rd)) y116 H115 hy117) ?_
        rintro e119 wd118 ⟨A122, n123, c124, rfl, H121⟩
        obtain rfl := (H121.g0).leneq
        refine ⟨_, rfl, ?_⟩
        refine r_pure (.slice A122 y116.length c124) rfl ?_
        refine r_seq ?_
        have hq_ := Option.some.inj hm
        subst hq_
        refine st_ret1 rfl rfl (Nat.le_of_ble_eq_true rfl) rfl ?_
        exact ⟨A122, y116.length, c124, rfl, H121.u1.d.u1.d⟩
      · rw [scutageplay_Right.l2] at hm
        have hb102 := range_in hxs94 hi95
        obtain ⟨h0103, h1104, hj105⟩ := range_ix hxs94 hi95
        have hnx106 := range_next hxs94 hi95 hlim107
        refine st_seq ?_
        refine st_region ?_
        refine r_pure (.bool (decide (i92 < (y77.length : Int)))) rfl ?_
        refine r_seq ?_
        refine st_seq ?_
        refine st_condt hb102 rfl ?_
        refine st_skip ?_
        refine n_sq ?_
        refine st_seq ?_
        refine st_block ?_
        refine st_seq ?_
        refine st_region ?_
        have hA125 := (H88.g0.rd).adO hj105
        refine r_ix IX34 rfl rfl hA125 h0103 h1104 ?_
        refine r_ldA [.int .i64 y97.Account, .int .i64 y97.Amount] LD43 rfl rfl ((H88.g0.rd).csA hA125 hj105) ?_
        refine r_alloc [.int .i64 0, .int .i64 0] Try.zeroValue43 H88 rfl ?_
        intro b126 wd128 H127
        refine r_stA [.int .i64 y97.Account, .int .i64 y97.Amount] LD43 rfl rfl rfl rfl H127 (Nat.le_of_ble_eq_true rfl) rfl ?_
        intro wd130 H129
        refine r_seq ?_
        refine st_region ?_
        refine r_pure (.int .i64 v87) rfl ?_
        refine r_fa FA43_1 ⟨b126, 1, none⟩ rfl rfl ?_
        refine r_ld1 (.int .i64 y97.Amount) LD3 rfl ((H129.g0).cell _ rfl) ?_
        refine r_pure (.int .i64 (w64 (v87 + y97.Amount))) rfl ?_
        refine r_pure (.int .i64 (w64 (v87 + y97.Amount))) rfl ?_
        refine r_nil ?_
        refine n_bl ?_
        refine n_sq ?_
        refine st_region ?_
        refine r_pure (.int .i64 (w64 (i92 + 1))) rfl ?_
        refine r_pure (.int .i64 (w64 (i92 + 1))) rfl ?_
        refine r_nil ?_
        refine n_round (IH100 _ _ rfl _ _ _ ⟨i92 + 1, w64 (v87 + y97.Amount), dn93 ++ [y97], rfl, range_more hxs94, range_len hi95, upk (ac rfl (ac rfl (ac rfl (ac rfl (ac hnx106 an))))), H129.d⟩ hm)

set_option maxHeartbeats 2000000 in
theorem scutagelaw06_Some_ok {w0 w : World} {Γ : List (World → Prop)} (accounts : List Int) (A1 : Option Addr) (n6 c2 : Nat) (hn5 : n6 = accounts.length) (hc3 : accounts.length ≤ c2) (hv4 : ∀ u, Hp w0 Γ u → SlR K3 A1 accounts u) (amounts : List Int) (A7 : Option Addr) (n12 c8 : Nat) (hn11 : n12 = amounts.length) (hc9 : amounts.length ≤ c8) (hv10 : ∀ u, Hp w0 Γ u → SlR K3 A7 amounts u) (at_ : Int) (what : Int) (raw : Bool) (r0_ : List api_Line) (H : Hp w0 (Γ) w) (hm : scutagelaw06_Some accounts amounts at_ what raw = some r0_) : Calls Try.prog 6 #[.slice A1 n6 c2, .slice A7 n12 c8, .int .i64 at_, .int .i64 what, .bool raw] w (fun e w => ∃ (Ax1 : Option Addr) (nx2 cx3 : Nat), e = .returned (.slice Ax1 nx2 cx3) ∧ Hp w0 (Row K43 (.slice Ax1 nx2 cx3) r0_ :: Γ) w) := by
  subst hn5
  subst hn11
  unfold scutagelaw06_Some at hm
  refine st_enter Try.func6 rfl Try.ntmps6 (Nat.le_of_ble_eq_true rfl) ?_
  refine st_seq ?_
  refine st_region ?_
  refine r_pure (.slice none 0 0) rfl ?_
  refine r_seq ?_
  refine st_seq ?_
  refine st_seq ?_
  refine st_region ?_
  refine r_pure (.bool raw) rfl ?_
  refine r_seq ?_
  rcases ite_some hm with ⟨hb13, hm⟩ | ⟨hb13, hm⟩
  · refine st_condt hb13 rfl ?_
    refine st_seq ?_
    refine st_region ?_
    refine r_pure (.slice none 0 0) rfl ?_
    refine r_seq ?_
    refine st_seq ?_
    refine st_seq ?_
    refine st_region ?_
    refine r_pure (.int .i64 0) rfl ?_
    refine r_seq ?_
    refine st_block ?_
    have H20 := H.add (A := Row K43 (.slice none 0 0) []) Row.nil
    obtain ⟨tl28, hl29, hm27⟩ := bind_some hm
    refine st_loopF (scutagelaw06_Some.l1 accounts amounts) (fun s ρ w => ∃ xs24 : List api_Line, ∃ v25 : Int, ∃ A21 : Option Addr, ∃ n22 : Nat, ∃ c23 : Nat, (xs24, v25) = s ∧ (∃ base, ρ = updl base [(0, .slice A1 accounts.length c2), (1, .slice A7 amounts.length c8), (11, .slice A21 n22 c23), (12, .int .i64 v25)]) ∧ Hp w0 (Row K43 (.slice A21 n22 c23) xs24 :: Γ) w) hl29 (fun _ => rfl) ⟨([] : List api_Line), 0, none, 0, 0, rfl, upk (ac rfl (ac rfl (ac rfl (ac rfl an)))), H20⟩ ?_
    rintro fuel35 IH37 s ρ w ⟨xs24, v25, A21, n22, c23, rfl, ⟨base, rfl⟩, H26⟩ hm
    obtain rfl := (H26.g0).leneq
    rw [scutagelaw06_Some.l1] at hm
    refine st_seq ?_
    refine st_cut (fun ρ w => ∃ q38 : Bool, (∃ base, ρ = updl base [(0, .slice A1 accounts.length c2), (1, .slice A7 amounts.length c8), (11, .slice A21 xs24.length c23), (12, .int .i64 v25), (29, .bool q38)]) ∧ Hp w0 (Row K43 (.slice A21 xs24.length c23) xs24 :: Γ) w ∧ scutagelaw06_Some.j1 v25 accounts amounts xs24 (scutagelaw06_Some.l1 accounts amounts fuel35) q38 = some tl28) ?_ ?_
    · refine st_region ?_
      refine r_pure (.int .i64 v25) rfl ?_
      refine r_pure (.slice A1 accounts.length c2) rfl ?_
      refine r_len Try.underlying29 rfl ?_
      refine r_pure (.bool (decide (v25 < (accounts.length : Int)))) rfl ?_
      refine r_pure (.bool (decide (v25 < (accounts.length : Int)))) rfl ?_
      rcases ite_some hm with ⟨hb200, hm⟩ | ⟨hb200, hm⟩
      · refine r_pure (.int .i64 v25) rfl ?_ (wn_t rfl rfl (by decide) rfl hb200)
        refine r_pure (.slice A7 amounts.length c8) rfl ?_ (wn_t rfl rfl (by decide) rfl hb200)
        refine r_len Try.underlying29 rfl ?_ (wn_t rfl rfl (by decide) rfl hb200)
        refine r_pure (.bool (decide (v25 < (amounts.length : Int)))) rfl ?_ (wn_t rfl rfl (by decide) rfl hb200)
        refine r_pick_t (.bool (decide (v25 < (amounts.length : Int)))) hb200 rfl rfl ?_
        refine r_pure (.bool (decide (v25 < (amounts.length : Int)))) rfl ?_
        rcases ite_some hm with ⟨hb201, hm⟩ | ⟨hb201, hm⟩
        · refine r_pure (.int .i64 v25) rfl ?_ (wn_t rfl rfl (by decide) rfl hb201)
          refine r_pure (.bool (decide (v25 < 44))) rfl ?_ (wn_t rfl rfl (by decide) rfl hb201)
          refine r_pick_t (.bool (decide (v25 < 44))) hb201 rfl rfl ?_
          refine r_nil ?_
          refine n_cut ⟨decide (v25 < 44), upk (ac rfl (ac rfl (ac rfl (ac rfl (ac rfl an))))), H26, hm⟩
        · refine r_not (wn_f rfl rfl (by decide) rfl hb201) ?_
          refine r_not (wn_f rfl rfl (by decide) rfl hb201) ?_
          refine r_pick_f (.bool false) hb201 rfl rfl ?_
          refine r_nil ?_
          refine n_cut ⟨false, upk (ac rfl (ac rfl (ac rfl (ac rfl (ac rfl an))))), H26, hm⟩
      · refine r_not (wn_f rfl rfl (by decide) rfl hb200) ?_
        refine r_not (wn_f rfl rfl (by decide) rfl hb200) ?_
        refine r_not (wn_f rfl rfl (by decide) rfl hb200) ?_
        refine r_not (wn_f rfl rfl (by decide) rfl hb200) ?_
        refine r_pick_f (.bool false) hb200 rfl rfl ?_
        refine r_pure (.bool false) rfl ?_
        refine r_not (wn_f rfl rfl (by decide) rfl rfl) ?_
        refine r_not (wn_f rfl rfl (by decide) rfl rfl) ?_
        refine r_pick_f (.bool false) rfl rfl rfl ?_
        refine r_nil ?_
        refine n_cut ⟨false, upk (ac rfl (ac rfl (ac rfl (ac rfl (ac rfl an))))), H26, hm⟩
    · rintro ρ w ⟨q38, ⟨base, rfl⟩, H39, hm⟩
      unfold scutagelaw06_Some.j1 at hm
      rcases ite_some hm with ⟨hb40, hm⟩ | ⟨hb40, hm⟩
      · refine st_condt hb40 rfl ?_
        refine st_skip ?_
        refine n_sq ?_
        refine st_seq ?_
        refine st_block ?_
        obtain ⟨⟨h042, h143⟩, hm⟩ := gd_some hm
        have hj44 := rd_get h042 h143
        obtain ⟨y46, hy47, hm⟩ := bind_some hm
        obtain ⟨⟨h052, h153⟩, hm⟩ := gd_some hm
        have hj54 := rd_get h052 h153
        obtain ⟨y56, hy57, hm⟩ := bind_some hm
        obtain ⟨hf65, hm⟩ := gd_some hm
        refine Flow.run' RA6_6 RW6_6 [(fun η41 v => v.1 = .slice A21 xs24.length c23), (fun η41 v => v.1 = .slice A1 accounts.length c2), (fun η41 v => v.1 = .int .i64 v25), (fun η41 v => v.1 = .pointer (some ((oA A1).add (Int.toNat v25 * 1)))), (fun η41 v => v.1 = .int .i64 (rd accounts v25)), (fun η41 v => v.1 = .int .i64 y46), (fun η41 v => v.1 = .int .i64 (w64 (y46 - 1))), (fun η41 v => v.1 = .slice A7 amounts.length c8), (fun η41 v => v.1 = .int .i64 v25), (fun η41 v => v.1 = .pointer (some ((oA A7).add (Int.toNat v25 * 1)))), (fun η41 v => v.1 = .int .i64 (rd amounts v25)), (fun η41 v => v.1 = .int .i64 y56), (fun η41 v => v.1 = .agg #[.int .i64 (w64 (y46 - 1)), .int .i64 y56]), (fun η41 v => v.1 = .slice (some ⟨(oA (vA (v.1))).block, 0, none⟩) 1 1), (fun η41 v => v.1 = .slice (vA (v.1)) ((xs24 ++ [(⟨w64 (y46 - 1), y56⟩ : api_Line)]).length) (vC (v.1))), (fun η41 v => v.1 = .slice (vA ((η41 14).1)) ((xs24 ++ [(⟨w64 (y46 - 1), y56⟩ : api_Line)]).length) (vC ((η41 14).1)))] [⟨none, (some 14), fun η41 => Row K43 (.slice A21 xs24.length c23) xs24⟩, ⟨(some 13), none, fun η41 => Row K43 (.slice (some ⟨(oA (vA ((η41 13).1))).block, 0, none⟩) 1 1) [(⟨w64 (y46 - 1), y56⟩ : api_Line)]⟩, ⟨(some 14), none, fun η41 => Row K43 (.slice (vA ((η41 14).1)) ((xs24 ++ [(⟨w64 (y46 - 1), y56⟩ : api_Line)]).length) (vC ((η41 14).1))) (xs24 ++ [(⟨w64 (y46 - 1), y56⟩ : api_Line)])⟩] rfl (by kernel_rfl) (by kernel_rfl) H39 ⟨?_, ?_, ?_, ?_, ?_, ?_, ?_, ?_, ?_, ?_, ?_, ?_, ?_, ?_, ?_, ?_, trivial⟩ ?_
        · intro η41 wd74 Δ75 hE70 hR71 hA72 H73
          refine sp_op [(11, .slice A21 xs24.length c23)] (ac rfl an) ?_
          refine r_pure (.slice A21 xs24.length c23) rfl ?_
          exact r_nil (n_lp ⟨_, rfl, undef, rfl, H73⟩)
        · intro η41 wd80 Δ81 hE76 hR77 hA78 H79
          refine sp_op [(0, .slice A1 accounts.length c2)] (ac rfl an) ?_
          refine r_pure (.slice A1 accounts.length c2) rfl ?_
          exact r_nil (n_lp ⟨_, rfl, undef, rfl, H79⟩)
        · intro η41 wd86 Δ87 hE82 hR83 hA84 H85
          refine sp_op [(12, .int .i64 v25)] (ac rfl an) ?_
          refine r_pure (.int .i64 v25) rfl ?_
          exact r_nil (n_lp ⟨_, rfl, undef, rfl, H85⟩)
        · intro η41 wd92 Δ93 hE88 hR89 hA90 H91
          have H91 : Hp w0 ((Δ93 ++ Γ)) wd92 := H91
          refine sp_op [(33, .slice A1 accounts.length c2), (34, .int .i64 v25)] (ac (hE88 1 (by decide)) (ac (hE88 2 (by decide)) an)) ?_
          have hA97 := (hv4 _ (H91).tl).adO hj44
          refine r_ix IX29 rfl rfl hA97 h042 h143 ?_
          exact r_nil (n_lp ⟨_, rfl, undef, rfl, H91⟩)
        · intro η41 wd102 Δ103 hE98 hR99 hA100 H101
          have H101 : Hp w0 ((Δ103 ++ Γ)) wd102 := H101
          refine sp_op [(35, .pointer (some ((oA A1).add (Int.toNat v25 * 1))))] (ac (hE98 3 (by decide)) an) ?_
          have hA104 := (hv4 _ (H101).tl).adO hj44
          refine r_ld1 (.int .i64 (rd accounts v25)) LD3 rfl ((hv4 _ (H101).tl).c0A hA104 hj44 _ rfl) ?_
          exact r_nil (n_lp ⟨_, rfl, undef, rfl, H101⟩)
        · intro η41 wd109 Δ110 hE105 hR106 hA107 H108
          have H108 : Hp w0 ((Δ110 ++ Γ)) wd109 := H108
          refine sp_op [(36, .int .i64 (rd accounts v25))] (ac (hE105 4 (by decide)) an) ?_
          refine r_callf Try.call5 (scutagekeep_Within_ok (rd accounts v25) 10 y46 H108 hy47) ?_
          rintro e114 wd113 ⟨rfl, H116⟩
          refine ⟨_, rfl, ?_⟩
          exact r_nil (n_lp ⟨_, rfl, undef, rfl, H116⟩)
        · intro η41 wd121 Δ122 hE117 hR118 hA119 H120
          refine sp_op [(37, .int .i64 y46)] (ac (hE117 5 (by decide)) an) ?_
          refine r_pure (.int .i64 (w64 (y46 - 1))) rfl ?_
          exact r_nil (n_lp ⟨_, rfl, undef, rfl, H120⟩)
        · intro η41 wd127 Δ128 hE123 hR124 hA125 H126
          refine sp_op [(1, .slice A7 amounts.length c8)] (ac rfl an) ?_
          refine r_pure (.slice A7 amounts.length c8) rfl ?_
          exact r_nil (n_lp ⟨_, rfl, undef, rfl, H126⟩)
        · intro η41 wd133 Δ134 hE129 hR130 hA131 H132
          refine sp_op [(12, .int .i64 v25)] (ac rfl an) ?_
          refine r_pure (.int .i64 v25) rfl ?_
          exact r_nil (n_lp ⟨_, rfl, undef, rfl, H132⟩)
        · intro η41 wd139 Δ140 hE135 hR136 hA137 H138
          have H138 : Hp w0 ((Δ140 ++ Γ)) wd139 := H138
          refine sp_op [(39, .slice A7 amounts.length c8), (40, .int .i64 v25)] (ac (hE135 7 (by decide)) (ac (hE135 8 (by decide)) an)) ?_
          have hA144 := (hv10 _ (H138).tl).adO hj54
          refine r_ix IX29 rfl rfl hA144 h052 h153 ?_
          exact r_nil (n_lp ⟨_, rfl, undef, rfl, H138⟩)
        · intro η41 wd149 Δ150 hE145 hR146 hA147 H148
          have H148 : Hp w0 ((Δ150 ++ Γ)) wd149 := H148
          refine sp_op [(41, .pointer (some ((oA A7).add (Int.toNat v25 * 1))))] (ac (hE145 9 (by decide)) an) ?_
          have hA151 := (hv10 _ (H148).tl).adO hj54
          refine r_ld1 (.int .i64 (rd amounts v25)) LD3 rfl ((hv10 _ (H148).tl).c0A hA151 hj54 _ rfl) ?_
          exact r_nil (n_lp ⟨_, rfl, undef, rfl, H148⟩)
        · intro η41 wd156 Δ157 hE152 hR153 hA154 H155
          have H155 : Hp w0 ((Δ157 ++ Γ)) wd156 := H155
          refine sp_op [(42, .int .i64 (rd amounts v25))] (ac (hE152 10 (by decide)) an) ?_
          refine r_callf Try.call19 (scutageplay_Amount_ok (rd amounts v25) y56 H155 hy57) ?_
          rintro e161 wd160 ⟨rfl, H163⟩
          refine ⟨_, rfl, ?_⟩
          exact r_nil (n_lp ⟨_, rfl, undef, rfl, H163⟩)
        · intro η41 wd168 Δ169 hE164 hR165 hA166 H167
          refine sp_op [(38, .int .i64 (w64 (y46 - 1))), (43, .int .i64 y56)] (ac (hE164 6 (by decide)) (ac (hE164 11 (by decide)) an)) ?_
          refine r_build [.int .i64 (w64 (y46 - 1)), .int .i64 y56] FL43 rfl ?_
          exact r_nil (n_lp ⟨_, rfl, undef, rfl, H167⟩)
        · intro η41 wd174 Δ175 hE170 hR171 hA172 H173
          have H173 : Hp w0 ((Δ175 ++ Γ)) wd174 := H173
          refine sp_op [(44, .agg #[.int .i64 (w64 (y46 - 1)), .int .i64 y56])] (ac (hE170 12 (by decide)) an) ?_
          refine r_buildSlice (K := K43) [(⟨w64 (y46 - 1), y56⟩ : api_Line)] EL34 rfl rfl rfl (by decide) (by decide) rfl H173 ?_
          intro b176 wd178 H177
          exact r_nil (n_lp ⟨_, rfl, (.tuple #[.slice (some ⟨b176, 0, none⟩) 1 1]), rfl, H177⟩)
        · intro η41 wd183 Δ184 hE179 hR180 hA181 H182
          have H182 : Hp w0 (Row K43 (.slice A21 xs24.length c23) xs24 :: (Δ184 ++ Γ)) wd183 := H182
          refine sp_op [(32, .slice A21 xs24.length c23), (45, .slice (some ⟨(oA (vA ((η41 13).1))).block, 0, none⟩) 1 1)] (ac (hE179 0 (by decide)) (ac (hE179 13 (by decide)) an)) ?_
          refine r_append (K := K43) (ys := [(⟨w64 (y46 - 1), y56⟩ : api_Line)]) AP34 rfl rfl rfl rfl H182 ((show (Row K43 (.slice (some ⟨(oA (vA ((η41 13).1))).block, 0, none⟩) 1 1) [(⟨w64 (y46 - 1), y56⟩ : api_Line)]) _ from (H182.d).memr (hR180 _ (List.mem_of_getElem? (i := 1) rfl) rfl)).src) (fit_le hf65 (by decide)) ?_
          intro A186 c187 wd188 H189
          exact r_nil (n_lp ⟨_, rfl, (.tuple #[.slice A186 ((xs24 ++ [(⟨w64 (y46 - 1), y56⟩ : api_Line)]).length) c187]), rfl, H189⟩)
        · intro η41 wd194 Δ195 hE190 hR191 hA192 H193
          refine sp_op [(46, .slice (vA ((η41 14).1)) ((xs24 ++ [(⟨w64 (y46 - 1), y56⟩ : api_Line)]).length) (vC ((η41 14).1)))] (ac (hE190 14 (by decide)) an) ?_
          refine r_pure (.slice (vA ((η41 14).1)) ((xs24 ++ [(⟨w64 (y46 - 1), y56⟩ : api_Line)]).length) (vC ((η41 14).1))) rfl ?_
          exact r_nil (n_lp ⟨_, rfl, undef, rfl, H193⟩)
        · intro η41 wd197 hV198 H196
          have H199 : Hp w0 (Row K43 (.slice (vA ((η41 14).1)) ((xs24 ++ [(⟨w64 (y46 - 1), y56⟩ : api_Line)]).length) (vC ((η41 14).1))) (xs24 ++ [(⟨w64 (y46 - 1), y56⟩ : api_Line)]) :: Γ) wd197 := H196.d
          refine n_frame [(0, .slice A1 accounts.length c2), (1, .slice A7 amounts.length c8), (11, .slice (vA ((η41 14).1)) ((xs24 ++ [(⟨w64 (y46 - 1), y56⟩ : api_Line)]).length) (vC ((η41 14).1))), (12, .int .i64 v25)] (ac rfl (ac rfl (ac (hV198 15 rfl) (ac rfl an)))) ?_
          refine n_bl ?_
          refine n_sq ?_
          refine st_region ?_
          refine r_pure (.int .i64 v25) rfl ?_
          refine r_pure (.int .i64 (w64 (v25 + 1))) rfl ?_
          refine r_pure (.int .i64 (w64 (v25 + 1))) rfl ?_
          refine r_nil ?_
          refine n_round (IH37 _ _ _ ⟨xs24 ++ [(⟨w64 (y46 - 1), y56⟩ : api_Line)], w64 (v25 + 1), (vA ((η41 14).1)), (xs24 ++ [(⟨w64 (y46 - 1), y56⟩ : api_Line)]).length, (vC ((η41 14).1)), rfl, upk (ac rfl (ac rfl (ac rfl (ac rfl an)))), H199⟩ hm)
      · refine st_condf hb40 rfl ?_
        have hq_ := Option.some.inj hm
        refine st_exit rfl ?_
        subst hq_
        refine n_sq ?_
        refine st_seq ?_
        refine st_region ?_
        refine r_pure (.slice A21 xs24.length c23) rfl ?_
        refine r_pure (.slice A21 xs24.length c23) rfl ?_
        refine r_seq ?_
        have hq_ := Option.some.inj hm27
        subst hq_
        refine st_ret1 rfl rfl (Nat.le_of_ble_eq_true rfl) rfl ?_
        exact ⟨A21, xs24.length, c23, rfl, H39⟩
  · refine st_condf hb13 rfl ?_
    refine st_skip ?_
    refine n_sq ?_
    refine st_seq ?_
    refine st_region ?_
    refine r_pure (.slice A1 accounts.length c2) rfl ?_
    refine r_pure (.slice A7 amounts.length c8) rfl ?_
    obtain ⟨y202, hy203, hm⟩ := bind_some hm
    refine r_callf Try.call20 (scutageplay_Right_ok accounts A1 accounts.length c2 rfl hc3 (fun _ H => (hv4 _ H)) amounts A7 amounts.length c8 rfl hc9 (fun _ H => (hv10 _ H)) y202 H hy203) ?_
    rintro e205 wd204 ⟨A208, n209, c210, rfl, H207⟩
    obtain rfl := (H207.g0).leneq
    refine ⟨_, rfl, ?_⟩
    refine r_pure (.slice A208 y202.length c210) rfl ?_
    refine r_seq ?_
    refine st_seq ?_
    refine st_seq ?_
    refine st_region ?_
    refine r_pure (.slice A208 y202.length c210) rfl ?_
    refine r_len Try.underlying34 rfl ?_
    refine r_pure (.bool ((y202.length : Int) == 0)) rfl ?_
    refine r_seq ?_
    rcases ite_some hm with ⟨hb211, hm⟩ | ⟨hb211, hm⟩
    · refine st_condt hb211 rfl ?_
      refine st_seq ?_
      refine st_region ?_
      refine r_pure (.slice A208 y202.length c210) rfl ?_
      refine r_pure (.slice A208 y202.length c210) rfl ?_
      refine r_seq ?_
      have hq_ := Option.some.inj hm
      subst hq_
      refine st_ret1 rfl rfl (Nat.le_of_ble_eq_true rfl) rfl ?_
      exact ⟨A208, y202.length, c210, rfl, H207⟩
    · refine st_condf hb211 rfl ?_
      refine st_skip ?_
      refine n_sq ?_
      refine st_seq ?_
      refine st_region ?_
      refine r_pure (.int .i64 at_) rfl ?_
      refine r_pure (.slice A208 y202.length c210) rfl ?_
      refine r_len Try.underlying34 rfl ?_
      obtain ⟨y212, hy213, hm⟩ := bind_some hm
      refine r_callf Try.call5 (scutagekeep_Within_ok at_ (y202.length : Int) y212 H207 hy213) ?_
      rintro e215 wd214 ⟨rfl, H217⟩
      refine ⟨_, rfl, ?_⟩
      refine r_pure (.int .i64 y212) rfl ?_
      refine r_seq ?_
      refine st_cut (fun ρ w => ∃ A218 : Option Addr, ∃ n219 : Nat, ∃ c220 : Nat, ∃ xs221 : List api_Line, (∃ base, ρ = updl base [(13, .slice A218 n219 c220)]) ∧ Hp w0 (Row K43 (.slice A218 n219 c220) xs221 :: Γ) w ∧ scutagelaw06_Some.j2 xs221 = some r0_) ?_ ?_
      · refine st_seq ?_
        refine st_region ?_
        refine r_pure (.int .i64 what) rfl ?_
        obtain ⟨y223, hy224, hm⟩ := bind_some hm
        refine r_callf Try.call5 (scutagekeep_Within_ok what 12 y223 H217 hy224) ?_
        rintro e226 wd225 ⟨rfl, H228⟩
        refine ⟨_, rfl, ?_⟩
        refine r_seq ?_
        refine st_block ?_
        refine st_seq ?_
        refine st_region ?_
        refine r_pure (.bool (y223 == 0)) rfl ?_
        refine r_pure (.bool (y223 == 0)) rfl ?_
        refine r_seq ?_
        rcases ite_some hm with ⟨hb229, hm⟩ | ⟨hb229, hm⟩
        · refine st_condt hb229 rfl ?_
          refine st_region ?_
          refine r_pure (.slice A208 y202.length c210) rfl ?_
          refine r_pure (.int .i64 y212) rfl ?_
          obtain ⟨⟨h0230, h1231⟩, hm⟩ := gd_some hm
          have hj232 := rd_get h0230 h1231
          have hA233 := (H228.g0.rd).adO hj232
          refine r_ix IX34 rfl rfl hA233 h0230 h1231 ?_
          refine r_fa FA43_1 (((oA A208).add (Int.toNat y212 * 2)).add 1) rfl rfl ?_
          refine r_ld1 (.int .i64 ((rd y202 y212).Amount)) LD3 rfl ((H228.g0.rd).cA hA233 hj232 1 _ rfl) ?_
          refine r_pure (.int .i64 (w64 ((rd y202 y212).Amount + 1))) rfl ?_
          refine r_ix IX34 rfl rfl hA233 h0230 h1231 ?_
          refine r_fa FA43_1 (((oA A208).add (Int.toNat y212 * 2)).add 1) rfl rfl ?_
          refine r_stx1 (K := K43) ((⟨(rd y202 y212).Account, w64 ((rd y202 y212).Amount + 1)⟩ : api_Line)) hA233 LD3 rfl rfl rfl H228 hj232 (by decide) rfl ?_
          intro wd235 H234
          refine r_nil ?_
          refine n_bl ?_
          refine n_cut ⟨A208, y202.length, c210, y202.set (Int.toNat y212) (⟨(rd y202 y212).Account, w64 ((rd y202 y212).Amount + 1)⟩ : api_Line), upk (ac rfl an), H234, hm⟩
        · refine st_condf hb229 rfl ?_
          refine st_seq ?_
          refine st_region ?_
          refine r_pure (.bool (y223 == 1)) rfl ?_
          refine r_pure (.bool (y223 == 1)) rfl ?_
          refine r_seq ?_
          rcases ite_some hm with ⟨hb236, hm⟩ | ⟨hb236, hm⟩
          · refine st_condt hb236 rfl ?_
            refine st_region ?_
            refine r_pure (.slice A208 y202.length c210) rfl ?_
            refine r_pure (.int .i64 y212) rfl ?_
            refine r_pure (.int .i64 what) rfl ?_
            refine r_quo (by decide) rfl rfl ?_
            obtain ⟨y237, hy238, hm⟩ := bind_some hm
            refine r_callf Try.call5 (scutagekeep_Within_ok (w64 (Int.tdiv what 12)) 10 y237 H228 hy238) ?_
            rintro e240 wd239 ⟨rfl, H242⟩
            refine ⟨_, rfl, ?_⟩
            refine r_pure (.int .i64 (w64 (y237 - 1))) rfl ?_
            obtain ⟨⟨h0243, h1244⟩, hm⟩ := gd_some hm
            have hj245 := rd_get h0243 h1244
            have hA246 := (H242.g0.rd).adO hj245
            refine r_ix IX34 rfl rfl hA246 h0243 h1244 ?_
            refine r_fa FA43_0 (((oA A208).add (Int.toNat y212 * 2)).add 0) rfl rfl ?_
            refine r_stx1 (K := K43) ((⟨w64 (y237 - 1), (rd y202 y212).Amount⟩ : api_Line)) hA246 LD3 rfl rfl rfl H242 hj245 (by decide) rfl ?_
            intro wd248 H247
            refine r_nil ?_
            refine n_bl ?_
            refine n_cut ⟨A208, y202.length, c210, y202.set (Int.toNat y212) (⟨w64 (y237 - 1), (rd y202 y212).Amount⟩ : api_Line), upk (ac rfl an), H247, hm⟩
          · refine st_condf hb236 rfl ?_
            refine st_seq ?_
            refine st_region ?_
            refine r_pure (.bool (y223 == 2)) rfl ?_
            refine r_pure (.bool (y223 == 2)) rfl ?_
            refine r_seq ?_
            rcases ite_some hm with ⟨hb249, hm⟩ | ⟨hb249, hm⟩
            · refine st_condt hb249 rfl ?_
              refine st_region ?_
              refine r_pure (.slice A208 y202.length c210) rfl ?_
              refine r_pure (.slice A208 y202.length c210) rfl ?_
              refine r_pure (.int .i64 y212) rfl ?_
              obtain ⟨⟨h0250, h1251⟩, hm⟩ := gd_some hm
              have hj252 := rd_get h0250 h1251
              have hA253 := (H228.g0.rd).adO hj252
              refine r_ix IX34 rfl rfl hA253 h0250 h1251 ?_
              refine r_ldA [.int .i64 ((rd y202 y212).Account), .int .i64 ((rd y202 y212).Amount)] LD43 rfl rfl ((H228.g0.rd).csA hA253 hj252) ?_
              refine r_buildSlice (K := K43) [(rd y202 y212)] EL34 rfl rfl rfl (by decide) (by decide) rfl H228 ?_
              intro b254 wd256 H255
              obtain ⟨hf257, hm⟩ := gd_some hm
              refine r_append (K := K43) (ys := [(rd y202 y212)]) AP34 rfl rfl rfl rfl H255.u1 (((H255.u1).g1).src) (fit_le hf257 (by decide)) ?_
              intro A258 c259 wd260 H261
              refine r_pure (.slice A258 ((y202 ++ [(rd y202 y212)]).length) c259) rfl ?_
              refine r_nil ?_
              refine n_bl ?_
              refine n_cut ⟨A258, (y202 ++ [(rd y202 y212)]).length, c259, y202 ++ [(rd y202 y212)], upk (ac rfl an), H261.u1.d, hm⟩
            · refine st_condf hb249 rfl ?_
              refine st_seq ?_
              refine st_region ?_
              refine r_pure (.bool (y223 == 3)) rfl ?_
              refine r_pure (.bool (y223 == 3)) rfl ?_
              refine r_seq ?_
              rcases ite_some hm with ⟨hb262, hm⟩ | ⟨hb262, hm⟩
              · refine st_condt hb262 rfl ?_
                obtain ⟨hs264, hm⟩ := gd_some hm
                obtain ⟨hs265, hm⟩ := gd_some hm
                obtain ⟨hf268, hm⟩ := gd_some hm
                refine Flow.run' RA6_20 RW6_20 [(fun η263 v => v.1 = .slice A208 y202.length c210), (fun η263 v => v.1 = .int .i64 y212), (fun η263 v => v.1 = .int .i64 y212), (fun η263 v => v.1 = .slice (cutA A208 (0 : Int) y212 2) ((sb y202 (0 : Int) y212).length) (Int.toNat y212 - Int.toNat (0 : Int))), (fun η263 v => v.1 = .slice A208 y202.length c210), (fun η263 v => v.1 = .int .i64 y212), (fun η263 v => v.1 = .int .i64 (w64 (y212 + 1))), (fun η263 v => v.1 = .slice (cutA A208 (w64 (y212 + 1)) (c210 : Int) 2) ((sb y202 (w64 (y212 + 1)) (y202.length : Int)).length) (c210 - Int.toNat (w64 (y212 + 1)))), (fun η263 v => v.1 = .slice (vA (v.1)) (((sb y202 (0 : Int) y212) ++ (sb y202 (w64 (y212 + 1)) (y202.length : Int))).length) (vC (v.1))), (fun η263 v => v.1 = .slice (vA ((η263 8).1)) (((sb y202 (0 : Int) y212) ++ (sb y202 (w64 (y212 + 1)) (y202.length : Int))).length) (vC ((η263 8).1)))] [⟨none, (some 8), fun η263 => Row K43 (.slice A208 y202.length c210) y202⟩, ⟨(some 8), none, fun η263 => Row K43 (.slice (vA ((η263 8).1)) (((sb y202 (0 : Int) y212) ++ (sb y202 (w64 (y212 + 1)) (y202.length : Int))).length) (vC ((η263 8).1))) ((sb y202 (0 : Int) y212) ++ (sb y202 (w64 (y212 + 1)) (y202.length : Int)))⟩] rfl (by kernel_rfl) (by kernel_rfl) H228 ⟨?_, ?_, ?_, ?_, ?_, ?_, ?_, ?_, ?_, ?_, trivial⟩ ?_
                · intro η263 wd277 Δ278 hE273 hR274 hA275 H276
                  refine sp_op [(13, .slice A208 y202.length c210)] (ac rfl an) ?_
                  refine r_pure (.slice A208 y202.length c210) rfl ?_
                  exact r_nil (n_lp ⟨_, rfl, undef, rfl, H276⟩)
                · intro η263 wd283 Δ284 hE279 hR280 hA281 H282
                  refine sp_op [(14, .int .i64 y212)] (ac rfl an) ?_
                  refine r_pure (.int .i64 y212) rfl ?_
                  exact r_nil (n_lp ⟨_, rfl, undef, rfl, H282⟩)
                · intro η263 wd289 Δ290 hE285 hR286 hA287 H288
                  refine sp_op [(14, .int .i64 y212)] (ac rfl an) ?_
                  refine r_pure (.int .i64 y212) rfl ?_
                  exact r_nil (n_lp ⟨_, rfl, undef, rfl, H288⟩)
                · intro η263 wd295 Δ296 hE291 hR292 hA293 H294
                  have H294 : Hp w0 ((Δ296 ++ Γ)) wd295 := H294
                  refine sp_op [(92, .slice A208 y202.length c210), (93, .int .i64 y212), (94, .int .i64 y212)] (ac (hE291 0 (by decide)) (ac (hE291 1 (by decide)) (ac (hE291 2 (by decide)) an))) ?_
                  refine r_cut3 (xs := y202) (lo := (0 : Int)) (hi := y212) (mx := y212) IX34 rfl rfl ((show (Row K43 (.slice A208 y202.length c210) y202) _ from (H294).memr (hR292 _ (List.mem_of_getElem? (i := 0) rfl) rfl)).cap) ⟨_, rfl⟩ ⟨_, rfl⟩ rfl hs264 ?_
                  exact r_nil (n_lp ⟨_, rfl, undef, rfl, H294⟩)
                · intro η263 wd302 Δ303 hE298 hR299 hA300 H301
                  refine sp_op [(13, .slice A208 y202.length c210)] (ac rfl an) ?_
                  refine r_pure (.slice A208 y202.length c210) rfl ?_
                  exact r_nil (n_lp ⟨_, rfl, undef, rfl, H301⟩)
                · intro η263 wd308 Δ309 hE304 hR305 hA306 H307
                  refine sp_op [(14, .int .i64 y212)] (ac rfl an) ?_
                  refine r_pure (.int .i64 y212) rfl ?_
                  exact r_nil (n_lp ⟨_, rfl, undef, rfl, H307⟩)
                · intro η263 wd314 Δ315 hE310 hR311 hA312 H313
                  refine sp_op [(97, .int .i64 y212)] (ac (hE310 5 (by decide)) an) ?_
                  refine r_pure (.int .i64 (w64 (y212 + 1))) rfl ?_
                  exact r_nil (n_lp ⟨_, rfl, undef, rfl, H313⟩)
                · intro η263 wd320 Δ321 hE316 hR317 hA318 H319
                  have H319 : Hp w0 ((Δ321 ++ Γ)) wd320 := H319
                  refine sp_op [(96, .slice A208 y202.length c210), (98, .int .i64 (w64 (y212 + 1)))] (ac (hE316 4 (by decide)) (ac (hE316 6 (by decide)) an)) ?_
                  refine r_cut2 (xs := y202) (lo := w64 (y212 + 1)) (hi := (y202.length : Int)) IX34 rfl rfl ((show (Row K43 (.slice A208 y202.length c210) y202) _ from (H319).memr (hR317 _ (List.mem_of_getElem? (i := 0) rfl) rfl)).cap) rfl ⟨_, rfl⟩ hs265 ?_
                  exact r_nil (n_lp ⟨_, rfl, undef, rfl, H319⟩)
                · intro η263 wd327 Δ328 hE323 hR324 hA325 H326
                  have H326 : Hp w0 (Row K43 (.slice A208 y202.length c210) y202 :: (Δ328 ++ Γ)) wd327 := H326
                  refine sp_op [(95, .slice (cutA A208 (0 : Int) y212 2) ((sb y202 (0 : Int) y212).length) (Int.toNat y212 - Int.toNat (0 : Int))), (99, .slice (cutA A208 (w64 (y212 + 1)) (c210 : Int) 2) ((sb y202 (w64 (y212 + 1)) (y202.length : Int)).length) (c210 - Int.toNat (w64 (y212 + 1))))] (ac (hE323 3 (by decide)) (ac (hE323 7 (by decide)) an)) ?_
                  have hsrc329 := SlR.src (c := (c210 - Int.toNat (w64 (y212 + 1)))) ((H326.g0.rd).sb (K := K43) (lo := w64 (y212 + 1)) (hi := (y202.length : Int)) (mx := (c210 : Int)) hs265.2.1 (by have := (H326.g0.cap); have := hs265; omega))
                  have H330 : Hp w0 (Row K43 (.slice (cutA A208 (0 : Int) y212 2) ((sb y202 (0 : Int) y212).length) (Int.toNat y212 - Int.toNat (0 : Int))) (sb y202 (0 : Int) y212) :: _) _ := H326.imp fun _ h_ => h_.sb hs264.1 hs264.2.1 hs264.2.2.1 (by have := (H326.g0.cap); have := hs264; omega) (by have := hs264; omega)
                  refine r_append (K := K43) (ys := sb y202 (w64 (y212 + 1)) (y202.length : Int)) AP34 rfl rfl rfl rfl H330 hsrc329 (fit_le hf268 (by decide)) ?_
                  intro A332 c333 wd334 H335
                  exact r_nil (n_lp ⟨_, rfl, (.tuple #[.slice A332 (((sb y202 (0 : Int) y212) ++ (sb y202 (w64 (y212 + 1)) (y202.length : Int))).length) c333]), rfl, H335⟩)
                · intro η263 wd340 Δ341 hE336 hR337 hA338 H339
                  refine sp_op [(100, .slice (vA ((η263 8).1)) (((sb y202 (0 : Int) y212) ++ (sb y202 (w64 (y212 + 1)) (y202.length : Int))).length) (vC ((η263 8).1)))] (ac (hE336 8 (by decide)) an) ?_
                  refine r_pure (.slice (vA ((η263 8).1)) (((sb y202 (0 : Int) y212) ++ (sb y202 (w64 (y212 + 1)) (y202.length : Int))).length) (vC ((η263 8).1))) rfl ?_
                  exact r_nil (n_lp ⟨_, rfl, undef, rfl, H339⟩)
                · intro η263 wd343 hV344 H342
                  have H345 : Hp w0 (Row K43 (.slice (vA ((η263 8).1)) (((sb y202 (0 : Int) y212) ++ (sb y202 (w64 (y212 + 1)) (y202.length : Int))).length) (vC ((η263 8).1))) ((sb y202 (0 : Int) y212) ++ (sb y202 (w64 (y212 + 1)) (y202.length : Int))) :: Γ) wd343 := H342
                  refine n_frame [(13, .slice (vA ((η263 8).1)) (((sb y202 (0 : Int) y212) ++ (sb y202 (w64 (y212 + 1)) (y202.length : Int))).length) (vC ((η263 8).1)))] (ac (hV344 9 rfl) an) ?_
                  refine n_bl ?_
                  refine n_cut ⟨(vA ((η263 8).1)), ((sb y202 (0 : Int) y212) ++ (sb y202 (w64 (y212 + 1)) (y202.length : Int))).length, (vC ((η263 8).1)), (sb y202 (0 : Int) y212) ++ (sb y202 (w64 (y212 + 1)) (y202.length : Int)), upk (ac rfl an), H345, hm⟩
              · refine st_condf hb262 rfl ?_
                refine st_seq ?_
                refine st_region ?_
                refine r_pure (.bool (y223 == 4)) rfl ?_
                refine r_pure (.bool (y223 == 4)) rfl ?_
                refine r_seq ?_
                rcases ite_some hm with ⟨hb346, hm⟩ | ⟨hb346, hm⟩
                · refine st_condt hb346 rfl ?_
                  obtain ⟨⟨h0348, h1349⟩, hm⟩ := gd_some hm
                  have hj350 := rd_get h0348 h1349
                  obtain ⟨⟨h0352, h1353⟩, hm⟩ := gd_some hm
                  have hj354 := rd_get h0352 h1353
                  obtain ⟨⟨h0357, h1358⟩, hm⟩ := gd_some hm
                  have hj359 := rd_get h0357 h1358
                  refine Flow.run' RA6_22 RW6_22 [(fun η347 v => v.1 = .slice A208 y202.length c210), (fun η347 v => v.1 = .slice A208 y202.length c210), (fun η347 v => v.1 = .int .i64 y212), (fun η347 v => v.1 = .slice A208 y202.length c210), (fun η347 v => v.1 = .int .i64 y212), (fun η347 v => v.1 = .pointer (some ((oA A208).add (Int.toNat y212 * 2)))), (fun η347 v => v.1 = .agg #[.int .i64 ((rd y202 y212).Account), .int .i64 ((rd y202 y212).Amount)]), (fun η347 v => v.1 = .slice A208 y202.length c210), (fun η347 v => v.1 = .pointer (some ((oA A208).add (Int.toNat 0 * 2)))), (fun η347 v => v.1 = .agg #[.int .i64 ((rd y202 0).Account), .int .i64 ((rd y202 0).Amount)]), (fun η347 v => v.1 = .pointer (some ((oA A208).add (Int.toNat 0 * 2)))), (fun _ _ => True), (fun η347 v => v.1 = .pointer (some ((oA A208).add (Int.toNat y212 * 2)))), (fun _ _ => True)] [⟨none, (some 11), fun η347 => Row K43 (.slice A208 y202.length c210) y202⟩, ⟨(some 11), (some 13), fun η347 => Row K43 (.slice A208 y202.length c210) (y202.set (Int.toNat 0) (rd y202 y212))⟩, ⟨(some 13), none, fun η347 => Row K43 (.slice A208 y202.length c210) ((y202.set (Int.toNat 0) (rd y202 y212)).set (Int.toNat y212) (rd y202 0))⟩] rfl (by kernel_rfl) (by kernel_rfl) H228 ⟨?_, ?_, ?_, ?_, ?_, ?_, ?_, ?_, ?_, ?_, ?_, ?_, ?_, ?_, trivial⟩ ?_
                  · intro η347 wd366 Δ367 hE362 hR363 hA364 H365
                    refine sp_op [(13, .slice A208 y202.length c210)] (ac rfl an) ?_
                    refine r_pure (.slice A208 y202.length c210) rfl ?_
                    exact r_nil (n_lp ⟨_, rfl, undef, rfl, H365⟩)
                  · intro η347 wd372 Δ373 hE368 hR369 hA370 H371
                    refine sp_op [(13, .slice A208 y202.length c210)] (ac rfl an) ?_
                    refine r_pure (.slice A208 y202.length c210) rfl ?_
                    exact r_nil (n_lp ⟨_, rfl, undef, rfl, H371⟩)
                  · intro η347 wd378 Δ379 hE374 hR375 hA376 H377
                    refine sp_op [(14, .int .i64 y212)] (ac rfl an) ?_
                    refine r_pure (.int .i64 y212) rfl ?_
                    exact r_nil (n_lp ⟨_, rfl, undef, rfl, H377⟩)
                  · intro η347 wd384 Δ385 hE380 hR381 hA382 H383
                    refine sp_op [(13, .slice A208 y202.length c210)] (ac rfl an) ?_
                    refine r_pure (.slice A208 y202.length c210) rfl ?_
                    exact r_nil (n_lp ⟨_, rfl, undef, rfl, H383⟩)
                  · intro η347 wd390 Δ391 hE386 hR387 hA388 H389
                    refine sp_op [(14, .int .i64 y212)] (ac rfl an) ?_
                    refine r_pure (.int .i64 y212) rfl ?_
                    exact r_nil (n_lp ⟨_, rfl, undef, rfl, H389⟩)
                  · intro η347 wd396 Δ397 hE392 hR393 hA394 H395
                    have H395 : Hp w0 ((Δ397 ++ Γ)) wd396 := H395
                    refine sp_op [(106, .slice A208 y202.length c210), (107, .int .i64 y212)] (ac (hE392 3 (by decide)) (ac (hE392 4 (by decide)) an)) ?_
                    have hA401 := ((show (Row K43 (.slice A208 y202.length c210) y202) _ from (H395).memr (hR393 _ (List.mem_of_getElem? (i := 0) rfl) rfl)).rd).adO hj350
                    refine r_ix IX34 rfl rfl hA401 h0348 h1349 ?_
                    exact r_nil (n_lp ⟨_, rfl, undef, rfl, H395⟩)
                  · intro η347 wd406 Δ407 hE402 hR403 hA404 H405
                    have H405 : Hp w0 ((Δ407 ++ Γ)) wd406 := H405
                    refine sp_op [(108, .pointer (some ((oA A208).add (Int.toNat y212 * 2))))] (ac (hE402 5 (by decide)) an) ?_
                    have hA408 := ((show (Row K43 (.slice A208 y202.length c210) y202) _ from (H405).memr (hR403 _ (List.mem_of_getElem? (i := 0) rfl) rfl)).rd).adO hj350
                    refine r_ldA [.int .i64 ((rd y202 y212).Account), .int .i64 ((rd y202 y212).Amount)] LD43 rfl rfl (((show (Row K43 (.slice A208 y202.length c210) y202) _ from (H405).memr (hR403 _ (List.mem_of_getElem? (i := 0) rfl) rfl)).rd).csA hA408 hj350) ?_
                    exact r_nil (n_lp ⟨_, rfl, undef, rfl, H405⟩)
                  · intro η347 wd413 Δ414 hE409 hR410 hA411 H412
                    refine sp_op [(13, .slice A208 y202.length c210)] (ac rfl an) ?_
                    refine r_pure (.slice A208 y202.length c210) rfl ?_
                    exact r_nil (n_lp ⟨_, rfl, undef, rfl, H412⟩)
                  · intro η347 wd419 Δ420 hE415 hR416 hA417 H418
                    have H418 : Hp w0 ((Δ420 ++ Γ)) wd419 := H418
                    refine sp_op [(110, .slice A208 y202.length c210)] (ac (hE415 7 (by decide)) an) ?_
                    have hA424 := ((show (Row K43 (.slice A208 y202.length c210) y202) _ from (H418).memr (hR416 _ (List.mem_of_getElem? (i := 0) rfl) rfl)).rd).adO hj354
                    refine r_ix IX34 rfl rfl hA424 h0352 h1353 ?_
                    exact r_nil (n_lp ⟨_, rfl, undef, rfl, H418⟩)
                  · intro η347 wd429 Δ430 hE425 hR426 hA427 H428
                    have H428 : Hp w0 ((Δ430 ++ Γ)) wd429 := H428
                    refine sp_op [(111, .pointer (some ((oA A208).add (Int.toNat 0 * 2))))] (ac (hE425 8 (by decide)) an) ?_
                    have hA431 := ((show (Row K43 (.slice A208 y202.length c210) y202) _ from (H428).memr (hR426 _ (List.mem_of_getElem? (i := 0) rfl) rfl)).rd).adO hj354
                    refine r_ldA [.int .i64 ((rd y202 0).Account), .int .i64 ((rd y202 0).Amount)] LD43 rfl rfl (((show (Row K43 (.slice A208 y202.length c210) y202) _ from (H428).memr (hR426 _ (List.mem_of_getElem? (i := 0) rfl) rfl)).rd).csA hA431 hj354) ?_
                    exact r_nil (n_lp ⟨_, rfl, undef, rfl, H428⟩)
                  · intro η347 wd436 Δ437 hE432 hR433 hA434 H435
                    have H435 : Hp w0 ((Δ437 ++ Γ)) wd436 := H435
                    refine sp_op [(103, .slice A208 y202.length c210)] (ac (hE432 0 (by decide)) an) ?_
                    have hA438 := ((show (Row K43 (.slice A208 y202.length c210) y202) _ from (H435).memr (hR433 _ (List.mem_of_getElem? (i := 0) rfl) rfl)).rd).adO hj354
                    refine r_ix IX34 rfl rfl hA438 h0352 h1353 ?_
                    exact r_nil (n_lp ⟨_, rfl, undef, rfl, H435⟩)
                  · intro η347 wd443 Δ444 hE439 hR440 hA441 H442
                    have H442 : Hp w0 (Row K43 (.slice A208 y202.length c210) y202 :: (Δ444 ++ Γ)) wd443 := H442
                    refine sp_op [(109, .agg #[.int .i64 ((rd y202 y212).Account), .int .i64 ((rd y202 y212).Amount)]), (113, .pointer (some ((oA A208).add (Int.toNat 0 * 2))))] (ac (hE439 6 (by decide)) (ac (hE439 10 (by decide)) an)) ?_
                    have hA447 := (H442.g0.rd).adO hj354
                    refine r_stxA (K := K43) ((rd y202 y212)) hA447 LD43 rfl rfl rfl rfl H442 (by have h1_ := h0352; have h2_ := h1353; first | omega | (simp only [List.length_set] at h1_ h2_ ⊢; omega)) ?_
                    intro wd446 H445
                    exact r_nil (n_lp ⟨_, rfl, (.tuple #[.slice A208 y202.length c210]), trivial, H445⟩)
                  · intro η347 wd452 Δ453 hE448 hR449 hA450 H451
                    have H451 : Hp w0 ((Δ453 ++ Γ)) wd452 := H451
                    refine sp_op [(104, .slice A208 y202.length c210), (105, .int .i64 y212)] (ac (hE448 1 (by decide)) (ac (hE448 2 (by decide)) an)) ?_
                    have hA457 := ((show (Row K43 (.slice A208 y202.length c210) (y202.set (Int.toNat 0) (rd y202 y212))) _ from (H451).memr (hR449 _ (List.mem_of_getElem? (i := 1) rfl) rfl)).rd).adO hj359
                    refine r_ix IX34 rfl rfl hA457 h0357 (by have h1_ := ((show (Row K43 (.slice A208 y202.length c210) (y202.set (Int.toNat 0) (rd y202 y212))) _ from (H451).memr (hR449 _ (List.mem_of_getElem? (i := 1) rfl) rfl))).leneq; have h2_ := h1358; rw [← h1_] at h2_; exact h2_) ?_
                    exact r_nil (n_lp ⟨_, rfl, undef, rfl, H451⟩)
                  · intro η347 wd462 Δ463 hE458 hR459 hA460 H461
                    have H461 : Hp w0 (Row K43 (.slice A208 y202.length c210) (y202.set (Int.toNat 0) (rd y202 y212)) :: (Δ463 ++ Γ)) wd462 := H461
                    refine sp_op [(112, .agg #[.int .i64 ((rd y202 0).Account), .int .i64 ((rd y202 0).Amount)]), (114, .pointer (some ((oA A208).add (Int.toNat y212 * 2))))] (ac (hE458 9 (by decide)) (ac (hE458 12 (by decide)) an)) ?_
                    have hA466 := (H461.g0.rd).adO hj359
                    refine r_stxA (K := K43) ((rd y202 0)) hA466 LD43 rfl rfl rfl rfl H461 (by have h1_ := h0357; have h2_ := h1358; first | omega | (simp only [List.length_set] at h1_ h2_ ⊢; omega)) ?_
                    intro wd465 H464
                    exact r_nil (n_lp ⟨_, rfl, (.tuple #[.slice A208 y202.length c210]), trivial, H464⟩)
                  · intro η347 wd468 hV469 H467
                    have H470 : Hp w0 (Row K43 (.slice A208 y202.length c210) ((y202.set (Int.toNat 0) (rd y202 y212)).set (Int.toNat y212) (rd y202 0)) :: Γ) wd468 := H467
                    refine n_frame [(13, .slice A208 y202.length c210)] (ac rfl an) ?_
                    refine n_bl ?_
                    refine n_cut ⟨A208, y202.length, c210, (y202.set (Int.toNat 0) (rd y202 y212)).set (Int.toNat y212) (rd y202 0), upk (ac rfl an), H470, hm⟩
                · refine st_condf hb346 rfl ?_
                  refine st_seq ?_
                  refine st_region ?_
                  refine r_pure (.bool (y223 == 5)) rfl ?_
                  refine r_pure (.bool (y223 == 5)) rfl ?_
                  refine r_seq ?_
                  rcases ite_some hm with ⟨hb471, hm⟩ | ⟨hb471, hm⟩
                  · refine st_condt hb471 rfl ?_
                    refine st_region ?_
                    refine r_pure (.slice A208 y202.length c210) rfl ?_
                    refine r_pure (.int .i64 y212) rfl ?_
                    obtain ⟨⟨h0472, h1473⟩, hm⟩ := gd_some hm
                    have hj474 := rd_get h0472 h1473
                    have hA475 := (H228.g0.rd).adO hj474
                    refine r_ix IX34 rfl rfl hA475 h0472 h1473 ?_
                    refine r_fa FA43_1 (((oA A208).add (Int.toNat y212 * 2)).add 1) rfl rfl ?_
                    refine r_stx1 (K := K43) ((⟨(rd y202 y212).Account, 0⟩ : api_Line)) hA475 LD3 rfl rfl rfl H228 hj474 (by decide) rfl ?_
                    intro wd477 H476
                    refine r_nil ?_
                    refine n_bl ?_
                    refine n_cut ⟨A208, y202.length, c210, y202.set (Int.toNat y212) (⟨(rd y202 y212).Account, 0⟩ : api_Line), upk (ac rfl an), H476, hm⟩
                  · refine st_condf hb471 rfl ?_
                    refine st_skip ?_
                    refine n_bl ?_
                    refine n_cut ⟨A208, y202.length, c210, y202, upk (ac rfl an), H228, hm⟩
      · rintro ρ w ⟨A218, n219, c220, xs221, ⟨base, rfl⟩, H222, hm⟩
        obtain rfl := (H222.g0).leneq
        unfold scutagelaw06_Some.j2 at hm
        refine st_seq ?_
        refine st_region ?_
        refine r_pure (.slice A218 xs221.length c220) rfl ?_
        refine r_pure (.slice A218 xs221.length c220) rfl ?_
        refine r_seq ?_
        have hq_ := Option.some.inj hm
        subst hq_
        refine st_ret1 rfl rfl (Nat.le_of_ble_eq_true rfl) rfl ?_
        exact ⟨A218, xs221.length, c220, rfl, H222⟩

set_option maxHeartbeats 2000000 in
theorem scutageref01_Reverse_ok {w0 w : World} {Γ : List (World → Prop)} (lines : List api_Line) (A1 : Option Addr) (n6 c2 : Nat) (hn5 : n6 = lines.length) (hc3 : lines.length ≤ c2) (hv4 : ∀ u, Hp w0 Γ u → SlR K43 A1 lines u) (r0_ : List api_Line) (H : Hp w0 (Γ) w) (hm : scutageref01_Reverse lines = some r0_) : Calls Try.prog 7 #[.slice A1 n6 c2] w (fun e w => ∃ (Ax1 : Option Addr) (nx2 cx3 : Nat), e = .returned (.slice Ax1 nx2 cx3) ∧ Hp w0 (Row K43 (.slice Ax1 nx2 cx3) r0_ :: Γ) w) := by
  subst hn5
  unfold scutageref01_Reverse at hm
  refine st_enter Try.func7 rfl Try.ntmps7 (Nat.le_of_ble_eq_true rfl) ?_
  refine st_seq ?_
  refine st_region ?_
  refine r_pure (.slice none 0 0) rfl ?_
  refine r_seq ?_
  refine st_seq ?_
  refine st_region ?_
  refine r_pure (.slice none 0 0) rfl ?_
  refine r_seq ?_
  refine st_seq ?_
  refine st_seq ?_
  refine st_region ?_
  refine r_pure (.slice A1 lines.length c2) rfl ?_
  refine r_len Try.underlying34 rfl ?_
  refine r_pure (.int .i64 0) rfl ?_
  refine r_seq ?_
  refine st_block ?_
  have H12 := H.add (A := Row K43 (.slice none 0 0) []) Row.nil
  have hlim36 := (hv4 _ H12.d).lim
  obtain ⟨tl19, hl20, hm18⟩ := bind_some hm
  refine st_loopL (scutageref01_Reverse.l1) (fun ys25 s ρ w => ∃ i21 : Int, ∃ xs16 : List api_Line, ∃ dn22 : List api_Line, ∃ A13 : Option Addr, ∃ n14 : Nat, ∃ c15 : Nat, (i21, xs16) = s ∧ lines = dn22 ++ ys25 ∧ i21 = (dn22.length : Int) ∧ (∃ base, ρ = updl base [(3, .slice A13 n14 c15), (6, .slice A1 lines.length c2), (7, .int .i64 (lines.length : Int)), (8, .int .i64 i21)]) ∧ Hp w0 (Row K43 (.slice A13 n14 c15) xs16 :: Γ) w) hl20 ⟨0, ([] : List api_Line), [], none, 0, 0, rfl, rfl, rfl, upk (ac rfl (ac rfl (ac rfl (ac rfl an)))), H12⟩ ?_
  rintro m ys25 IH29 s ρ w ⟨i21, xs16, dn22, A13, n14, c15, rfl, hxs23, hi24, ⟨base, rfl⟩, H17⟩ hm
  obtain rfl := (H17.g0).leneq
  rcases ys25 with _ | ⟨y26, ys25⟩
  · rw [scutageref01_Reverse.l1] at hm
    have hb30 := range_end hxs23 hi24
    refine st_seq ?_
    refine st_region ?_
    refine r_pure (.bool (decide (i21 < (lines.length : Int)))) rfl ?_
    refine r_seq ?_
    refine st_seq ?_
    refine st_condf hb30 rfl ?_
    have hq_ := Option.some.inj hm
    refine st_exit rfl ?_
    subst hq_
    refine n_sq ?_
    refine st_seq ?_
    refine st_region ?_
    refine r_pure (.slice A13 xs16.length c15) rfl ?_
    refine r_pure (.slice A13 xs16.length c15) rfl ?_
    refine r_seq ?_
    have hq_ := Option.some.inj hm18
    subst hq_
    refine st_ret1 rfl rfl (Nat.le_of_ble_eq_true rfl) rfl ?_
    exact ⟨A13, xs16.length, c15, rfl, H17⟩
  · rw [scutageref01_Reverse.l1] at hm
    have hb31 := range_in hxs23 hi24
    obtain ⟨h032, h133, hj34⟩ := range_ix hxs23 hi24
    have hnx35 := range_next hxs23 hi24 hlim36
    refine st_seq ?_
    refine st_region ?_
    refine r_pure (.bool (decide (i21 < (lines.length : Int)))) rfl ?_
    refine r_seq ?_
    refine st_seq ?_
    refine st_condt hb31 rfl ?_
    refine st_skip ?_
    refine n_sq ?_
    refine st_seq ?_
    refine st_block ?_
    refine st_seq ?_
    refine st_region ?_
    have hA37 := (hv4 _ H17.d).adO hj34
    refine r_ix IX34 rfl rfl hA37 h032 h133 ?_
    refine r_ldA [.int .i64 y26.Account, .int .i64 y26.Amount] LD43 rfl rfl ((hv4 _ H17.d).csA hA37 hj34) ?_
    refine r_alloc [.int .i64 0, .int .i64 0] Try.zeroValue43 H17 rfl ?_
    intro b38 wd40 H39
    refine r_stA [.int .i64 y26.Account, .int .i64 y26.Amount] LD43 rfl rfl rfl rfl H39 (Nat.le_of_ble_eq_true rfl) rfl ?_
    intro wd42 H41
    refine r_seq ?_
    refine st_region ?_
    refine r_pure (.slice A13 xs16.length c15) rfl ?_
    refine r_fa FA43_0 ⟨b38, 0, none⟩ rfl rfl ?_
    refine r_ld1 (.int .i64 y26.Account) LD3 rfl ((H41.g0).cell _ rfl) ?_
    refine r_fa FA43_1 ⟨b38, 1, none⟩ rfl rfl ?_
    refine r_ld1 (.int .i64 y26.Amount) LD3 rfl ((H41.g0).cell _ rfl) ?_
    refine r_pure (.int .i64 (w64 (0 - y26.Amount))) rfl ?_
    refine r_build [.int .i64 y26.Account, .int .i64 (w64 (0 - y26.Amount))] FL43 rfl ?_
    refine r_buildSlice (K := K43) [(⟨y26.Account, w64 (0 - y26.Amount)⟩ : api_Line)] EL34 rfl rfl rfl (by decide) (by decide) rfl H41 ?_
    intro b43 wd45 H44
    obtain ⟨hf46, hm⟩ := gd_some hm
    refine r_append (K := K43) (ys := [(⟨y26.Account, w64 (0 - y26.Amount)⟩ : api_Line)]) AP34 rfl rfl rfl rfl H44.u2 (((H44.u2).g1).src) (fit_le hf46 (by decide)) ?_
    intro A47 c48 wd49 H50
    refine r_pure (.slice A47 ((xs16 ++ [(⟨y26.Account, w64 (0 - y26.Amount)⟩ : api_Line)]).length) c48) rfl ?_
    refine r_nil ?_
    refine n_bl ?_
    refine n_sq ?_
    refine st_region ?_
    refine r_pure (.int .i64 (w64 (i21 + 1))) rfl ?_
    refine r_pure (.int .i64 (w64 (i21 + 1))) rfl ?_
    refine r_nil ?_
    refine n_round (IH29 _ _ rfl _ _ _ ⟨i21 + 1, xs16 ++ [(⟨y26.Account, w64 (0 - y26.Amount)⟩ : api_Line)], dn22 ++ [y26], A47, (xs16 ++ [(⟨y26.Account, w64 (0 - y26.Amount)⟩ : api_Line)]).length, c48, rfl, range_more hxs23, range_len hi24, upk (ac rfl (ac rfl (ac rfl (ac hnx35 an)))), H50.u1.d.u1.d⟩ hm)

set_option maxHeartbeats 2000000 in
theorem period_Right_ok {w0 w : World} {Γ : List (World → Prop)} (p : Int) (r0_ : Bool) (H : Hp w0 (Γ) w) (hm : period_Right p = some r0_) : Calls Try.prog 21 #[.int .i64 p] w (fun e w => e = .returned (.bool r0_) ∧ Hp w0 (Γ) w) := by
  unfold period_Right at hm
  refine st_enter Try.func21 rfl Try.ntmps21 (Nat.le_of_ble_eq_true rfl) ?_
  refine st_seq ?_
  refine st_region ?_
  refine r_pure (.bool false) rfl ?_
  refine r_seq ?_
  refine st_cut (fun ρ w => ∃ q1 : Bool, (∃ base, ρ = updl base [(2, .bool q1)]) ∧ Hp w0 (Γ) w ∧ period_Right.j1 q1 = some r0_) ?_ ?_
  · refine st_region ?_
    refine r_pure (.int .i64 p) rfl ?_
    refine r_pure (.bool (decide (p ≥ 0))) rfl ?_
    refine r_pure (.bool (decide (p ≥ 0))) rfl ?_
    rcases ite_some hm with ⟨hb3, hm⟩ | ⟨hb3, hm⟩
    · refine r_pure (.int .i64 p) rfl ?_ (wn_t rfl rfl (by decide) rfl hb3)
      refine r_pure (.bool (decide (p ≤ 399))) rfl ?_ (wn_t rfl rfl (by decide) rfl hb3)
      refine r_pick_t (.bool (decide (p ≤ 399))) hb3 rfl rfl ?_
      refine r_pure (.bool (decide (p ≤ 399))) rfl ?_
      refine r_nil ?_
      refine n_cut ⟨decide (p ≤ 399), upk (ac rfl an), H, hm⟩
    · refine r_not (wn_f rfl rfl (by decide) rfl hb3) ?_
      refine r_not (wn_f rfl rfl (by decide) rfl hb3) ?_
      refine r_pick_f (.bool false) hb3 rfl rfl ?_
      refine r_pure (.bool false) rfl ?_
      refine r_nil ?_
      refine n_cut ⟨false, upk (ac rfl an), H, hm⟩
  · rintro ρ w ⟨q1, ⟨base, rfl⟩, H2, hm⟩
    unfold period_Right.j1 at hm
    have hq_ := Option.some.inj hm
    subst hq_
    refine st_ret1 rfl rfl (Nat.le_of_ble_eq_true rfl) rfl ?_
    exact ⟨rfl, H2⟩

set_option maxHeartbeats 2000000 in
theorem slices_IndexFunc_api_Journal_ok {w0 w : World} {Γ : List (World → Prop)} (s_ : List api_Journal) (A1 : Option Addr) (n6 c2 : Nat) (hn5 : n6 = s_.length) (hc3 : s_.length ≤ c2) (ads7 : Nat → Option Addr × Nat) (hv4 : ∀ u, Hp w0 Γ u → SlRN (fun j => KN37 (ads7 j)) 6 A1 s_ u) (hin8 : ∀ j x, s_[j]? = some x → x.Lines.length ≤ (ads7 j).2 ∧ ∀ u, Hp w0 Γ u → SlR K43 (ads7 j).1 x.Lines u) (fv9 : Value) (f_ : api_Journal → Option Bool) (hp10 : FnOkN Try.prog w0 Γ fv9 NK37 (fun x a => [.agg #[.int .i64 x.Seq, .string x.Entity, .int .i64 x.Period, .int .i64 x.Kind, .int .i64 x.Of, .slice a.1 x.Lines.length a.2]]) (fun r => .bool r) f_) (r0_ : Int) (H : Hp w0 (Γ) w) (hm : slices_IndexFunc_api_Journal s_ f_ = some r0_) : Calls Try.prog 43 #[.slice A1 n6 c2, fv9] w (fun e w => e = .returned (.int .i64 r0_) ∧ Hp w0 (Γ) w) := by
  subst hn5
  obtain ⟨gf11, gcap12, rfl, ge13, gp14⟩ := hp10
  unfold slices_IndexFunc_api_Journal at hm
  refine st_enter Try.func43 rfl Try.ntmps43 (Nat.le_of_ble_eq_true rfl) ?_
  refine st_seq ?_
  refine st_region ?_
  refine r_pure (.int .i64 0) rfl ?_
  refine r_seq ?_
  refine st_seq ?_
  refine st_seq ?_
  refine st_region ?_
  refine r_pure (.slice A1 s_.length c2) rfl ?_
  refine r_len Try.underlying26 rfl ?_
  refine r_pure (.int .i64 0) rfl ?_
  refine r_seq ?_
  refine st_block ?_
  have hlim34 := (hv4 _ H).lim
  obtain ⟨tl17, hl18, hm16⟩ := bind_some hm
  refine st_loopL (slices_IndexFunc_api_Journal.l1 f_) (fun ys23 s ρ w => ∃ i19 : Int, ∃ dn20 : List api_Journal, i19 = s ∧ s_ = dn20 ++ ys23 ∧ i19 = (dn20.length : Int) ∧ (∃ base, ρ = updl base [(0, .slice A1 s_.length c2), (1, .func (.func gf11) #[] (List.toArray gcap12)), (7, .int .i64 (s_.length : Int)), (8, .int .i64 i19)]) ∧ Hp w0 (Γ) w) hl18 ⟨0, [], rfl, rfl, rfl, upk (ac rfl (ac rfl (ac rfl (ac rfl an)))), H⟩ ?_
  rintro m ys23 IH27 s ρ w ⟨i19, dn20, rfl, hxs21, hi22, ⟨base, rfl⟩, H15⟩ hm
  rcases ys23 with _ | ⟨y24, ys23⟩
  · rw [slices_IndexFunc_api_Journal.l1] at hm
    have hb28 := range_end hxs21 hi22
    refine st_seq ?_
    refine st_region ?_
    refine r_pure (.bool (decide (i19 < (s_.length : Int)))) rfl ?_
    refine r_seq ?_
    refine st_seq ?_
    refine st_condf hb28 rfl ?_
    have hq_ := Option.some.inj hm
    refine st_exit rfl ?_
    subst hq_
    refine n_sq ?_
    refine st_seq ?_
    refine st_region ?_
    refine r_pure (.int .i64 (-1)) rfl ?_
    refine r_seq ?_
    have hq_ := Option.some.inj hm16
    subst hq_
    refine st_ret1 rfl rfl (Nat.le_of_ble_eq_true rfl) rfl ?_
    exact ⟨rfl, H15⟩
  · rw [slices_IndexFunc_api_Journal.l1] at hm
    have hb29 := range_in hxs21 hi22
    obtain ⟨h030, h131, hj32⟩ := range_ix hxs21 hi22
    have hnx33 := range_next hxs21 hi22 hlim34
    refine st_seq ?_
    refine st_region ?_
    refine r_pure (.bool (decide (i19 < (s_.length : Int)))) rfl ?_
    refine r_seq ?_
    refine st_seq ?_
    refine st_condt hb29 rfl ?_
    refine st_skip ?_
    refine n_sq ?_
    refine st_seq ?_
    refine st_block ?_
    refine st_seq ?_
    refine st_region ?_
    refine r_pure (.int .i64 i19) rfl ?_
    refine r_pure (.int .i64 i19) rfl ?_
    refine r_seq ?_
    refine st_seq ?_
    refine st_region ?_
    refine r_pure (.func (.func gf11) #[] (List.toArray gcap12)) rfl ?_
    refine r_pure (.slice A1 s_.length c2) rfl ?_
    refine r_pure (.int .i64 i19) rfl ?_
    have hA35 := (hv4 _ H15).adO hj32
    refine r_ix IX26 rfl rfl hA35 h030 h131 ?_
    refine r_ldA [.int .i64 y24.Seq, .string y24.Entity, .int .i64 y24.Period, .int .i64 y24.Kind, .int .i64 y24.Of, .slice ((ads7 (Int.toNat i19)).1) y24.Lines.length ((ads7 (Int.toNat i19)).2)] LD37 rfl rfl ((hv4 _ H15).csA hA35 hj32) ?_
    obtain ⟨y36, hy37, hm⟩ := bind_some hm
    refine r_callv rfl ge13 (gp14 _ ((ads7 (Int.toNat i19)).1, (ads7 (Int.toNat i19)).2) _ hy37 _ _ H15 (fun _ H => H) (hin8 _ _ hj32).1 (fun _ H => ((hin8 _ _ hj32).2 _ H))) ?_
    rintro e40 wd39 ⟨rfl, H38⟩
    refine ⟨_, rfl, ?_⟩
    refine r_seq ?_
    rcases ite_some hm with ⟨hb41, hm⟩ | ⟨hb41, hm⟩
    · refine st_condt hb41 rfl ?_
      refine st_seq ?_
      refine st_region ?_
      refine r_pure (.int .i64 i19) rfl ?_
      refine r_pure (.int .i64 i19) rfl ?_
      refine r_seq ?_
      have hq_ := Option.some.inj hm
      subst hq_
      have hq_ := Option.some.inj (show some (i19 : Int) = some r0_ from hm16)
      subst hq_
      refine st_ret1 rfl rfl (Nat.le_of_ble_eq_true rfl) rfl ?_
      exact ⟨rfl, H38⟩
    · refine st_condf hb41 rfl ?_
      refine st_skip ?_
      refine n_bl ?_
      refine n_sq ?_
      refine st_region ?_
      refine r_pure (.int .i64 (w64 (i19 + 1))) rfl ?_
      refine r_pure (.int .i64 (w64 (i19 + 1))) rfl ?_
      refine r_nil ?_
      refine n_round (IH27 _ _ rfl _ _ _ ⟨i19 + 1, dn20 ++ [y24], rfl, range_more hxs21, range_len hi22, upk (ac rfl (ac rfl (ac rfl (ac hnx33 an)))), H38⟩ hm)

set_option maxHeartbeats 2000000 in
theorem store_Store_reversed_c1_ok {w0 w : World} {Γ : List (World → Prop)} (j_ : api_Journal) (A1 : Option Addr) (n6 c2 : Nat) (hn5 : n6 = j_.Lines.length) (hc3 : j_.Lines.length ≤ c2) (hv4 : ∀ u, Hp w0 Γ u → SlR K43 A1 j_.Lines u) (b8 : Nat) (cap7 : Int) (hv9 : ∀ u, Hp w0 Γ u → Bx b8 3 [.int .i64 cap7] u) (r0_ : Bool) (H : Hp w0 (Γ) w) (hm : store_Store_reversed_c1 j_ cap7 = some r0_) : Calls Try.prog 44 #[.agg #[.int .i64 j_.Seq, .string j_.Entity, .int .i64 j_.Period, .int .i64 j_.Kind, .int .i64 j_.Of, .slice A1 n6 c2], .pointer (some ⟨b8, 0, none⟩)] w (fun e w => e = .returned (.bool r0_) ∧ Hp w0 (Γ) w) := by
  subst hn5
  unfold store_Store_reversed_c1 at hm
  refine st_enter Try.func44 rfl Try.ntmps44 (Nat.le_of_ble_eq_true rfl) ?_
  refine st_seq ?_
  refine st_region ?_
  refine r_box [.int .i64 j_.Seq, .string j_.Entity, .int .i64 j_.Period, .int .i64 j_.Kind, .int .i64 j_.Of, .slice A1 j_.Lines.length c2] H rfl ?_
  intro b10 wd12 H11
  refine r_pure (.bool false) rfl ?_
  refine r_seq ?_
  refine st_seq ?_
  refine st_region ?_
  refine r_fa FA37_0 ⟨b10, 0, none⟩ rfl rfl ?_
  refine r_ld1 (.int .i64 j_.Seq) LD3 rfl ((H11.g0).cell _ rfl) ?_
  refine r_ld1 (.int .i64 cap7) LD3 rfl ((hv9 _ H11.d).cell _ rfl) ?_
  refine r_pure (.bool (j_.Seq == cap7)) rfl ?_
  refine r_pure (.bool (j_.Seq == cap7)) rfl ?_
  refine r_seq ?_
  have hq_ := Option.some.inj hm
  subst hq_
  refine st_ret1 rfl rfl (Nat.le_of_ble_eq_true rfl) rfl ?_
  exact ⟨rfl, H11.d⟩

set_option maxHeartbeats 2000000 in
theorem slices_ContainsFunc_api_Journal_ok {w0 w : World} {Γ : List (World → Prop)} (s_ : List api_Journal) (A1 : Option Addr) (n6 c2 : Nat) (hn5 : n6 = s_.length) (hc3 : s_.length ≤ c2) (ads7 : Nat → Option Addr × Nat) (hv4 : ∀ u, Hp w0 Γ u → SlRN (fun j => KN37 (ads7 j)) 6 A1 s_ u) (hin8 : ∀ j x, s_[j]? = some x → x.Lines.length ≤ (ads7 j).2 ∧ ∀ u, Hp w0 Γ u → SlR K43 (ads7 j).1 x.Lines u) (fv9 : Value) (f_ : api_Journal → Option Bool) (hp10 : FnOkN Try.prog w0 Γ fv9 NK37 (fun x a => [.agg #[.int .i64 x.Seq, .string x.Entity, .int .i64 x.Period, .int .i64 x.Kind, .int .i64 x.Of, .slice a.1 x.Lines.length a.2]]) (fun r => .bool r) f_) (r0_ : Bool) (H : Hp w0 (Γ) w) (hm : slices_ContainsFunc_api_Journal s_ f_ = some r0_) : Calls Try.prog 45 #[.slice A1 n6 c2, fv9] w (fun e w => e = .returned (.bool r0_) ∧ Hp w0 (Γ) w) := by
  subst hn5
  obtain ⟨gf11, gcap12, rfl, ge13, gp14⟩ := hp10
  unfold slices_ContainsFunc_api_Journal at hm
  refine st_enter Try.func45 rfl Try.ntmps45 (Nat.le_of_ble_eq_true rfl) ?_
  refine st_seq ?_
  refine st_region ?_
  refine r_pure (.bool false) rfl ?_
  refine r_seq ?_
  refine st_seq ?_
  refine st_region ?_
  refine r_pure (.slice A1 s_.length c2) rfl ?_
  refine r_pure (.func (.func gf11) #[] (List.toArray gcap12)) rfl ?_
  obtain ⟨y15, hy16, hm⟩ := bind_some hm
  refine r_callf Try.call43 (slices_IndexFunc_api_Journal_ok s_ A1 s_.length c2 rfl hc3 ads7 (fun _ H => (hv4 _ H)) (fun j x hj => ⟨(hin8 j x hj).1, fun u H => (hin8 j x hj).2 u H⟩) (.func (.func gf11) #[] (List.toArray gcap12)) f_ ⟨gf11, gcap12, rfl, ge13, fun x a y hy Δ w H hΔ hc hv => gp14 x a y hy Δ w H (fun u hu => (hΔ u hu)) hc hv⟩ y15 H hy16) ?_
  rintro e18 wd17 ⟨rfl, H20⟩
  refine ⟨_, rfl, ?_⟩
  refine r_pure (.bool (decide (y15 ≥ 0))) rfl ?_
  refine r_pure (.bool (decide (y15 ≥ 0))) rfl ?_
  refine r_seq ?_
  have hq_ := Option.some.inj hm
  subst hq_
  refine st_ret1 rfl rfl (Nat.le_of_ble_eq_true rfl) rfl ?_
  exact ⟨rfl, H20⟩

set_option maxHeartbeats 2000000 in
theorem store_Store_reversed_c2_ok {w0 w : World} {Γ : List (World → Prop)} (j_ : api_Journal) (A1 : Option Addr) (n6 c2 : Nat) (hn5 : n6 = j_.Lines.length) (hc3 : j_.Lines.length ≤ c2) (hv4 : ∀ u, Hp w0 Γ u → SlR K43 A1 j_.Lines u) (b8 : Nat) (cap7 : Int) (hv9 : ∀ u, Hp w0 Γ u → Bx b8 3 [.int .i64 cap7] u) (r0_ : Bool) (H : Hp w0 (Γ) w) (hm : store_Store_reversed_c2 j_ cap7 = some r0_) : Calls Try.prog 46 #[.agg #[.int .i64 j_.Seq, .string j_.Entity, .int .i64 j_.Period, .int .i64 j_.Kind, .int .i64 j_.Of, .slice A1 n6 c2], .pointer (some ⟨b8, 0, none⟩)] w (fun e w => e = .returned (.bool r0_) ∧ Hp w0 (Γ) w) := by
  subst hn5
  unfold store_Store_reversed_c2 at hm
  refine st_enter Try.func46 rfl Try.ntmps46 (Nat.le_of_ble_eq_true rfl) ?_
  refine st_seq ?_
  refine st_region ?_
  refine r_box [.int .i64 j_.Seq, .string j_.Entity, .int .i64 j_.Period, .int .i64 j_.Kind, .int .i64 j_.Of, .slice A1 j_.Lines.length c2] H rfl ?_
  intro b10 wd12 H11
  refine r_pure (.bool false) rfl ?_
  refine r_seq ?_
  refine st_cut (fun ρ w => ∃ q13 : Bool, (∃ base, ρ = updl base [(3, .bool q13)]) ∧ Hp w0 (Γ) w ∧ store_Store_reversed_c2.j1 q13 = some r0_) ?_ ?_
  · refine st_region ?_
    refine r_fa FA37_3 ⟨b10, 3, none⟩ rfl rfl ?_
    refine r_ld1 (.int .i64 j_.Kind) LD3 rfl ((H11.g0).cell _ rfl) ?_
    refine r_pure (.bool (j_.Kind == 2)) rfl ?_
    refine r_pure (.bool (j_.Kind == 2)) rfl ?_
    rcases ite_some hm with ⟨hb15, hm⟩ | ⟨hb15, hm⟩
    · refine r_fa FA37_4 ⟨b10, 4, none⟩ rfl rfl ?_ (wn_t rfl rfl (by decide) rfl hb15)
      refine r_ld1 (.int .i64 j_.Of) LD3 rfl ((H11.g0).cell _ rfl) ?_ (wn_t rfl rfl (by decide) rfl hb15)
      refine r_ld1 (.int .i64 cap7) LD3 rfl ((hv9 _ H11.d).cell _ rfl) ?_ (wn_t rfl rfl (by decide) rfl hb15)
      refine r_pure (.bool (j_.Of == cap7)) rfl ?_ (wn_t rfl rfl (by decide) rfl hb15)
      refine r_pick_t (.bool (j_.Of == cap7)) hb15 rfl rfl ?_
      refine r_pure (.bool (j_.Of == cap7)) rfl ?_
      refine r_nil ?_
      refine n_cut ⟨j_.Of == cap7, upk (ac rfl an), H11.d, hm⟩
    · refine r_not (wn_f rfl rfl (by decide) rfl hb15) ?_
      refine r_not (wn_f rfl rfl (by decide) rfl hb15) ?_
      refine r_not (wn_f rfl rfl (by decide) rfl hb15) ?_
      refine r_not (wn_f rfl rfl (by decide) rfl hb15) ?_
      refine r_pick_f (.bool false) hb15 rfl rfl ?_
      refine r_pure (.bool false) rfl ?_
      refine r_nil ?_
      refine n_cut ⟨false, upk (ac rfl an), H11.d, hm⟩
  · rintro ρ w ⟨q13, ⟨base, rfl⟩, H14, hm⟩
    unfold store_Store_reversed_c2.j1 at hm
    have hq_ := Option.some.inj hm
    subst hq_
    refine st_ret1 rfl rfl (Nat.le_of_ble_eq_true rfl) rfl ?_
    exact ⟨rfl, H14⟩

set_option maxHeartbeats 2000000 in
theorem store_Store_reversed_ok {w0 w : World} {Γ : List (World → Prop)} (b1 : Nat) (s_ : store_Store) (A2 : Option Addr) (n7 c3 : Nat) (hn6 : n7 = s_.f_l.length) (hc4 : s_.f_l.length ≤ c3) (ads8 : Nat → Option Addr × Nat) (hv5 : ∀ u, Hp w0 Γ u → SlRN (fun j => KN37 (ads8 j)) 6 A2 s_.f_l u) (hin9 : ∀ j x, s_.f_l[j]? = some x → x.Lines.length ≤ (ads8 j).2 ∧ ∀ u, Hp w0 Γ u → SlR K43 (ads8 j).1 x.Lines u) (hv10 : ∀ u, Hp w0 Γ u → Bx b1 52 [.slice A2 n7 c3] u) (entity : ByteArray) (p : Int) (of_ : Int) (r0_ : api_Journal) (r1_ : Int) (H : Hp w0 (Γ) w) (hm : store_Store_reversed s_ entity p of_ = some (r0_, r1_)) : Calls Try.prog 33 #[.pointer (some ⟨b1, 0, none⟩), .string entity, .int .i64 p, .int .i64 of_] w (fun e w => ∃ (Ax1 : Option Addr) (cx2 : Nat), e = .returned (.tuple #[.agg #[.int .i64 r0_.Seq, .string r0_.Entity, .int .i64 r0_.Period, .int .i64 r0_.Kind, .int .i64 r0_.Of, .slice Ax1 r0_.Lines.length cx2], .int .i64 r1_]) ∧ r0_.Lines.length ≤ cx2 ∧ (∀ u, Hp w0 Γ u → SlR K43 Ax1 r0_.Lines u) ∧ Hp w0 (Γ) w) := by
  subst hn6
  unfold store_Store_reversed at hm
  refine st_enter Try.func33 rfl Try.ntmps33 (Nat.le_of_ble_eq_true rfl) ?_
  refine st_seq ?_
  refine st_region ?_
  refine r_box [.int .i64 of_] H rfl ?_
  intro b11 wd13 H12
  refine r_alloc [.int .i64 0, .string ⟨#[]⟩, .int .i64 0, .int .i64 0, .int .i64 0, .slice none 0 0] Try.zeroValue37 H12 rfl ?_
  intro b14 wd16 H15
  refine r_pure (.int .i64 0) rfl ?_
  refine r_seq ?_
  refine st_seq ?_
  refine st_region ?_
  refine r_pure (.pointer (some ⟨b1, 0, none⟩)) rfl ?_
  refine r_pure (.pointer (some ⟨b1, 0, none⟩)) rfl ?_
  refine r_fa FA52_0 ⟨b1, 0, none⟩ rfl rfl ?_
  refine r_ld1 (.slice A2 s_.f_l.length c3) LD26 rfl ((hv10 _ H15.d.d).cell _ rfl) ?_
  refine r_func (.func (.func 44) #[] #[.pointer (some ⟨b11, 0, none⟩)]) rfl ?_
  obtain ⟨y17, hy18, hm⟩ := bind_some hm
  refine r_callf Try.call43 (slices_IndexFunc_api_Journal_ok s_.f_l A2 s_.f_l.length c3 rfl hc4 ads8 (fun _ H => (hv5 _ H.d.d)) (fun j x hj => ⟨(hin9 j x hj).1, fun u H => (hin9 j x hj).2 u H.d.d⟩) (.func (.func 44) #[] #[.pointer (some ⟨b11, 0, none⟩)]) (fun x => store_Store_reversed_c1 x of_) ⟨44, [.pointer (some ⟨b11, 0, none⟩)], rfl, Try.call44, fun x a y hy Δ w H hΔ hc hv => store_Store_reversed_c1_ok x a.1 _ a.2 rfl hc hv b11 of_ (fun _ H => ((hΔ _ H).g1)) y H hy⟩ y17 H15 hy18) ?_
  rintro e20 wd19 ⟨rfl, H22⟩
  refine ⟨_, rfl, ?_⟩
  refine r_pure (.int .i64 y17) rfl ?_
  refine r_seq ?_
  refine st_seq ?_
  refine st_cut (fun ρ w => ∃ q23 : Bool, (∃ base, ρ = updl base [(0, .pointer (some ⟨b1, 0, none⟩)), (7, .pointer (some ⟨b11, 0, none⟩)), (8, .pointer (some ⟨b14, 0, none⟩)), (10, .int .i64 y17), (53, .bool q23)]) ∧ Hp w0 (Bx b11 3 [.int .i64 of_] :: Bx b14 37 [.int .i64 0, .string (⟨#[]⟩ : ByteArray), .int .i64 0, .int .i64 0, .int .i64 0, .slice none 0 0] :: Γ) w ∧ store_Store_reversed.j1 s_ of_ y17 q23 = some (r0_, r1_)) ?_ ?_
  · refine st_region ?_
    refine r_pure (.int .i64 y17) rfl ?_
    refine r_pure (.bool (decide (y17 < 0))) rfl ?_
    refine r_pure (.bool (decide (y17 < 0))) rfl ?_
    rcases ite_some hm with ⟨hb43, hm⟩ | ⟨hb43, hm⟩
    · refine r_not (wn_f rfl rfl (by decide) rfl hb43) ?_
      refine r_not (wn_f rfl rfl (by decide) rfl hb43) ?_
      refine r_not (wn_f rfl rfl (by decide) rfl hb43) ?_
      refine r_not (wn_f rfl rfl (by decide) rfl hb43) ?_
      refine r_not (wn_f rfl rfl (by decide) rfl hb43) ?_
      refine r_not (wn_f rfl rfl (by decide) rfl hb43) ?_
      refine r_not (wn_f rfl rfl (by decide) rfl hb43) ?_
      refine r_not (wn_f rfl rfl (by decide) rfl hb43) ?_
      refine r_not (wn_f rfl rfl (by decide) rfl hb43) ?_
      refine r_not (wn_f rfl rfl (by decide) rfl hb43) ?_
      refine r_pick_t (.bool true) hb43 rfl rfl ?_
      refine r_pure (.bool true) rfl ?_
      refine r_not (wn_f rfl rfl (by decide) rfl rfl) ?_
      refine r_not (wn_f rfl rfl (by decide) rfl rfl) ?_
      refine r_not (wn_f rfl rfl (by decide) rfl rfl) ?_
      refine r_not (wn_f rfl rfl (by decide) rfl rfl) ?_
      refine r_not (wn_f rfl rfl (by decide) rfl rfl) ?_
      refine r_not (wn_f rfl rfl (by decide) rfl rfl) ?_
      refine r_not (wn_f rfl rfl (by decide) rfl rfl) ?_
      refine r_not (wn_f rfl rfl (by decide) rfl rfl) ?_
      refine r_not (wn_f rfl rfl (by decide) rfl rfl) ?_
      refine r_not (wn_f rfl rfl (by decide) rfl rfl) ?_
      refine r_pick_t (.bool true) rfl rfl rfl ?_
      refine r_pure (.bool true) rfl ?_
      refine r_not (wn_f rfl rfl (by decide) rfl rfl) ?_
      refine r_not (wn_f rfl rfl (by decide) rfl rfl) ?_
      refine r_not (wn_f rfl rfl (by decide) rfl rfl) ?_
      refine r_not (wn_f rfl rfl (by decide) rfl rfl) ?_
      refine r_not (wn_f rfl rfl (by decide) rfl rfl) ?_
      refine r_not (wn_f rfl rfl (by decide) rfl rfl) ?_
      refine r_not (wn_f rfl rfl (by decide) rfl rfl) ?_
      refine r_not (wn_f rfl rfl (by decide) rfl rfl) ?_
      refine r_not (wn_f rfl rfl (by decide) rfl rfl) ?_
      refine r_pick_t (.bool true) rfl rfl rfl ?_
      refine r_nil ?_
      refine n_cut ⟨true, upk (ac rfl (ac rfl (ac rfl (ac rfl (ac rfl an))))), H22.u1, hm⟩
    · refine r_pure (.pointer (some ⟨b1, 0, none⟩)) rfl ?_ (wn_t rfl rfl (by decide) rfl hb43)
      refine r_pure (.pointer (some ⟨b1, 0, none⟩)) rfl ?_ (wn_t rfl rfl (by decide) rfl hb43)
      refine r_fa FA52_0 ⟨b1, 0, none⟩ rfl rfl ?_ (wn_t rfl rfl (by decide) rfl hb43)
      refine r_ld1 (.slice A2 s_.f_l.length c3) LD26 rfl ((hv10 _ H22.d.d).cell _ rfl) ?_ (wn_t rfl rfl (by decide) rfl hb43)
      refine r_pure (.int .i64 y17) rfl ?_ (wn_t rfl rfl (by decide) rfl hb43)
      obtain ⟨⟨h044, h145⟩, hm⟩ := gd_some hm
      have hj46 := rd_get h044 h145
      have hA47 := (hv5 _ H22.d.d).adO hj46
      refine r_ix IX26 rfl rfl hA47 h044 h145 ?_ (wn_t rfl rfl (by decide) rfl hb43)
      refine r_fa FA37_1 (((oA A2).add (Int.toNat y17 * 6)).add 1) rfl rfl ?_ (wn_t rfl rfl (by decide) rfl hb43)
      refine r_ld1 (.string ((rd s_.f_l y17).Entity)) LD9 rfl ((hv5 _ H22.d.d).cA hA47 hj46 1 _ rfl) ?_ (wn_t rfl rfl (by decide) rfl hb43)
      refine r_pure (.string entity) rfl ?_ (wn_t rfl rfl (by decide) rfl hb43)
      refine r_pure (.bool (!(((rd s_.f_l y17).Entity).toList == (entity).toList))) rfl ?_ (wn_t rfl rfl (by decide) rfl hb43)
      refine r_pick_f (.bool (!(((rd s_.f_l y17).Entity).toList == (entity).toList))) hb43 rfl rfl ?_
      refine r_pure (.bool (!(((rd s_.f_l y17).Entity).toList == (entity).toList))) rfl ?_
      rcases ite_some hm with ⟨hb48, hm⟩ | ⟨hb48, hm⟩
      · refine r_not (wn_f rfl rfl (by decide) rfl hb48) ?_
        refine r_not (wn_f rfl rfl (by decide) rfl hb48) ?_
        refine r_not (wn_f rfl rfl (by decide) rfl hb48) ?_
        refine r_not (wn_f rfl rfl (by decide) rfl hb48) ?_
        refine r_not (wn_f rfl rfl (by decide) rfl hb48) ?_
        refine r_not (wn_f rfl rfl (by decide) rfl hb48) ?_
        refine r_not (wn_f rfl rfl (by decide) rfl hb48) ?_
        refine r_not (wn_f rfl rfl (by decide) rfl hb48) ?_
        refine r_not (wn_f rfl rfl (by decide) rfl hb48) ?_
        refine r_not (wn_f rfl rfl (by decide) rfl hb48) ?_
        refine r_pick_t (.bool true) hb48 rfl rfl ?_
        refine r_pure (.bool true) rfl ?_
        refine r_not (wn_f rfl rfl (by decide) rfl rfl) ?_
        refine r_not (wn_f rfl rfl (by decide) rfl rfl) ?_
        refine r_not (wn_f rfl rfl (by decide) rfl rfl) ?_
        refine r_not (wn_f rfl rfl (by decide) rfl rfl) ?_
        refine r_not (wn_f rfl rfl (by decide) rfl rfl) ?_
        refine r_not (wn_f rfl rfl (by decide) rfl rfl) ?_
        refine r_not (wn_f rfl rfl (by decide) rfl rfl) ?_
        refine r_not (wn_f rfl rfl (by decide) rfl rfl) ?_
        refine r_not (wn_f rfl rfl (by decide) rfl rfl) ?_
        refine r_pick_t (.bool true) rfl rfl rfl ?_
        refine r_nil ?_
        refine n_cut ⟨true, upk (ac rfl (ac rfl (ac rfl (ac rfl (ac rfl an))))), H22.u1, hm⟩
      · refine r_pure (.pointer (some ⟨b1, 0, none⟩)) rfl ?_ (wn_t rfl rfl (by decide) rfl hb48)
        refine r_pure (.pointer (some ⟨b1, 0, none⟩)) rfl ?_ (wn_t rfl rfl (by decide) rfl hb48)
        refine r_fa FA52_0 ⟨b1, 0, none⟩ rfl rfl ?_ (wn_t rfl rfl (by decide) rfl hb48)
        refine r_ld1 (.slice A2 s_.f_l.length c3) LD26 rfl ((hv10 _ H22.d.d).cell _ rfl) ?_ (wn_t rfl rfl (by decide) rfl hb48)
        refine r_pure (.int .i64 y17) rfl ?_ (wn_t rfl rfl (by decide) rfl hb48)
        refine r_ix IX26 rfl rfl hA47 h044 h145 ?_ (wn_t rfl rfl (by decide) rfl hb48)
        refine r_fa FA37_2 (((oA A2).add (Int.toNat y17 * 6)).add 2) rfl rfl ?_ (wn_t rfl rfl (by decide) rfl hb48)
        refine r_ld1 (.int .i64 ((rd s_.f_l y17).Period)) LD3 rfl ((hv5 _ H22.d.d).cA hA47 hj46 2 _ rfl) ?_ (wn_t rfl rfl (by decide) rfl hb48)
        refine r_pure (.int .i64 p) rfl ?_ (wn_t rfl rfl (by decide) rfl hb48)
        refine r_pure (.bool ((rd s_.f_l y17).Period != p)) rfl ?_ (wn_t rfl rfl (by decide) rfl hb48)
        refine r_pick_f (.bool ((rd s_.f_l y17).Period != p)) hb48 rfl rfl ?_
        refine r_pure (.bool ((rd s_.f_l y17).Period != p)) rfl ?_
        rcases ite_some hm with ⟨hb49, hm⟩ | ⟨hb49, hm⟩
        · refine r_not (wn_f rfl rfl (by decide) rfl hb49) ?_
          refine r_not (wn_f rfl rfl (by decide) rfl hb49) ?_
          refine r_not (wn_f rfl rfl (by decide) rfl hb49) ?_
          refine r_not (wn_f rfl rfl (by decide) rfl hb49) ?_
          refine r_not (wn_f rfl rfl (by decide) rfl hb49) ?_
          refine r_not (wn_f rfl rfl (by decide) rfl hb49) ?_
          refine r_not (wn_f rfl rfl (by decide) rfl hb49) ?_
          refine r_not (wn_f rfl rfl (by decide) rfl hb49) ?_
          refine r_not (wn_f rfl rfl (by decide) rfl hb49) ?_
          refine r_pick_t (.bool true) hb49 rfl rfl ?_
          refine r_nil ?_
          refine n_cut ⟨true, upk (ac rfl (ac rfl (ac rfl (ac rfl (ac rfl an))))), H22.u1, hm⟩
        · refine r_pure (.pointer (some ⟨b1, 0, none⟩)) rfl ?_ (wn_t rfl rfl (by decide) rfl hb49)
          refine r_pure (.pointer (some ⟨b1, 0, none⟩)) rfl ?_ (wn_t rfl rfl (by decide) rfl hb49)
          refine r_fa FA52_0 ⟨b1, 0, none⟩ rfl rfl ?_ (wn_t rfl rfl (by decide) rfl hb49)
          refine r_ld1 (.slice A2 s_.f_l.length c3) LD26 rfl ((hv10 _ H22.d.d).cell _ rfl) ?_ (wn_t rfl rfl (by decide) rfl hb49)
          refine r_pure (.int .i64 y17) rfl ?_ (wn_t rfl rfl (by decide) rfl hb49)
          refine r_ix IX26 rfl rfl hA47 h044 h145 ?_ (wn_t rfl rfl (by decide) rfl hb49)
          refine r_fa FA37_3 (((oA A2).add (Int.toNat y17 * 6)).add 3) rfl rfl ?_ (wn_t rfl rfl (by decide) rfl hb49)
          refine r_ld1 (.int .i64 ((rd s_.f_l y17).Kind)) LD3 rfl ((hv5 _ H22.d.d).cA hA47 hj46 3 _ rfl) ?_ (wn_t rfl rfl (by decide) rfl hb49)
          refine r_pure (.bool ((rd s_.f_l y17).Kind == 2)) rfl ?_ (wn_t rfl rfl (by decide) rfl hb49)
          refine r_pick_f (.bool ((rd s_.f_l y17).Kind == 2)) hb49 rfl rfl ?_
          refine r_nil ?_
          refine n_cut ⟨(rd s_.f_l y17).Kind == 2, upk (ac rfl (ac rfl (ac rfl (ac rfl (ac rfl an))))), H22.u1, hm⟩
  · rintro ρ w ⟨q23, ⟨base, rfl⟩, H24, hm⟩
    unfold store_Store_reversed.j1 at hm
    rcases ite_some hm with ⟨hb25, hm⟩ | ⟨hb25, hm⟩
    · refine st_condt hb25 rfl ?_
      refine st_seq ?_
      refine st_region ?_
      refine r_build [.int .i64 0, .string (⟨#[]⟩ : ByteArray), .int .i64 0, .int .i64 0, .int .i64 0, .slice none 0 0] FL37 (by kernel_rfl) ?_
      refine r_stA [.int .i64 0, .string (⟨#[]⟩ : ByteArray), .int .i64 0, .int .i64 0, .int .i64 0, .slice none 0 0] LD37 rfl rfl rfl rfl H24.u1 (Nat.le_of_ble_eq_true rfl) rfl ?_
      intro wd27 H26
      refine r_pure (.int .i64 3) rfl ?_
      refine r_seq ?_
      obtain ⟨rfl, rfl⟩ := some_inj2 hm
      refine st_ret2c [.int .i64 0, .string (⟨#[]⟩ : ByteArray), .int .i64 0, .int .i64 0, .int .i64 0, .slice none 0 0] rfl rfl (Nat.le_of_ble_eq_true rfl) (Nat.le_of_ble_eq_true rfl) rfl LD37 rfl ((H26.g0).cells rfl) rfl ?_
      exact ⟨none, 0, rfl, (Nat.zero_le _), (fun u _ => SlR.nil _ _ u), H26.d.d⟩
    · refine st_condf hb25 rfl ?_
      refine st_skip ?_
      refine n_sq ?_
      refine st_seq ?_
      refine st_seq ?_
      refine st_region ?_
      refine r_pure (.pointer (some ⟨b1, 0, none⟩)) rfl ?_
      refine r_pure (.pointer (some ⟨b1, 0, none⟩)) rfl ?_
      refine r_fa FA52_0 ⟨b1, 0, none⟩ rfl rfl ?_
      refine r_ld1 (.slice A2 s_.f_l.length c3) LD26 rfl ((hv10 _ H24.d.d).cell _ rfl) ?_
      refine r_func (.func (.func 46) #[] #[.pointer (some ⟨b11, 0, none⟩)]) rfl ?_
      obtain ⟨y28, hy29, hm⟩ := bind_some hm
      refine r_callf Try.call45 (slices_ContainsFunc_api_Journal_ok s_.f_l A2 s_.f_l.length c3 rfl hc4 ads8 (fun _ H => (hv5 _ H.d.d)) (fun j x hj => ⟨(hin9 j x hj).1, fun u H => (hin9 j x hj).2 u H.d.d⟩) (.func (.func 46) #[] #[.pointer (some ⟨b11, 0, none⟩)]) (fun x => store_Store_reversed_c2 x of_) ⟨46, [.pointer (some ⟨b11, 0, none⟩)], rfl, Try.call46, fun x a y hy Δ w H hΔ hc hv => store_Store_reversed_c2_ok x a.1 _ a.2 rfl hc hv b11 of_ (fun _ H => ((hΔ _ H).g0)) y H hy⟩ y28 H24 hy29) ?_
      rintro e31 wd30 ⟨rfl, H33⟩
      refine ⟨_, rfl, ?_⟩
      refine r_seq ?_
      rcases ite_some hm with ⟨hb34, hm⟩ | ⟨hb34, hm⟩
      · refine st_condt hb34 rfl ?_
        refine st_seq ?_
        refine st_region ?_
        refine r_build [.int .i64 0, .string (⟨#[]⟩ : ByteArray), .int .i64 0, .int .i64 0, .int .i64 0, .slice none 0 0] FL37 (by kernel_rfl) ?_
        refine r_stA [.int .i64 0, .string (⟨#[]⟩ : ByteArray), .int .i64 0, .int .i64 0, .int .i64 0, .slice none 0 0] LD37 rfl rfl rfl rfl H33.u1 (Nat.le_of_ble_eq_true rfl) rfl ?_
        intro wd36 H35
        refine r_pure (.int .i64 4) rfl ?_
        refine r_seq ?_
        obtain ⟨rfl, rfl⟩ := some_inj2 hm
        refine st_ret2c [.int .i64 0, .string (⟨#[]⟩ : ByteArray), .int .i64 0, .int .i64 0, .int .i64 0, .slice none 0 0] rfl rfl (Nat.le_of_ble_eq_true rfl) (Nat.le_of_ble_eq_true rfl) rfl LD37 rfl ((H35.g0).cells rfl) rfl ?_
        exact ⟨none, 0, rfl, (Nat.zero_le _), (fun u _ => SlR.nil _ _ u), H35.d.d⟩
      · refine st_condf hb34 rfl ?_
        refine st_skip ?_
        refine n_sq ?_
        refine st_seq ?_
        refine st_region ?_
        refine r_pure (.pointer (some ⟨b1, 0, none⟩)) rfl ?_
        refine r_pure (.pointer (some ⟨b1, 0, none⟩)) rfl ?_
        refine r_fa FA52_0 ⟨b1, 0, none⟩ rfl rfl ?_
        refine r_ld1 (.slice A2 s_.f_l.length c3) LD26 rfl ((hv10 _ H33.d.d).cell _ rfl) ?_
        refine r_pure (.int .i64 y17) rfl ?_
        obtain ⟨⟨h037, h138⟩, hm⟩ := gd_some hm
        have hj39 := rd_get h037 h138
        have hA40 := (hv5 _ H33.d.d).adO hj39
        refine r_ix IX26 rfl rfl hA40 h037 h138 ?_
        refine r_ldA [.int .i64 ((rd s_.f_l y17).Seq), .string ((rd s_.f_l y17).Entity), .int .i64 ((rd s_.f_l y17).Period), .int .i64 ((rd s_.f_l y17).Kind), .int .i64 ((rd s_.f_l y17).Of), .slice ((ads8 (Int.toNat y17)).1) (((rd s_.f_l y17).Lines).length) ((ads8 (Int.toNat y17)).2)] LD37 rfl rfl ((hv5 _ H33.d.d).csA hA40 hj39) ?_
        refine r_stA [.int .i64 ((rd s_.f_l y17).Seq), .string ((rd s_.f_l y17).Entity), .int .i64 ((rd s_.f_l y17).Period), .int .i64 ((rd s_.f_l y17).Kind), .int .i64 ((rd s_.f_l y17).Of), .slice ((ads8 (Int.toNat y17)).1) (((rd s_.f_l y17).Lines).length) ((ads8 (Int.toNat y17)).2)] LD37 rfl rfl rfl rfl H33.u1 (Nat.le_of_ble_eq_true rfl) rfl ?_
        intro wd42 H41
        refine r_pure (.int .i64 0) rfl ?_
        refine r_seq ?_
        obtain ⟨rfl, rfl⟩ := some_inj2 hm
        refine st_ret2c [.int .i64 ((rd s_.f_l y17).Seq), .string ((rd s_.f_l y17).Entity), .int .i64 ((rd s_.f_l y17).Period), .int .i64 ((rd s_.f_l y17).Kind), .int .i64 ((rd s_.f_l y17).Of), .slice ((ads8 (Int.toNat y17)).1) (((rd s_.f_l y17).Lines).length) ((ads8 (Int.toNat y17)).2)] rfl rfl (Nat.le_of_ble_eq_true rfl) (Nat.le_of_ble_eq_true rfl) rfl LD37 rfl ((H41.g0).cells rfl) rfl ?_
        exact ⟨(ads8 (Int.toNat y17)).1, (ads8 (Int.toNat y17)).2, rfl, (hin9 _ _ hj39).1, (fun u H => (hin9 _ _ hj39).2 u H), H41.d.d⟩

set_option maxHeartbeats 2000000 in
theorem journal_Reverse_ok {w0 w : World} {Γ : List (World → Prop)} (lines : List api_Line) (A1 : Option Addr) (n6 c2 : Nat) (hn5 : n6 = lines.length) (hc3 : lines.length ≤ c2) (hv4 : ∀ u, Hp w0 Γ u → SlR K43 A1 lines u) (r0_ : List api_Line) (H : Hp w0 (Γ) w) (hm : journal_Reverse lines = some r0_) : Calls Try.prog 34 #[.slice A1 n6 c2] w (fun e w => ∃ (Ax1 : Option Addr) (nx2 cx3 : Nat), e = .returned (.slice Ax1 nx2 cx3) ∧ Hp w0 (Row K43 (.slice Ax1 nx2 cx3) r0_ :: Γ) w) := by
  subst hn5
  unfold journal_Reverse at hm
  refine st_enter Try.func34 rfl Try.ntmps34 (Nat.le_of_ble_eq_true rfl) ?_
  refine st_seq ?_
  refine st_region ?_
  refine r_pure (.slice none 0 0) rfl ?_
  refine r_seq ?_
  refine st_seq ?_
  refine st_region ?_
  refine r_pure (.slice none 0 0) rfl ?_
  refine r_seq ?_
  refine st_seq ?_
  refine st_seq ?_
  refine st_region ?_
  refine r_pure (.slice A1 lines.length c2) rfl ?_
  refine r_len Try.underlying34 rfl ?_
  refine r_pure (.int .i64 0) rfl ?_
  refine r_seq ?_
  refine st_block ?_
  have H12 := H.add (A := Row K43 (.slice none 0 0) []) Row.nil
  have hlim36 := (hv4 _ H12.d).lim
  obtain ⟨tl19, hl20, hm18⟩ := bind_some hm
  refine st_loopL (journal_Reverse.l1) (fun ys25 s ρ w => ∃ i21 : Int, ∃ xs16 : List api_Line, ∃ dn22 : List api_Line, ∃ A13 : Option Addr, ∃ n14 : Nat, ∃ c15 : Nat, (i21, xs16) = s ∧ lines = dn22 ++ ys25 ∧ i21 = (dn22.length : Int) ∧ (∃ base, ρ = updl base [(3, .slice A13 n14 c15), (6, .slice A1 lines.length c2), (7, .int .i64 (lines.length : Int)), (8, .int .i64 i21)]) ∧ Hp w0 (Row K43 (.slice A13 n14 c15) xs16 :: Γ) w) hl20 ⟨0, ([] : List api_Line), [], none, 0, 0, rfl, rfl, rfl, upk (ac rfl (ac rfl (ac rfl (ac rfl an)))), H12⟩ ?_
  rintro m ys25 IH29 s ρ w ⟨i21, xs16, dn22, A13, n14, c15, rfl, hxs23, hi24, ⟨base, rfl⟩, H17⟩ hm
  obtain rfl := (H17.g0).leneq
  rcases ys25 with _ | ⟨y26, ys25⟩
  · rw [journal_Reverse.l1] at hm
    have hb30 := range_end hxs23 hi24
    refine st_seq ?_
    refine st_region ?_
    refine r_pure (.bool (decide (i21 < (lines.length : Int)))) rfl ?_
    refine r_seq ?_
    refine st_seq ?_
    refine st_condf hb30 rfl ?_
    have hq_ := Option.some.inj hm
    refine st_exit rfl ?_
    subst hq_
    refine n_sq ?_
    refine st_seq ?_
    refine st_region ?_
    refine r_pure (.slice A13 xs16.length c15) rfl ?_
    refine r_pure (.slice A13 xs16.length c15) rfl ?_
    refine r_seq ?_
    have hq_ := Option.some.inj hm18
    subst hq_
    refine st_ret1 rfl rfl (Nat.le_of_ble_eq_true rfl) rfl ?_
    exact ⟨A13, xs16.length, c15, rfl, H17⟩
  · rw [journal_Reverse.l1] at hm
    have hb31 := range_in hxs23 hi24
    obtain ⟨h032, h133, hj34⟩ := range_ix hxs23 hi24
    have hnx35 := range_next hxs23 hi24 hlim36
    refine st_seq ?_
    refine st_region ?_
    refine r_pure (.bool (decide (i21 < (lines.length : Int)))) rfl ?_
    refine r_seq ?_
    refine st_seq ?_
    refine st_condt hb31 rfl ?_
    refine st_skip ?_
    refine n_sq ?_
    refine st_seq ?_
    refine st_block ?_
    refine st_seq ?_
    refine st_region ?_
    have hA37 := (hv4 _ H17.d).adO hj34
    refine r_ix IX34 rfl rfl hA37 h032 h133 ?_
    refine r_ldA [.int .i64 y26.Account, .int .i64 y26.Amount] LD43 rfl rfl ((hv4 _ H17.d).csA hA37 hj34) ?_
    refine r_alloc [.int .i64 0, .int .i64 0] Try.zeroValue43 H17 rfl ?_
    intro b38 wd40 H39
    refine r_stA [.int .i64 y26.Account, .int .i64 y26.Amount] LD43 rfl rfl rfl rfl H39 (Nat.le_of_ble_eq_true rfl) rfl ?_
    intro wd42 H41
    refine r_seq ?_
    refine st_region ?_
    refine r_pure (.slice A13 xs16.length c15) rfl ?_
    refine r_fa FA43_0 ⟨b38, 0, none⟩ rfl rfl ?_
    refine r_ld1 (.int .i64 y26.Account) LD3 rfl ((H41.g0).cell _ rfl) ?_
    refine r_fa FA43_1 ⟨b38, 1, none⟩ rfl rfl ?_
    refine r_ld1 (.int .i64 y26.Amount) LD3 rfl ((H41.g0).cell _ rfl) ?_
    refine r_pure (.int .i64 (w64 (0 - y26.Amount))) rfl ?_
    refine r_build [.int .i64 y26.Account, .int .i64 (w64 (0 - y26.Amount))] FL43 rfl ?_
    refine r_buildSlice (K := K43) [(⟨y26.Account, w64 (0 - y26.Amount)⟩ : api_Line)] EL34 rfl rfl rfl (by decide) (by decide) rfl H41 ?_
    intro b43 wd45 H44
    obtain ⟨hf46, hm⟩ := gd_some hm
    refine r_append (K := K43) (ys := [(⟨y26.Account, w64 (0 - y26.Amount)⟩ : api_Line)]) AP34 rfl rfl rfl rfl H44.u2 (((H44.u2).g1).src) (fit_le hf46 (by decide)) ?_
    intro A47 c48 wd49 H50
    refine r_pure (.slice A47 ((xs16 ++ [(⟨y26.Account, w64 (0 - y26.Amount)⟩ : api_Line)]).length) c48) rfl ?_
    refine r_nil ?_
    refine n_bl ?_
    refine n_sq ?_
    refine st_region ?_
    refine r_pure (.int .i64 (w64 (i21 + 1))) rfl ?_
    refine r_pure (.int .i64 (w64 (i21 + 1))) rfl ?_
    refine r_nil ?_
    refine n_round (IH29 _ _ rfl _ _ _ ⟨i21 + 1, xs16 ++ [(⟨y26.Account, w64 (0 - y26.Amount)⟩ : api_Line)], dn22 ++ [y26], A47, (xs16 ++ [(⟨y26.Account, w64 (0 - y26.Amount)⟩ : api_Line)]).length, c48, rfl, range_more hxs23, range_len hi24, upk (ac rfl (ac rfl (ac rfl (ac hnx35 an)))), H50.u1.d.u1.d⟩ hm)

set_option maxHeartbeats 2000000 in
theorem chart_is_ok {w0 w : World} {Γ : List (World → Prop)} (account : Int) (r0_ : Bool) (H : Hp w0 (Γ) w) (hm : chart_is account = some r0_) : Calls Try.prog 40 #[.int .i64 account] w (fun e w => e = .returned (.bool r0_) ∧ Hp w0 (Γ) w) := by
  unfold chart_is at hm
  refine st_enter Try.func40 rfl Try.ntmps40 (Nat.le_of_ble_eq_true rfl) ?_
  refine st_seq ?_
  refine st_region ?_
  refine r_pure (.bool false) rfl ?_
  refine r_seq ?_
  refine st_cut (fun ρ w => ∃ q1 : Bool, (∃ base, ρ = updl base [(2, .bool q1)]) ∧ Hp w0 (Γ) w ∧ chart_is.j1 q1 = some r0_) ?_ ?_
  · refine st_region ?_
    refine r_pure (.int .i64 account) rfl ?_
    refine r_pure (.bool (decide (account ≥ 1))) rfl ?_
    refine r_pure (.bool (decide (account ≥ 1))) rfl ?_
    rcases ite_some hm with ⟨hb3, hm⟩ | ⟨hb3, hm⟩
    · refine r_pure (.int .i64 account) rfl ?_ (wn_t rfl rfl (by decide) rfl hb3)
      refine r_pure (.bool (decide (account ≤ 7))) rfl ?_ (wn_t rfl rfl (by decide) rfl hb3)
      refine r_pick_t (.bool (decide (account ≤ 7))) hb3 rfl rfl ?_
      refine r_pure (.bool (decide (account ≤ 7))) rfl ?_
      refine r_nil ?_
      refine n_cut ⟨decide (account ≤ 7), upk (ac rfl an), H, hm⟩
    · refine r_not (wn_f rfl rfl (by decide) rfl hb3) ?_
      refine r_not (wn_f rfl rfl (by decide) rfl hb3) ?_
      refine r_pick_f (.bool false) hb3 rfl rfl ?_
      refine r_pure (.bool false) rfl ?_
      refine r_nil ?_
      refine n_cut ⟨false, upk (ac rfl an), H, hm⟩
  · rintro ρ w ⟨q1, ⟨base, rfl⟩, H2, hm⟩
    unfold chart_is.j1 at hm
    have hq_ := Option.some.inj hm
    subst hq_
    refine st_ret1 rfl rfl (Nat.le_of_ble_eq_true rfl) rfl ?_
    exact ⟨rfl, H2⟩

set_option maxHeartbeats 2000000 in
theorem chart_names_ok {w0 w : World} {Γ : List (World → Prop)}  (r0_ : List ByteArray) (H : Hp w0 (Γ) w) (hm : chart_names = some r0_) : Calls Try.prog 39 #[] w (fun e w => ∃ (Ax1 : Option Addr) (nx2 cx3 : Nat), e = .returned (.slice Ax1 nx2 cx3) ∧ Hp w0 (Row K9 (.slice Ax1 nx2 cx3) r0_ :: Γ) w) := by
  unfold chart_names at hm
  refine st_enter Try.func39 rfl Try.ntmps39 (Nat.le_of_ble_eq_true rfl) ?_
  refine st_seq ?_
  refine st_region ?_
  refine r_pure (.slice none 0 0) rfl ?_
  refine r_seq ?_
  refine st_seq ?_
  refine st_region ?_
  refine r_buildSlice (K := K9) [(⟨#[]⟩ : ByteArray), (⟨#[99, 117, 114, 114, 101, 110, 116]⟩ : ByteArray), (⟨#[112, 97, 121, 97, 98, 108, 101]⟩ : ByteArray), (⟨#[100, 101, 102, 101, 114, 114, 101, 100]⟩ : ByteArray), (⟨#[116, 101, 109, 112]⟩ : ByteArray), (⟨#[108, 111, 115, 115, 101, 115]⟩ : ByteArray), (⟨#[97, 108, 108, 111, 119, 97, 110, 99, 101]⟩ : ByteArray), (⟨#[116, 114, 117, 101, 117, 112]⟩ : ByteArray)] EL32 rfl rfl rfl (by decide) (by decide) rfl H ?_
  intro b1 wd3 H2
  refine r_pure (.slice (some ⟨b1, 0, none⟩) 8 8) rfl ?_
  refine r_seq ?_
  have hq_ := Option.some.inj hm
  subst hq_
  refine st_ret1 rfl rfl (Nat.le_of_ble_eq_true rfl) rfl ?_
  exact ⟨some ⟨b1, 0, none⟩, 8, 8, rfl, H2⟩

set_option maxHeartbeats 2000000 in
theorem chart_Name_ok {w0 w : World} {Γ : List (World → Prop)} (account : Int) (r0_ : ByteArray) (H : Hp w0 (Γ) w) (hm : chart_Name account = some r0_) : Calls Try.prog 52 #[.int .i64 account] w (fun e w => e = .returned (.string r0_) ∧ Hp w0 (Γ) w) := by
  unfold chart_Name at hm
  refine st_enter Try.func52 rfl Try.ntmps52 (Nat.le_of_ble_eq_true rfl) ?_
  refine st_seq ?_
  refine st_region ?_
  refine r_pure (.string (⟨#[]⟩ : ByteArray)) rfl ?_
  refine r_seq ?_
  refine st_seq ?_
  refine st_seq ?_
  refine st_region ?_
  refine r_pure (.int .i64 account) rfl ?_
  obtain ⟨y1, hy2, hm⟩ := bind_some hm
  refine r_callf Try.call40 (chart_is_ok account y1 H hy2) ?_
  rintro e4 wd3 ⟨rfl, H6⟩
  refine ⟨_, rfl, ?_⟩
  refine r_pure (.bool (!y1)) rfl ?_
  refine r_seq ?_
  rcases ite_some hm with ⟨hb7, hm⟩ | ⟨hb7, hm⟩
  · refine st_condt hb7 rfl ?_
    refine st_seq ?_
    refine st_region ?_
    refine r_pure (.string (⟨#[]⟩ : ByteArray)) rfl ?_
    refine r_seq ?_
    have hq_ := Option.some.inj hm
    subst hq_
    refine st_ret1 rfl rfl (Nat.le_of_ble_eq_true rfl) rfl ?_
    exact ⟨rfl, H6⟩
  · refine st_condf hb7 rfl ?_
    refine st_skip ?_
    refine n_sq ?_
    refine st_seq ?_
    refine st_region ?_
    obtain ⟨y8, hy9, hm⟩ := bind_some hm
    refine r_callf Try.call39 (chart_names_ok  y8 H6 hy9) ?_
    rintro e11 wd10 ⟨A14, n15, c16, rfl, H13⟩
    obtain rfl := (H13.g0).leneq
    refine ⟨_, rfl, ?_⟩
    refine r_pure (.int .i64 account) rfl ?_
    obtain ⟨⟨h017, h118⟩, hm⟩ := gd_some hm
    have hj19 := rd_get h017 h118
    have hA20 := (H13.g0.rd).adO hj19
    refine r_ix IX32 rfl rfl hA20 h017 h118 ?_
    refine r_ld1 (.string (rd y8 account)) LD9 rfl ((H13.g0.rd).c0A hA20 hj19 _ rfl) ?_
    refine r_pure (.string (rd y8 account)) rfl ?_
    refine r_seq ?_
    have hq_ := Option.some.inj hm
    subst hq_
    refine st_ret1 rfl rfl (Nat.le_of_ble_eq_true rfl) rfl ?_
    exact ⟨rfl, H13.d⟩

set_option maxHeartbeats 2000000 in
theorem rate_Money_ok {w0 w : World} {Γ : List (World → Prop)} (n_ : Int) (r0_ : Bool) (H : Hp w0 (Γ) w) (hm : rate_Money n_ = some r0_) : Calls Try.prog 23 #[.int .i64 n_] w (fun e w => e = .returned (.bool r0_) ∧ Hp w0 (Γ) w) := by
  unfold rate_Money at hm
  refine st_enter Try.func23 rfl Try.ntmps23 (Nat.le_of_ble_eq_true rfl) ?_
  refine st_seq ?_
  refine st_region ?_
  refine r_pure (.bool false) rfl ?_
  refine r_seq ?_
  refine st_cut (fun ρ w => ∃ q1 : Bool, (∃ base, ρ = updl base [(2, .bool q1)]) ∧ Hp w0 (Γ) w ∧ rate_Money.j1 q1 = some r0_) ?_ ?_
  · refine st_region ?_
    refine r_pure (.int .i64 n_) rfl ?_
    refine r_pure (.bool (decide (n_ ≥ (-100000000000)))) rfl ?_
    refine r_pure (.bool (decide (n_ ≥ (-100000000000)))) rfl ?_
    rcases ite_some hm with ⟨hb3, hm⟩ | ⟨hb3, hm⟩
    · refine r_pure (.int .i64 n_) rfl ?_ (wn_t rfl rfl (by decide) rfl hb3)
      refine r_pure (.bool (decide (n_ ≤ 100000000000))) rfl ?_ (wn_t rfl rfl (by decide) rfl hb3)
      refine r_pick_t (.bool (decide (n_ ≤ 100000000000))) hb3 rfl rfl ?_
      refine r_pure (.bool (decide (n_ ≤ 100000000000))) rfl ?_
      refine r_nil ?_
      refine n_cut ⟨decide (n_ ≤ 100000000000), upk (ac rfl an), H, hm⟩
    · refine r_not (wn_f rfl rfl (by decide) rfl hb3) ?_
      refine r_not (wn_f rfl rfl (by decide) rfl hb3) ?_
      refine r_pick_f (.bool false) hb3 rfl rfl ?_
      refine r_pure (.bool false) rfl ?_
      refine r_nil ?_
      refine n_cut ⟨false, upk (ac rfl an), H, hm⟩
  · rintro ρ w ⟨q1, ⟨base, rfl⟩, H2, hm⟩
    unfold rate_Money.j1 at hm
    have hq_ := Option.some.inj hm
    subst hq_
    refine st_ret1 rfl rfl (Nat.le_of_ble_eq_true rfl) rfl ?_
    exact ⟨rfl, H2⟩

set_option maxHeartbeats 2000000 in
theorem journal_right_ok {w0 w : World} {Γ : List (World → Prop)} (x_ : api_Line) (r0_ : Bool) (H : Hp w0 (Γ) w) (hm : journal_right x_ = some r0_) : Calls Try.prog 47 #[.agg #[.int .i64 x_.Account, .int .i64 x_.Amount]] w (fun e w => e = .returned (.bool r0_) ∧ Hp w0 (Γ) w) := by
  unfold journal_right at hm
  refine st_enter Try.func47 rfl Try.ntmps47 (Nat.le_of_ble_eq_true rfl) ?_
  refine st_seq ?_
  refine st_region ?_
  refine r_box [.int .i64 x_.Account, .int .i64 x_.Amount] H rfl ?_
  intro b1 wd3 H2
  refine r_pure (.bool false) rfl ?_
  refine r_seq ?_
  refine st_cut (fun ρ w => ∃ q4 : Bool, (∃ base, ρ = updl base [(2, .bool q4)]) ∧ Hp w0 (Γ) w ∧ journal_right.j1 q4 = some r0_) ?_ ?_
  · refine st_region ?_
    refine r_fa FA43_0 ⟨b1, 0, none⟩ rfl rfl ?_
    refine r_ld1 (.int .i64 x_.Account) LD3 rfl ((H2.g0).cell _ rfl) ?_
    obtain ⟨y6, hy7, hm⟩ := bind_some hm
    refine r_callf Try.call52 (chart_Name_ok x_.Account y6 H2 hy7) ?_
    rintro e9 wd8 ⟨rfl, H11⟩
    refine ⟨_, rfl, ?_⟩
    refine r_pure (.bool (!((y6).toList == ((⟨#[]⟩ : ByteArray)).toList))) rfl ?_
    refine r_pure (.bool (!((y6).toList == ((⟨#[]⟩ : ByteArray)).toList))) rfl ?_
    rcases ite_some hm with ⟨hb12, hm⟩ | ⟨hb12, hm⟩
    · refine r_fa FA43_1 ⟨b1, 1, none⟩ rfl rfl ?_ (wn_t rfl rfl (by decide) rfl hb12)
      refine r_ld1 (.int .i64 x_.Amount) LD3 rfl ((H11.g0).cell _ rfl) ?_ (wn_t rfl rfl (by decide) rfl hb12)
      refine r_pure (.bool (x_.Amount != 0)) rfl ?_ (wn_t rfl rfl (by decide) rfl hb12)
      refine r_pick_t (.bool (x_.Amount != 0)) hb12 rfl rfl ?_
      refine r_pure (.bool (x_.Amount != 0)) rfl ?_
      rcases ite_some hm with ⟨hb13, hm⟩ | ⟨hb13, hm⟩
      · refine r_fa FA43_1 ⟨b1, 1, none⟩ rfl rfl ?_ (wn_t rfl rfl (by decide) rfl hb13)
        refine r_ld1 (.int .i64 x_.Amount) LD3 rfl ((H11.g0).cell _ rfl) ?_ (wn_t rfl rfl (by decide) rfl hb13)
        obtain ⟨y14, hy15, hm⟩ := bind_some hm
        refine r_callf Try.call23 (rate_Money_ok x_.Amount y14 H11 hy15) ?_ (wn_t rfl rfl (by decide) rfl hb13)
        rintro e17 wd16 ⟨rfl, H19⟩
        refine ⟨_, rfl, ?_⟩
        refine r_pick_t (.bool y14) hb13 rfl rfl ?_
        refine r_pure (.bool y14) rfl ?_
        refine r_nil ?_
        refine n_cut ⟨y14, upk (ac rfl an), H19.d, hm⟩
      · refine r_not (wn_f rfl rfl (by decide) rfl hb13) ?_
        refine r_not (wn_f rfl rfl (by decide) rfl hb13) ?_
        refine r_not (wn_f rfl rfl (by decide) rfl hb13) ?_
        refine r_pick_f (.bool false) hb13 rfl rfl ?_
        refine r_pure (.bool false) rfl ?_
        refine r_nil ?_
        refine n_cut ⟨false, upk (ac rfl an), H11.d, hm⟩
    · refine r_not (wn_f rfl rfl (by decide) rfl hb12) ?_
      refine r_not (wn_f rfl rfl (by decide) rfl hb12) ?_
      refine r_not (wn_f rfl rfl (by decide) rfl hb12) ?_
      refine r_pick_f (.bool false) hb12 rfl rfl ?_
      refine r_pure (.bool false) rfl ?_
      refine r_not (wn_f rfl rfl (by decide) rfl rfl) ?_
      refine r_not (wn_f rfl rfl (by decide) rfl rfl) ?_
      refine r_not (wn_f rfl rfl (by decide) rfl rfl) ?_
      refine r_pick_f (.bool false) rfl rfl rfl ?_
      refine r_pure (.bool false) rfl ?_
      refine r_nil ?_
      refine n_cut ⟨false, upk (ac rfl an), H11.d, hm⟩
  · rintro ρ w ⟨q4, ⟨base, rfl⟩, H5, hm⟩
    unfold journal_right.j1 at hm
    have hq_ := Option.some.inj hm
    subst hq_
    refine st_ret1 rfl rfl (Nat.le_of_ble_eq_true rfl) rfl ?_
    exact ⟨rfl, H5⟩

set_option maxHeartbeats 2000000 in
theorem sides_Of_ok {w0 w : World} {Γ : List (World → Prop)} (n_ : Int) (r0_ : Cpx) (H : Hp w0 (Γ) w) (hm : sides_Of n_ = some r0_) : Calls Try.prog 53 #[.int .i64 n_] w (fun e w => e = .returned (.complex .f64 r0_.re r0_.im) ∧ Hp w0 (Γ) w) := by
  unfold sides_Of at hm
  refine st_enter Try.func53 rfl Try.ntmps53 (Nat.le_of_ble_eq_true rfl) ?_
  refine st_seq ?_
  refine st_region ?_
  refine r_pure (.complex .f64 (⟨0, 0⟩ : Cpx).re (⟨0, 0⟩ : Cpx).im) rfl ?_
  refine r_seq ?_
  refine st_seq ?_
  refine st_block ?_
  refine st_seq ?_
  refine st_region ?_
  refine r_pure (.int .i64 n_) rfl ?_
  obtain ⟨y1, hy2, hm⟩ := bind_some hm
  refine r_callf Try.call23 (rate_Money_ok n_ y1 H hy2) ?_
  rintro e4 wd3 ⟨rfl, H6⟩
  refine ⟨_, rfl, ?_⟩
  refine r_pure (.bool (!y1)) rfl ?_
  refine r_pure (.bool (!y1)) rfl ?_
  refine r_seq ?_
  rcases ite_some hm with ⟨hb7, hm⟩ | ⟨hb7, hm⟩
  · refine st_condt hb7 rfl ?_
    refine st_seq ?_
    refine st_region ?_
    refine r_pure (.complex .f64 (⟨0, 0⟩ : Cpx).re (⟨0, 0⟩ : Cpx).im) rfl ?_
    refine r_seq ?_
    have hq_ := Option.some.inj hm
    subst hq_
    refine st_ret1 rfl rfl (Nat.le_of_ble_eq_true rfl) rfl ?_
    exact ⟨rfl, H6⟩
  · refine st_condf hb7 rfl ?_
    refine st_seq ?_
    refine st_region ?_
    refine r_pure (.int .i64 n_) rfl ?_
    refine r_pure (.bool (decide (n_ > 0))) rfl ?_
    refine r_pure (.bool (decide (n_ > 0))) rfl ?_
    refine r_seq ?_
    rcases ite_some hm with ⟨hb8, hm⟩ | ⟨hb8, hm⟩
    · refine st_condt hb8 rfl ?_
      refine st_seq ?_
      refine st_region ?_
      refine r_pure (.int .i64 n_) rfl ?_
      refine r_convf Try.underlying3 Try.underlying74 rfl ?_
      refine r_complex rfl rfl ?_
      refine r_pure (.complex .f64 (⟨floatOfInt .f64 n_, 0⟩ : Cpx).re (⟨floatOfInt .f64 n_, 0⟩ : Cpx).im) rfl ?_
      refine r_seq ?_
      have hq_ := Option.some.inj hm
      subst hq_
      refine st_ret1 rfl rfl (Nat.le_of_ble_eq_true rfl) rfl ?_
      exact ⟨rfl, H6⟩
    · refine st_condf hb8 rfl ?_
      refine st_skip ?_
      refine n_bl ?_
      refine n_sq ?_
      refine st_seq ?_
      refine st_region ?_
      refine r_pure (.int .i64 n_) rfl ?_
      refine r_pure (.int .i64 (w64 (0 - n_))) rfl ?_
      refine r_convf Try.underlying3 Try.underlying74 rfl ?_
      refine r_complex rfl rfl ?_
      refine r_pure (.complex .f64 (⟨0, floatOfInt .f64 (w64 (0 - n_))⟩ : Cpx).re (⟨0, floatOfInt .f64 (w64 (0 - n_))⟩ : Cpx).im) rfl ?_
      refine r_seq ?_
      have hq_ := Option.some.inj hm
      subst hq_
      refine st_ret1 rfl rfl (Nat.le_of_ble_eq_true rfl) rfl ?_
      exact ⟨rfl, H6⟩

set_option maxHeartbeats 2000000 in
theorem sides_Sum_ok {w0 w : World} {Γ : List (World → Prop)} (l_ : List Cpx) (A1 : Option Addr) (n6 c2 : Nat) (hn5 : n6 = l_.length) (hc3 : l_.length ≤ c2) (hv4 : ∀ u, Hp w0 Γ u → SlR K70 A1 l_ u) (r0_ : Cpx) (H : Hp w0 (Γ) w) (hm : sides_Sum l_ = some r0_) : Calls Try.prog 54 #[.slice A1 n6 c2] w (fun e w => e = .returned (.complex .f64 r0_.re r0_.im) ∧ Hp w0 (Γ) w) := by
  subst hn5
  unfold sides_Sum at hm
  refine st_enter Try.func54 rfl Try.ntmps54 (Nat.le_of_ble_eq_true rfl) ?_
  refine st_seq ?_
  refine st_region ?_
  refine r_pure (.complex .f64 (⟨0, 0⟩ : Cpx).re (⟨0, 0⟩ : Cpx).im) rfl ?_
  refine r_seq ?_
  refine st_seq ?_
  refine st_region ?_
  refine r_pure (.complex .f64 (⟨0, 0⟩ : Cpx).re (⟨0, 0⟩ : Cpx).im) rfl ?_
  refine r_seq ?_
  refine st_seq ?_
  refine st_seq ?_
  refine st_region ?_
  refine r_pure (.slice A1 l_.length c2) rfl ?_
  refine r_len Try.underlying75 rfl ?_
  refine r_pure (.int .i64 0) rfl ?_
  refine r_seq ?_
  refine st_block ?_
  have hlim28 := (hv4 _ H).lim
  obtain ⟨tl11, hl12, hm10⟩ := bind_some hm
  refine st_loopL (sides_Sum.l1) (fun ys17 s ρ w => ∃ i13 : Int, ∃ v8 : Cpx, ∃ dn14 : List Cpx, (i13, v8) = s ∧ l_ = dn14 ++ ys17 ∧ i13 = (dn14.length : Int) ∧ (∃ base, ρ = updl base [(3, .complex .f64 v8.re v8.im), (6, .slice A1 l_.length c2), (7, .int .i64 (l_.length : Int)), (8, .int .i64 i13)]) ∧ Hp w0 (Γ) w) hl12 ⟨0, (⟨0, 0⟩ : Cpx), [], rfl, rfl, rfl, upk (ac rfl (ac rfl (ac rfl (ac rfl an)))), H⟩ ?_
  rintro m ys17 IH21 s ρ w ⟨i13, v8, dn14, rfl, hxs15, hi16, ⟨base, rfl⟩, H9⟩ hm
  rcases ys17 with _ | ⟨y18, ys17⟩
  · rw [sides_Sum.l1] at hm
    have hb22 := range_end hxs15 hi16
    refine st_seq ?_
    refine st_region ?_
    refine r_pure (.bool (decide (i13 < (l_.length : Int)))) rfl ?_
    refine r_seq ?_
    refine st_seq ?_
    refine st_condf hb22 rfl ?_
    have hq_ := Option.some.inj hm
    refine st_exit rfl ?_
    subst hq_
    refine n_sq ?_
    refine st_seq ?_
    refine st_region ?_
    refine r_pure (.complex .f64 v8.re v8.im) rfl ?_
    refine r_pure (.complex .f64 v8.re v8.im) rfl ?_
    refine r_seq ?_
    have hq_ := Option.some.inj hm10
    subst hq_
    refine st_ret1 rfl rfl (Nat.le_of_ble_eq_true rfl) rfl ?_
    exact ⟨rfl, H9⟩
  · rw [sides_Sum.l1] at hm
    have hb23 := range_in hxs15 hi16
    obtain ⟨h024, h125, hj26⟩ := range_ix hxs15 hi16
    have hnx27 := range_next hxs15 hi16 hlim28
    refine st_seq ?_
    refine st_region ?_
    refine r_pure (.bool (decide (i13 < (l_.length : Int)))) rfl ?_
    refine r_seq ?_
    refine st_seq ?_
    refine st_condt hb23 rfl ?_
    refine st_skip ?_
    refine n_sq ?_
    refine st_seq ?_
    refine st_block ?_
    refine st_seq ?_
    refine st_region ?_
    have hA29 := (hv4 _ H9).adO hj26
    refine r_ix IX75 rfl rfl hA29 h024 h125 ?_
    refine r_ld1 (.complex .f64 y18.re y18.im) LD70 rfl ((hv4 _ H9).c0A hA29 hj26 _ rfl) ?_
    refine r_pure (.complex .f64 y18.re y18.im) rfl ?_
    refine r_seq ?_
    refine st_region ?_
    refine r_pure (.complex .f64 v8.re v8.im) rfl ?_
    refine r_pure (.complex .f64 y18.re y18.im) rfl ?_
    obtain ⟨y30, hy31, hm⟩ := bind_some hm
    refine r_cadd hy31 rfl rfl ?_
    refine r_pure (.complex .f64 y30.re y30.im) rfl ?_
    refine r_nil ?_
    refine n_bl ?_
    refine n_sq ?_
    refine st_region ?_
    refine r_pure (.int .i64 (w64 (i13 + 1))) rfl ?_
    refine r_pure (.int .i64 (w64 (i13 + 1))) rfl ?_
    refine r_nil ?_
    refine n_round (IH21 _ _ rfl _ _ _ ⟨i13 + 1, y30, dn14 ++ [y18], rfl, range_more hxs15, range_len hi16, upk (ac rfl (ac rfl (ac rfl (ac hnx27 an)))), H9⟩ hm)

set_option maxHeartbeats 2000000 in
theorem journal_Sides_ok {w0 w : World} {Γ : List (World → Prop)} (lines : List api_Line) (A1 : Option Addr) (n6 c2 : Nat) (hn5 : n6 = lines.length) (hc3 : lines.length ≤ c2) (hv4 : ∀ u, Hp w0 Γ u → SlR K43 A1 lines u) (r0_ : Cpx) (H : Hp w0 (Γ) w) (hm : journal_Sides lines = some r0_) : Calls Try.prog 49 #[.slice A1 n6 c2] w (fun e w => e = .returned (.complex .f64 r0_.re r0_.im) ∧ Hp w0 (Γ) w) := by
  subst hn5
  unfold journal_Sides at hm
  refine st_enter Try.func49 rfl Try.ntmps49 (Nat.le_of_ble_eq_true rfl) ?_
  refine st_seq ?_
  refine st_region ?_
  refine r_pure (.complex .f64 (⟨0, 0⟩ : Cpx).re (⟨0, 0⟩ : Cpx).im) rfl ?_
  refine r_seq ?_
  refine st_seq ?_
  refine st_region ?_
  refine r_pure (.slice none 0 0) rfl ?_
  refine r_seq ?_
  refine st_seq ?_
  refine st_seq ?_
  refine st_region ?_
  refine r_pure (.slice A1 lines.length c2) rfl ?_
  refine r_len Try.underlying34 rfl ?_
  refine r_pure (.int .i64 0) rfl ?_
  refine r_seq ?_
  refine st_block ?_
  have H12 := H.add (A := Row K70 (.slice none 0 0) []) Row.nil
  have hlim36 := (hv4 _ H12.d).lim
  obtain ⟨tl19, hl20, hm18⟩ := bind_some hm
  refine st_loopL (journal_Sides.l1) (fun ys25 s ρ w => ∃ i21 : Int, ∃ xs16 : List Cpx, ∃ dn22 : List api_Line, ∃ A13 : Option Addr, ∃ n14 : Nat, ∃ c15 : Nat, (i21, xs16) = s ∧ lines = dn22 ++ ys25 ∧ i21 = (dn22.length : Int) ∧ (∃ base, ρ = updl base [(3, .slice A13 n14 c15), (6, .slice A1 lines.length c2), (7, .int .i64 (lines.length : Int)), (8, .int .i64 i21)]) ∧ Hp w0 (Row K70 (.slice A13 n14 c15) xs16 :: Γ) w) hl20 ⟨0, ([] : List Cpx), [], none, 0, 0, rfl, rfl, rfl, upk (ac rfl (ac rfl (ac rfl (ac rfl an)))), H12⟩ ?_
  rintro m ys25 IH29 s ρ w ⟨i21, xs16, dn22, A13, n14, c15, rfl, hxs23, hi24, ⟨base, rfl⟩, H17⟩ hm
  obtain rfl := (H17.g0).leneq
  rcases ys25 with _ | ⟨y26, ys25⟩
  · rw [journal_Sides.l1] at hm
    have hb30 := range_end hxs23 hi24
    refine st_seq ?_
    refine st_region ?_
    refine r_pure (.bool (decide (i21 < (lines.length : Int)))) rfl ?_
    refine r_seq ?_
    refine st_seq ?_
    refine st_condf hb30 rfl ?_
    have hq_ := Option.some.inj hm
    refine st_exit rfl ?_
    subst hq_
    refine n_sq ?_
    refine st_seq ?_
    refine st_region ?_
    refine r_pure (.slice A13 xs16.length c15) rfl ?_
    obtain ⟨y37, hy38, hm⟩ := bind_some hm18
    refine r_callf Try.call54 (sides_Sum_ok xs16 A13 xs16.length c15 rfl (((H17).g0).cap) (fun _ H => (H.g0.rd)) y37 H17 hy38) ?_
    rintro e40 wd39 ⟨rfl, H42⟩
    refine ⟨_, rfl, ?_⟩
    refine r_pure (.complex .f64 y37.re y37.im) rfl ?_
    refine r_seq ?_
    have hq_ := Option.some.inj hm
    subst hq_
    refine st_ret1 rfl rfl (Nat.le_of_ble_eq_true rfl) rfl ?_
    exact ⟨rfl, H42.d⟩
  · rw [journal_Sides.l1] at hm
    have hb31 := range_in hxs23 hi24
    obtain ⟨h032, h133, hj34⟩ := range_ix hxs23 hi24
    have hnx35 := range_next hxs23 hi24 hlim36
    refine st_seq ?_
    refine st_region ?_
    refine r_pure (.bool (decide (i21 < (lines.length : Int)))) rfl ?_
    refine r_seq ?_
    refine st_seq ?_
    refine st_condt hb31 rfl ?_
    refine st_skip ?_
    refine n_sq ?_
    refine st_seq ?_
    refine st_block ?_
    refine st_seq ?_
    refine st_region ?_
    have hA43 := (hv4 _ H17.d).adO hj34
    refine r_ix IX34 rfl rfl hA43 h032 h133 ?_
    refine r_ldA [.int .i64 y26.Account, .int .i64 y26.Amount] LD43 rfl rfl ((hv4 _ H17.d).csA hA43 hj34) ?_
    refine r_alloc [.int .i64 0, .int .i64 0] Try.zeroValue43 H17 rfl ?_
    intro b44 wd46 H45
    refine r_stA [.int .i64 y26.Account, .int .i64 y26.Amount] LD43 rfl rfl rfl rfl H45 (Nat.le_of_ble_eq_true rfl) rfl ?_
    intro wd48 H47
    refine r_seq ?_
    refine st_region ?_
    refine r_pure (.slice A13 xs16.length c15) rfl ?_
    refine r_fa FA43_1 ⟨b44, 1, none⟩ rfl rfl ?_
    refine r_ld1 (.int .i64 y26.Amount) LD3 rfl ((H47.g0).cell _ rfl) ?_
    obtain ⟨y49, hy50, hm⟩ := bind_some hm
    refine r_callf Try.call53 (sides_Of_ok y26.Amount y49 H47 hy50) ?_
    rintro e52 wd51 ⟨rfl, H54⟩
    refine ⟨_, rfl, ?_⟩
    refine r_buildSlice (K := K70) [y49] EL75 rfl rfl rfl (by decide) (by decide) rfl H54 ?_
    intro b55 wd57 H56
    obtain ⟨hf58, hm⟩ := gd_some hm
    refine r_append (K := K70) (ys := [y49]) AP75 rfl rfl rfl rfl H56.u2 (((H56.u2).g1).src) (fit_le hf58 (by decide)) ?_
    intro A59 c60 wd61 H62
    refine r_pure (.slice A59 ((xs16 ++ [y49]).length) c60) rfl ?_
    refine r_nil ?_
    refine n_bl ?_
    refine n_sq ?_
    refine st_region ?_
    refine r_pure (.int .i64 (w64 (i21 + 1))) rfl ?_
    refine r_pure (.int .i64 (w64 (i21 + 1))) rfl ?_
    refine r_nil ?_
    refine n_round (IH29 _ _ rfl _ _ _ ⟨i21 + 1, xs16 ++ [y49], dn22 ++ [y26], A59, (xs16 ++ [y49]).length, c60, rfl, range_more hxs23, range_len hi24, upk (ac rfl (ac rfl (ac rfl (ac hnx35 an)))), H62.u1.d.u1.d⟩ hm)

set_option maxHeartbeats 2000000 in
theorem sides_Even_ok {w0 w : World} {Γ : List (World → Prop)} (z_ : Cpx) (r0_ : Bool) (H : Hp w0 (Γ) w) (hm : sides_Even z_ = some r0_) : Calls Try.prog 48 #[.complex .f64 z_.re z_.im] w (fun e w => e = .returned (.bool r0_) ∧ Hp w0 (Γ) w) := by
  unfold sides_Even at hm
  refine st_enter Try.func48 rfl Try.ntmps48 (Nat.le_of_ble_eq_true rfl) ?_
  refine st_seq ?_
  refine st_region ?_
  refine r_pure (.bool false) rfl ?_
  refine r_seq ?_
  refine st_seq ?_
  refine st_region ?_
  refine r_pure (.complex .f64 z_.re z_.im) rfl ?_
  refine r_real rfl ?_
  refine r_pure (.complex .f64 z_.re z_.im) rfl ?_
  refine r_imag rfl ?_
  refine r_eqf rfl rfl ?_
  refine r_pure (.bool (Op.floatEq .f64 z_.re z_.im)) rfl ?_
  refine r_seq ?_
  have hq_ := Option.some.inj hm
  subst hq_
  refine st_ret1 rfl rfl (Nat.le_of_ble_eq_true rfl) rfl ?_
  exact ⟨rfl, H⟩

set_option maxHeartbeats 2000000 in
theorem journal_Check_ok {w0 w : World} {Γ : List (World → Prop)} (lines : List api_Line) (A1 : Option Addr) (n6 c2 : Nat) (hn5 : n6 = lines.length) (hc3 : lines.length ≤ c2) (hv4 : ∀ u, Hp w0 Γ u → SlR K43 A1 lines u) (r0_ : Int) (H : Hp w0 (Γ) w) (hm : journal_Check lines = some r0_) : Calls Try.prog 35 #[.slice A1 n6 c2] w (fun e w => e = .returned (.int .i64 r0_) ∧ Hp w0 (Γ) w) := by
  subst hn5
  unfold journal_Check at hm
  refine st_enter Try.func35 rfl Try.ntmps35 (Nat.le_of_ble_eq_true rfl) ?_
  refine st_seq ?_
  refine st_region ?_
  refine r_pure (.int .i64 0) rfl ?_
  refine r_seq ?_
  refine st_seq ?_
  refine st_seq ?_
  refine st_region ?_
  refine r_pure (.slice A1 lines.length c2) rfl ?_
  refine r_len Try.underlying34 rfl ?_
  refine r_pure (.bool (decide ((lines.length : Int) > 20))) rfl ?_
  refine r_seq ?_
  rcases ite_some hm with ⟨hb7, hm⟩ | ⟨hb7, hm⟩
  · refine st_condt hb7 rfl ?_
    refine st_seq ?_
    refine st_region ?_
    refine r_pure (.int .i64 2) rfl ?_
    refine r_seq ?_
    have hq_ := Option.some.inj hm
    subst hq_
    refine st_ret1 rfl rfl (Nat.le_of_ble_eq_true rfl) rfl ?_
    exact ⟨rfl, H⟩
  · refine st_condf hb7 rfl ?_
    refine st_skip ?_
    refine n_sq ?_
    refine st_seq ?_
    refine st_region ?_
    refine r_pure (.int .i64 0) rfl ?_
    refine r_seq ?_
    refine st_seq ?_
    refine st_seq ?_
    refine st_region ?_
    refine r_pure (.slice A1 lines.length c2) rfl ?_
    refine r_len Try.underlying34 rfl ?_
    refine r_pure (.int .i64 0) rfl ?_
    refine r_seq ?_
    refine st_block ?_
    have hlim29 := (hv4 _ H).lim
    obtain ⟨tl12, hl13, hm11⟩ := bind_some hm
    refine st_loopL (journal_Check.l1) (fun ys18 s ρ w => ∃ i14 : Int, ∃ v9 : Int, ∃ dn15 : List api_Line, (i14, v9) = s ∧ lines = dn15 ++ ys18 ∧ i14 = (dn15.length : Int) ∧ (∃ base, ρ = updl base [(0, .slice A1 lines.length c2), (3, .int .i64 v9), (9, .slice A1 lines.length c2), (10, .int .i64 (lines.length : Int)), (11, .int .i64 i14)]) ∧ Hp w0 (Γ) w) hl13 ⟨0, 0, [], rfl, rfl, rfl, upk (ac rfl (ac rfl (ac rfl (ac rfl (ac rfl an))))), H⟩ ?_
    rintro m ys18 IH22 s ρ w ⟨i14, v9, dn15, rfl, hxs16, hi17, ⟨base, rfl⟩, H10⟩ hm
    rcases ys18 with _ | ⟨y19, ys18⟩
    · rw [journal_Check.l1] at hm
      have hb23 := range_end hxs16 hi17
      refine st_seq ?_
      refine st_region ?_
      refine r_pure (.bool (decide (i14 < (lines.length : Int)))) rfl ?_
      refine r_seq ?_
      refine st_seq ?_
      refine st_condf hb23 rfl ?_
      have hq_ := Option.some.inj hm
      refine st_exit rfl ?_
      subst hq_
      refine n_sq ?_
      refine st_seq ?_
      refine st_seq ?_
      refine st_region ?_
      refine r_pure (.slice A1 lines.length c2) rfl ?_
      obtain ⟨y30, hy31, hm⟩ := bind_some hm11
      refine r_callf Try.call49 (journal_Sides_ok lines A1 lines.length c2 rfl hc3 (fun _ H => (hv4 _ H)) y30 H10 hy31) ?_
      rintro e33 wd32 ⟨rfl, H35⟩
      refine ⟨_, rfl, ?_⟩
      obtain ⟨y36, hy37, hm⟩ := bind_some hm
      refine r_callf Try.call48 (sides_Even_ok y30 y36 H35 hy37) ?_
      rintro e39 wd38 ⟨rfl, H41⟩
      refine ⟨_, rfl, ?_⟩
      refine r_pure (.bool (!y36)) rfl ?_
      refine r_seq ?_
      rcases ite_some hm with ⟨hb42, hm⟩ | ⟨hb42, hm⟩
      · refine st_condt hb42 rfl ?_
        refine st_seq ?_
        refine st_region ?_
        refine r_pure (.int .i64 2) rfl ?_
        refine r_seq ?_
        have hq_ := Option.some.inj hm
        subst hq_
        refine st_ret1 rfl rfl (Nat.le_of_ble_eq_true rfl) rfl ?_
        exact ⟨rfl, H41⟩
      · refine st_condf hb42 rfl ?_
        refine st_skip ?_
        refine n_sq ?_
        refine st_seq ?_
        refine st_region ?_
        refine r_pure (.int .i64 0) rfl ?_
        refine r_seq ?_
        have hq_ := Option.some.inj hm
        subst hq_
        refine st_ret1 rfl rfl (Nat.le_of_ble_eq_true rfl) rfl ?_
        exact ⟨rfl, H41⟩
    · rw [journal_Check.l1] at hm
      have hb24 := range_in hxs16 hi17
      obtain ⟨h025, h126, hj27⟩ := range_ix hxs16 hi17
      have hnx28 := range_next hxs16 hi17 hlim29
      refine st_seq ?_
      refine st_region ?_
      refine r_pure (.bool (decide (i14 < (lines.length : Int)))) rfl ?_
      refine r_seq ?_
      refine st_seq ?_
      refine st_condt hb24 rfl ?_
      refine st_skip ?_
      refine n_sq ?_
      refine st_seq ?_
      refine st_block ?_
      refine st_seq ?_
      refine st_region ?_
      have hA43 := (hv4 _ H10).adO hj27
      refine r_ix IX34 rfl rfl hA43 h025 h126 ?_
      refine r_ldA [.int .i64 y19.Account, .int .i64 y19.Amount] LD43 rfl rfl ((hv4 _ H10).csA hA43 hj27) ?_
      refine r_alloc [.int .i64 0, .int .i64 0] Try.zeroValue43 H10 rfl ?_
      intro b44 wd46 H45
      refine r_stA [.int .i64 y19.Account, .int .i64 y19.Amount] LD43 rfl rfl rfl rfl H45 (Nat.le_of_ble_eq_true rfl) rfl ?_
      intro wd48 H47
      refine r_seq ?_
      refine st_seq ?_
      refine st_cut (fun ρ w => ∃ q49 : Bool, (∃ base, ρ = updl base [(0, .slice A1 lines.length c2), (5, .pointer (some ⟨b44, 0, none⟩)), (9, .slice A1 lines.length c2), (10, .int .i64 (lines.length : Int)), (11, .int .i64 i14), (23, .bool q49)]) ∧ Hp w0 (Bx b44 43 [.int .i64 y19.Account, .int .i64 y19.Amount] :: Γ) w ∧ journal_Check.j1 (journal_Check.l1 ys18) i14 y19 q49 = some tl12) ?_ ?_
      · refine st_region ?_
        refine r_ldA [.int .i64 y19.Account, .int .i64 y19.Amount] LD43 rfl rfl ((H47.g0).cells rfl) ?_
        obtain ⟨y52, hy53, hm⟩ := bind_some hm
        refine r_callf Try.call47 (journal_right_ok y19 y52 H47 hy53) ?_
        rintro e55 wd54 ⟨rfl, H57⟩
        refine ⟨_, rfl, ?_⟩
        refine r_pure (.bool (!y52)) rfl ?_
        refine r_pure (.bool (!y52)) rfl ?_
        rcases ite_some hm with ⟨hb58, hm⟩ | ⟨hb58, hm⟩
        · refine r_not (wn_f rfl rfl (by decide) rfl hb58) ?_
          refine r_not (wn_f rfl rfl (by decide) rfl hb58) ?_
          refine r_not (wn_f rfl rfl (by decide) rfl hb58) ?_
          refine r_not (wn_f rfl rfl (by decide) rfl hb58) ?_
          refine r_pick_t (.bool true) hb58 rfl rfl ?_
          refine r_nil ?_
          refine n_cut ⟨true, upk (ac rfl (ac rfl (ac rfl (ac rfl (ac rfl (ac rfl an)))))), H57, hm⟩
        · refine r_fa FA43_0 ⟨b44, 0, none⟩ rfl rfl ?_ (wn_t rfl rfl (by decide) rfl hb58)
          refine r_ld1 (.int .i64 y19.Account) LD3 rfl ((H57.g0).cell _ rfl) ?_ (wn_t rfl rfl (by decide) rfl hb58)
          refine r_pure (.int .i64 v9) rfl ?_ (wn_t rfl rfl (by decide) rfl hb58)
          refine r_pure (.bool (decide (y19.Account ≤ v9))) rfl ?_ (wn_t rfl rfl (by decide) rfl hb58)
          refine r_pick_f (.bool (decide (y19.Account ≤ v9))) hb58 rfl rfl ?_
          refine r_nil ?_
          refine n_cut ⟨decide (y19.Account ≤ v9), upk (ac rfl (ac rfl (ac rfl (ac rfl (ac rfl (ac rfl an)))))), H57, hm⟩
      · rintro ρ w ⟨q49, ⟨base, rfl⟩, H50, hm⟩
        unfold journal_Check.j1 at hm
        rcases ite_some hm with ⟨hb51, hm⟩ | ⟨hb51, hm⟩
        · refine st_condt hb51 rfl ?_
          refine st_seq ?_
          refine st_region ?_
          refine r_pure (.int .i64 2) rfl ?_
          refine r_seq ?_
          have hq_ := Option.some.inj hm
          subst hq_
          have hq_ := Option.some.inj (show some (2 : Int) = some r0_ from hm11)
          subst hq_
          refine st_ret1 rfl rfl (Nat.le_of_ble_eq_true rfl) rfl ?_
          exact ⟨rfl, H50.d⟩
        · refine st_condf hb51 rfl ?_
          refine st_skip ?_
          refine n_sq ?_
          refine st_region ?_
          refine r_fa FA43_0 ⟨b44, 0, none⟩ rfl rfl ?_
          refine r_ld1 (.int .i64 y19.Account) LD3 rfl ((H50.g0).cell _ rfl) ?_
          refine r_pure (.int .i64 y19.Account) rfl ?_
          refine r_nil ?_
          refine n_bl ?_
          refine n_sq ?_
          refine st_region ?_
          refine r_pure (.int .i64 (w64 (i14 + 1))) rfl ?_
          refine r_pure (.int .i64 (w64 (i14 + 1))) rfl ?_
          refine r_nil ?_
          refine n_round (IH22 _ _ rfl _ _ _ ⟨i14 + 1, y19.Account, dn15 ++ [y19], rfl, range_more hxs16, range_len hi17, upk (ac rfl (ac rfl (ac rfl (ac rfl (ac hnx28 an))))), H50.d⟩ hm)

set_option maxHeartbeats 2000000 in
theorem slices_Equal_api_Line_ok {w0 w : World} {Γ : List (World → Prop)} (s1_ : List api_Line) (A1 : Option Addr) (n6 c2 : Nat) (hn5 : n6 = s1_.length) (hc3 : s1_.length ≤ c2) (hv4 : ∀ u, Hp w0 Γ u → SlR K43 A1 s1_ u) (s2_ : List api_Line) (A7 : Option Addr) (n12 c8 : Nat) (hn11 : n12 = s2_.length) (hc9 : s2_.length ≤ c8) (hv10 : ∀ u, Hp w0 Γ u → SlR K43 A7 s2_ u) (r0_ : Bool) (H : Hp w0 (Γ) w) (hm : slices_Equal_api_Line s1_ s2_ = some r0_) : Calls Try.prog 36 #[.slice A1 n6 c2, .slice A7 n12 c8] w (fun e w => e = .returned (.bool r0_) ∧ Hp w0 (Γ) w) := by
  subst hn5
  subst hn11
  unfold slices_Equal_api_Line at hm
  refine st_enter Try.func36 rfl Try.ntmps36 (Nat.le_of_ble_eq_true rfl) ?_
  refine st_seq ?_
  refine st_region ?_
  refine r_pure (.bool false) rfl ?_
  refine r_seq ?_
  refine st_seq ?_
  refine st_seq ?_
  refine st_region ?_
  refine r_pure (.slice A1 s1_.length c2) rfl ?_
  refine r_len Try.underlying34 rfl ?_
  refine r_pure (.slice A7 s2_.length c8) rfl ?_
  refine r_len Try.underlying34 rfl ?_
  refine r_pure (.bool ((s1_.length : Int) != (s2_.length : Int))) rfl ?_
  refine r_seq ?_
  rcases ite_some hm with ⟨hb13, hm⟩ | ⟨hb13, hm⟩
  · refine st_condt hb13 rfl ?_
    refine st_seq ?_
    refine st_region ?_
    refine r_pure (.bool false) rfl ?_
    refine r_seq ?_
    have hq_ := Option.some.inj hm
    subst hq_
    refine st_ret1 rfl rfl (Nat.le_of_ble_eq_true rfl) rfl ?_
    exact ⟨rfl, H⟩
  · refine st_condf hb13 rfl ?_
    refine st_skip ?_
    refine n_sq ?_
    refine st_seq ?_
    refine st_seq ?_
    refine st_region ?_
    refine r_pure (.slice A1 s1_.length c2) rfl ?_
    refine r_len Try.underlying34 rfl ?_
    refine r_pure (.int .i64 0) rfl ?_
    refine r_seq ?_
    refine st_block ?_
    have hlim33 := (hv4 _ H).lim
    obtain ⟨tl16, hl17, hm15⟩ := bind_some hm
    refine st_loopL (slices_Equal_api_Line.l1 s2_) (fun ys22 s ρ w => ∃ i18 : Int, ∃ dn19 : List api_Line, i18 = s ∧ s1_ = dn19 ++ ys22 ∧ i18 = (dn19.length : Int) ∧ (∃ base, ρ = updl base [(0, .slice A1 s1_.length c2), (1, .slice A7 s2_.length c8), (12, .int .i64 (s1_.length : Int)), (13, .int .i64 i18)]) ∧ Hp w0 (Γ) w) hl17 ⟨0, [], rfl, rfl, rfl, upk (ac rfl (ac rfl (ac rfl (ac rfl an)))), H⟩ ?_
    rintro m ys22 IH26 s ρ w ⟨i18, dn19, rfl, hxs20, hi21, ⟨base, rfl⟩, H14⟩ hm
    rcases ys22 with _ | ⟨y23, ys22⟩
    · rw [slices_Equal_api_Line.l1] at hm
      have hb27 := range_end hxs20 hi21
      refine st_seq ?_
      refine st_region ?_
      refine r_pure (.bool (decide (i18 < (s1_.length : Int)))) rfl ?_
      refine r_seq ?_
      refine st_seq ?_
      refine st_condf hb27 rfl ?_
      have hq_ := Option.some.inj hm
      refine st_exit rfl ?_
      subst hq_
      refine n_sq ?_
      refine st_seq ?_
      refine st_region ?_
      refine r_pure (.bool true) rfl ?_
      refine r_seq ?_
      have hq_ := Option.some.inj hm15
      subst hq_
      refine st_ret1 rfl rfl (Nat.le_of_ble_eq_true rfl) rfl ?_
      exact ⟨rfl, H14⟩
    · rw [slices_Equal_api_Line.l1] at hm
      have hb28 := range_in hxs20 hi21
      obtain ⟨h029, h130, hj31⟩ := range_ix hxs20 hi21
      have hnx32 := range_next hxs20 hi21 hlim33
      refine st_seq ?_
      refine st_region ?_
      refine r_pure (.bool (decide (i18 < (s1_.length : Int)))) rfl ?_
      refine r_seq ?_
      refine st_seq ?_
      refine st_condt hb28 rfl ?_
      refine st_skip ?_
      refine n_sq ?_
      refine st_seq ?_
      refine st_block ?_
      refine st_seq ?_
      refine st_region ?_
      refine r_pure (.int .i64 i18) rfl ?_
      refine r_pure (.int .i64 i18) rfl ?_
      refine r_seq ?_
      refine st_seq ?_
      obtain ⟨⟨h036, h137⟩, hm⟩ := gd_some hm
      have hj38 := rd_get h036 h137
      refine Flow.run' RA36_6 RW36_6 [(fun η34 v => v.1 = .slice A1 s1_.length c2), (fun η34 v => v.1 = .int .i64 i18), (fun η34 v => v.1 = .pointer (some ((oA A1).add (Int.toNat i18 * 2)))), (fun η34 v => v.1 = .agg #[.int .i64 y23.Account, .int .i64 y23.Amount]), (fun η34 v => v.1 = .slice A7 s2_.length c8), (fun η34 v => v.1 = .int .i64 i18), (fun η34 v => v.1 = .pointer (some ((oA A7).add (Int.toNat i18 * 2)))), (fun η34 v => v.1 = .agg #[.int .i64 ((rd s2_ i18).Account), .int .i64 ((rd s2_ i18).Amount)]), (fun η34 v => v.1 = .bool (!(y23.Account == ((rd s2_ i18).Account) && (y23.Amount == ((rd s2_ i18).Amount)))))] [] rfl (by kernel_rfl) (by kernel_rfl) H14 ⟨?_, ?_, ?_, ?_, ?_, ?_, ?_, ?_, ?_, trivial⟩ ?_
      · intro η34 wd44 Δ45 hE40 hR41 hA42 H43
        refine sp_op [(0, .slice A1 s1_.length c2)] (ac rfl an) ?_
        refine r_pure (.slice A1 s1_.length c2) rfl ?_
        exact r_nil (n_lp ⟨_, rfl, undef, rfl, H43⟩)
      · intro η34 wd50 Δ51 hE46 hR47 hA48 H49
        refine sp_op [(5, .int .i64 i18)] (ac rfl an) ?_
        refine r_pure (.int .i64 i18) rfl ?_
        exact r_nil (n_lp ⟨_, rfl, undef, rfl, H49⟩)
      · intro η34 wd56 Δ57 hE52 hR53 hA54 H55
        have H55 : Hp w0 ((Δ57 ++ Γ)) wd56 := H55
        refine sp_op [(16, .slice A1 s1_.length c2), (17, .int .i64 i18)] (ac (hE52 0 (by decide)) (ac (hE52 1 (by decide)) an)) ?_
        have hA58 := (hv4 _ (H55).tl).adO hj31
        refine r_ix IX34 rfl rfl hA58 h029 h130 ?_
        exact r_nil (n_lp ⟨_, rfl, undef, rfl, H55⟩)
      · intro η34 wd63 Δ64 hE59 hR60 hA61 H62
        have H62 : Hp w0 ((Δ64 ++ Γ)) wd63 := H62
        refine sp_op [(18, .pointer (some ((oA A1).add (Int.toNat i18 * 2))))] (ac (hE59 2 (by decide)) an) ?_
        have hA65 := (hv4 _ (H62).tl).adO hj31
        refine r_ldA [.int .i64 y23.Account, .int .i64 y23.Amount] LD43 rfl rfl ((hv4 _ (H62).tl).csA hA65 hj31) ?_
        exact r_nil (n_lp ⟨_, rfl, undef, rfl, H62⟩)
      · intro η34 wd70 Δ71 hE66 hR67 hA68 H69
        refine sp_op [(1, .slice A7 s2_.length c8)] (ac rfl an) ?_
        refine r_pure (.slice A7 s2_.length c8) rfl ?_
        exact r_nil (n_lp ⟨_, rfl, undef, rfl, H69⟩)
      · intro η34 wd76 Δ77 hE72 hR73 hA74 H75
        refine sp_op [(5, .int .i64 i18)] (ac rfl an) ?_
        refine r_pure (.int .i64 i18) rfl ?_
        exact r_nil (n_lp ⟨_, rfl, undef, rfl, H75⟩)
      · intro η34 wd82 Δ83 hE78 hR79 hA80 H81
        have H81 : Hp w0 ((Δ83 ++ Γ)) wd82 := H81
        refine sp_op [(20, .slice A7 s2_.length c8), (21, .int .i64 i18)] (ac (hE78 4 (by decide)) (ac (hE78 5 (by decide)) an)) ?_
        have hA87 := (hv10 _ (H81).tl).adO hj38
        refine r_ix IX34 rfl rfl hA87 h036 h137 ?_
        exact r_nil (n_lp ⟨_, rfl, undef, rfl, H81⟩)
      · intro η34 wd92 Δ93 hE88 hR89 hA90 H91
        have H91 : Hp w0 ((Δ93 ++ Γ)) wd92 := H91
        refine sp_op [(22, .pointer (some ((oA A7).add (Int.toNat i18 * 2))))] (ac (hE88 6 (by decide)) an) ?_
        have hA94 := (hv10 _ (H91).tl).adO hj38
        refine r_ldA [.int .i64 ((rd s2_ i18).Account), .int .i64 ((rd s2_ i18).Amount)] LD43 rfl rfl ((hv10 _ (H91).tl).csA hA94 hj38) ?_
        exact r_nil (n_lp ⟨_, rfl, undef, rfl, H91⟩)
      · intro η34 wd99 Δ100 hE95 hR96 hA97 H98
        refine sp_op [(19, .agg #[.int .i64 y23.Account, .int .i64 y23.Amount]), (23, .agg #[.int .i64 ((rd s2_ i18).Account), .int .i64 ((rd s2_ i18).Amount)])] (ac (hE95 3 (by decide)) (ac (hE95 7 (by decide)) an)) ?_
        refine r_neS (EQ43 y23.Account ((rd s2_ i18).Account) y23.Amount ((rd s2_ i18).Amount)) (by decide) Try.eqGuardType43 rfl rfl ?_
        exact r_nil (n_lp ⟨_, rfl, undef, rfl, H98⟩)
      · intro η34 wd102 hV103 H101
        have H104 : Hp w0 (Γ) wd102 := H101
        refine n_frame [(0, .slice A1 s1_.length c2), (1, .slice A7 s2_.length c8), (12, .int .i64 (s1_.length : Int)), (13, .int .i64 i18), (24, .bool (!(y23.Account == ((rd s2_ i18).Account) && (y23.Amount == ((rd s2_ i18).Amount)))))] (ac rfl (ac rfl (ac rfl (ac rfl (ac (hV103 8 rfl) an))))) ?_
        refine n_sq ?_
        rcases ite_some hm with ⟨hb105, hm⟩ | ⟨hb105, hm⟩
        · refine st_condt hb105 rfl ?_
          refine st_seq ?_
          refine st_region ?_
          refine r_pure (.bool false) rfl ?_
          refine r_seq ?_
          have hq_ := Option.some.inj hm
          subst hq_
          have hq_ := Option.some.inj (show some (false : Bool) = some r0_ from hm15)
          subst hq_
          refine st_ret1 rfl rfl (Nat.le_of_ble_eq_true rfl) rfl ?_
          exact ⟨rfl, H104⟩
        · refine st_condf hb105 rfl ?_
          refine st_skip ?_
          refine n_bl ?_
          refine n_sq ?_
          refine st_region ?_
          refine r_pure (.int .i64 (w64 (i18 + 1))) rfl ?_
          refine r_pure (.int .i64 (w64 (i18 + 1))) rfl ?_
          refine r_nil ?_
          refine n_round (IH26 _ _ rfl _ _ _ ⟨i18 + 1, dn19 ++ [y23], rfl, range_more hxs20, range_len hi21, upk (ac rfl (ac rfl (ac rfl (ac hnx32 an)))), H104⟩ hm)

set_option maxHeartbeats 2000000 in
theorem store_Store_lines_ok {w0 w : World} {Γ : List (World → Prop)} (b1 : Nat) (s_ : store_Store) (A2 : Option Addr) (n7 c3 : Nat) (hn6 : n7 = s_.f_l.length) (hc4 : s_.f_l.length ≤ c3) (ads8 : Nat → Option Addr × Nat) (hv5 : ∀ u, Hp w0 Γ u → SlRN (fun j => KN37 (ads8 j)) 6 A2 s_.f_l u) (hin9 : ∀ j x, s_.f_l[j]? = some x → x.Lines.length ≤ (ads8 j).2 ∧ ∀ u, Hp w0 Γ u → SlR K43 (ads8 j).1 x.Lines u) (hv10 : ∀ u, Hp w0 Γ u → Bx b1 52 [.slice A2 n7 c3] u) (entity : ByteArray) (p : Int) (kind : Int) (of_ : Int) (lines : List api_Line) (A11 : Option Addr) (n16 c12 : Nat) (hn15 : n16 = lines.length) (hc13 : lines.length ≤ c12) (hv14 : ∀ u, Hp w0 Γ u → SlR K43 A11 lines u) (r0_ : Int) (H : Hp w0 (Γ) w) (hm : store_Store_lines s_ entity p kind of_ lines = some r0_) : Calls Try.prog 22 #[.pointer (some ⟨b1, 0, none⟩), .string entity, .int .i64 p, .int .i64 kind, .int .i64 of_, .slice A11 n16 c12] w (fun e w => e = .returned (.int .i64 r0_) ∧ Hp w0 (Γ) w) := by
  subst hn6
  subst hn15
  unfold store_Store_lines at hm
  refine st_enter Try.func22 rfl Try.ntmps22 (Nat.le_of_ble_eq_true rfl) ?_
  refine st_seq ?_
  refine st_region ?_
  refine r_pure (.int .i64 0) rfl ?_
  refine r_seq ?_
  refine st_seq ?_
  refine st_region ?_
  refine r_pure (.slice none 0 0) rfl ?_
  refine r_seq ?_
  refine st_cut (fun ρ w => ∃ A18 : Option Addr, ∃ n19 : Nat, ∃ c20 : Nat, ∃ xs21 : List api_Line, (∃ base, ρ = updl base [(3, .int .i64 kind), (5, .slice A11 lines.length c12), (13, .slice A18 n19 c20)]) ∧ Hp w0 (Row K43 (.slice A18 n19 c20) xs21 :: Γ) w ∧ store_Store_lines.j1 lines kind xs21 = some r0_) ?_ ?_
  · refine st_seq ?_
    refine st_region ?_
    refine r_pure (.int .i64 kind) rfl ?_
    refine r_pure (.bool (kind == 2)) rfl ?_
    refine r_seq ?_
    rcases ite_some hm with ⟨hb40, hm⟩ | ⟨hb40, hm⟩
    · refine st_condt hb40 rfl ?_
      refine st_seq ?_
      refine st_region ?_
      refine r_pure (.pointer (some ⟨b1, 0, none⟩)) rfl ?_
      refine r_pure (.string entity) rfl ?_
      refine r_pure (.int .i64 p) rfl ?_
      refine r_pure (.int .i64 of_) rfl ?_
      obtain ⟨⟨y41, y42⟩, hy43, hm⟩ := bind_some hm
      refine r_callf Try.call33 (store_Store_reversed_ok b1 (⟨s_.f_l⟩ : store_Store) A2 s_.f_l.length c3 rfl hc4 ads8 (fun _ H => (hv5 _ H)) (fun j x hj => ⟨(hin9 j x hj).1, fun u H => (hin9 j x hj).2 u H⟩) (fun _ H => (hv10 _ H)) entity p of_ y41 y42 H hy43) ?_
      rintro e45 wd44 ⟨A48, c49, rfl, hc50, hv51, H47⟩
      refine ⟨_, rfl, ?_⟩
      refine r_pure (.tuple #[.agg #[.int .i64 y41.Seq, .string y41.Entity, .int .i64 y41.Period, .int .i64 y41.Kind, .int .i64 y41.Of, .slice A48 y41.Lines.length c49], .int .i64 y42]) rfl ?_
      refine r_pure (.agg #[.int .i64 y41.Seq, .string y41.Entity, .int .i64 y41.Period, .int .i64 y41.Kind, .int .i64 y41.Of, .slice A48 y41.Lines.length c49]) rfl ?_
      refine r_pure (.int .i64 y42) rfl ?_
      refine r_alloc [.int .i64 0, .string ⟨#[]⟩, .int .i64 0, .int .i64 0, .int .i64 0, .slice none 0 0] Try.zeroValue37 H47 rfl ?_
      intro b52 wd54 H53
      refine r_stA [.int .i64 y41.Seq, .string y41.Entity, .int .i64 y41.Period, .int .i64 y41.Kind, .int .i64 y41.Of, .slice A48 y41.Lines.length c49] LD37 rfl rfl rfl rfl H53 (Nat.le_of_ble_eq_true rfl) rfl ?_
      intro wd56 H55
      refine r_pure (.int .i64 y42) rfl ?_
      refine r_seq ?_
      refine st_seq ?_
      refine st_seq ?_
      refine st_region ?_
      refine r_pure (.int .i64 y42) rfl ?_
      refine r_pure (.bool (y42 != 0)) rfl ?_
      refine r_seq ?_
      rcases ite_some hm with ⟨hb57, hm⟩ | ⟨hb57, hm⟩
      · refine st_condt hb57 rfl ?_
        refine st_seq ?_
        refine st_region ?_
        refine r_pure (.int .i64 y42) rfl ?_
        refine r_pure (.int .i64 y42) rfl ?_
        refine r_seq ?_
        have hq_ := Option.some.inj hm
        subst hq_
        refine st_ret1 rfl rfl (Nat.le_of_ble_eq_true rfl) rfl ?_
        exact ⟨rfl, H55.d⟩
      · refine st_condf hb57 rfl ?_
        refine st_skip ?_
        refine n_sq ?_
        refine st_region ?_
        refine r_fa FA37_5 ⟨b52, 5, none⟩ rfl rfl ?_
        refine r_ld1 (.slice A48 y41.Lines.length c49) LD34 rfl ((H55.g0).cell _ rfl) ?_
        obtain ⟨y58, hy59, hm⟩ := bind_some hm
        refine r_callf Try.call34 (journal_Reverse_ok y41.Lines A48 y41.Lines.length c49 rfl hc50 (fun _ H => (hv51 _ (H.d))) y58 H55 hy59) ?_
        rintro e61 wd60 ⟨A64, n65, c66, rfl, H63⟩
        obtain rfl := (H63.g0).leneq
        refine ⟨_, rfl, ?_⟩
        refine r_pure (.slice A64 y58.length c66) rfl ?_
        refine r_nil ?_
        refine n_cut ⟨A64, y58.length, c66, y58, upk (ac rfl (ac rfl (ac rfl an))), H63.u1.d, hm⟩
    · refine st_condf hb40 rfl ?_
      refine st_skip ?_
      have H67 := H.add (A := Row K43 (.slice none 0 0) []) Row.nil
      refine n_cut ⟨none, 0, 0, ([] : List api_Line), upk (ac rfl (ac rfl (ac rfl an))), H67, hm⟩
  · rintro ρ w ⟨A18, n19, c20, xs21, ⟨base, rfl⟩, H22, hm⟩
    obtain rfl := (H22.g0).leneq
    unfold store_Store_lines.j1 at hm
    refine st_seq ?_
    refine st_seq ?_
    refine st_region ?_
    refine r_pure (.slice A11 lines.length c12) rfl ?_
    obtain ⟨y23, hy24, hm⟩ := bind_some hm
    refine r_callf Try.call35 (journal_Check_ok lines A11 lines.length c12 rfl hc13 (fun _ H => (hv14 _ H.d)) y23 H22 hy24) ?_
    rintro e26 wd25 ⟨rfl, H28⟩
    refine ⟨_, rfl, ?_⟩
    refine r_pure (.int .i64 y23) rfl ?_
    refine r_seq ?_
    refine st_seq ?_
    refine st_region ?_
    refine r_pure (.int .i64 y23) rfl ?_
    refine r_pure (.bool (y23 != 0)) rfl ?_
    refine r_seq ?_
    rcases ite_some hm with ⟨hb29, hm⟩ | ⟨hb29, hm⟩
    · refine st_condt hb29 rfl ?_
      refine st_seq ?_
      refine st_region ?_
      refine r_pure (.int .i64 y23) rfl ?_
      refine r_pure (.int .i64 y23) rfl ?_
      refine r_seq ?_
      have hq_ := Option.some.inj hm
      subst hq_
      refine st_ret1 rfl rfl (Nat.le_of_ble_eq_true rfl) rfl ?_
      exact ⟨rfl, H28.d⟩
    · refine st_condf hb29 rfl ?_
      refine st_skip ?_
      refine n_sq ?_
      refine st_seq ?_
      refine st_cut (fun ρ w => ∃ q30 : Bool, (∃ base, ρ = updl base [(45, .bool q30)]) ∧ Hp w0 (Γ) w ∧ store_Store_lines.j2 q30 = some r0_) ?_ ?_
      · refine st_region ?_
        refine r_pure (.int .i64 kind) rfl ?_
        refine r_pure (.bool (kind == 2)) rfl ?_
        refine r_pure (.bool (kind == 2)) rfl ?_
        rcases ite_some hm with ⟨hb33, hm⟩ | ⟨hb33, hm⟩
        · refine r_pure (.slice A11 lines.length c12) rfl ?_ (wn_t rfl rfl (by decide) rfl hb33)
          refine r_pure (.slice A18 xs21.length c20) rfl ?_ (wn_t rfl rfl (by decide) rfl hb33)
          obtain ⟨y34, hy35, hm⟩ := bind_some hm
          refine r_callf Try.call36 (slices_Equal_api_Line_ok lines A11 lines.length c12 rfl hc13 (fun _ H => (hv14 _ H.d)) xs21 A18 xs21.length c20 rfl (((H28).g0).cap) (fun _ H => (H.g0.rd)) y34 H28 hy35) ?_ (wn_t rfl rfl (by decide) rfl hb33)
          rintro e37 wd36 ⟨rfl, H39⟩
          refine ⟨_, rfl, ?_⟩
          refine r_pure (.bool (!y34)) rfl ?_ (wn_t rfl rfl (by decide) rfl hb33)
          refine r_pick_t (.bool (!y34)) hb33 rfl rfl ?_
          refine r_nil ?_
          refine n_cut ⟨!y34, upk (ac rfl an), H39.d, hm⟩
        · refine r_not (wn_f rfl rfl (by decide) rfl hb33) ?_
          refine r_not (wn_f rfl rfl (by decide) rfl hb33) ?_
          refine r_not (wn_f rfl rfl (by decide) rfl hb33) ?_
          refine r_not (wn_f rfl rfl (by decide) rfl hb33) ?_
          refine r_pick_f (.bool false) hb33 rfl rfl ?_
          refine r_nil ?_
          refine n_cut ⟨false, upk (ac rfl an), H28.d, hm⟩
      · rintro ρ w ⟨q30, ⟨base, rfl⟩, H31, hm⟩
        unfold store_Store_lines.j2 at hm
        rcases ite_some hm with ⟨hb32, hm⟩ | ⟨hb32, hm⟩
        · refine st_condt hb32 rfl ?_
          refine st_seq ?_
          refine st_region ?_
          refine r_pure (.int .i64 2) rfl ?_
          refine r_seq ?_
          have hq_ := Option.some.inj hm
          subst hq_
          refine st_ret1 rfl rfl (Nat.le_of_ble_eq_true rfl) rfl ?_
          exact ⟨rfl, H31⟩
        · refine st_condf hb32 rfl ?_
          refine st_skip ?_
          refine n_sq ?_
          refine st_seq ?_
          refine st_region ?_
          refine r_pure (.int .i64 0) rfl ?_
          refine r_seq ?_
          have hq_ := Option.some.inj hm
          subst hq_
          refine st_ret1 rfl rfl (Nat.le_of_ble_eq_true rfl) rfl ?_
          exact ⟨rfl, H31⟩

set_option maxHeartbeats 2000000 in
theorem slices_IndexFunc_api_Line_ok {w0 w : World} {Γ : List (World → Prop)} (s_ : List api_Line) (A1 : Option Addr) (n6 c2 : Nat) (hn5 : n6 = s_.length) (hc3 : s_.length ≤ c2) (hv4 : ∀ u, Hp w0 Γ u → SlR K43 A1 s_ u) (fv7 : Value) (f_ : api_Line → Option Bool) (hp8 : FnOk Try.prog w0 Γ fv7 (fun x => [.agg #[.int .i64 x.Account, .int .i64 x.Amount]]) (fun r => .bool r) f_) (r0_ : Int) (H : Hp w0 (Γ) w) (hm : slices_IndexFunc_api_Line s_ f_ = some r0_) : Calls Try.prog 55 #[.slice A1 n6 c2, fv7] w (fun e w => e = .returned (.int .i64 r0_) ∧ Hp w0 (Γ) w) := by
  subst hn5
  obtain ⟨gf9, gcap10, rfl, ge11, gp12⟩ := hp8
  unfold slices_IndexFunc_api_Line at hm
  refine st_enter Try.func55 rfl Try.ntmps55 (Nat.le_of_ble_eq_true rfl) ?_
  refine st_seq ?_
  refine st_region ?_
  refine r_pure (.int .i64 0) rfl ?_
  refine r_seq ?_
  refine st_seq ?_
  refine st_seq ?_
  refine st_region ?_
  refine r_pure (.slice A1 s_.length c2) rfl ?_
  refine r_len Try.underlying34 rfl ?_
  refine r_pure (.int .i64 0) rfl ?_
  refine r_seq ?_
  refine st_block ?_
  have hlim32 := (hv4 _ H).lim
  obtain ⟨tl15, hl16, hm14⟩ := bind_some hm
  refine st_loopL (slices_IndexFunc_api_Line.l1 f_) (fun ys21 s ρ w => ∃ i17 : Int, ∃ dn18 : List api_Line, i17 = s ∧ s_ = dn18 ++ ys21 ∧ i17 = (dn18.length : Int) ∧ (∃ base, ρ = updl base [(0, .slice A1 s_.length c2), (1, .func (.func gf9) #[] (List.toArray gcap10)), (7, .int .i64 (s_.length : Int)), (8, .int .i64 i17)]) ∧ Hp w0 (Γ) w) hl16 ⟨0, [], rfl, rfl, rfl, upk (ac rfl (ac rfl (ac rfl (ac rfl an)))), H⟩ ?_
  rintro m ys21 IH25 s ρ w ⟨i17, dn18, rfl, hxs19, hi20, ⟨base, rfl⟩, H13⟩ hm
  rcases ys21 with _ | ⟨y22, ys21⟩
  · rw [slices_IndexFunc_api_Line.l1] at hm
    have hb26 := range_end hxs19 hi20
    refine st_seq ?_
    refine st_region ?_
    refine r_pure (.bool (decide (i17 < (s_.length : Int)))) rfl ?_
    refine r_seq ?_
    refine st_seq ?_
    refine st_condf hb26 rfl ?_
    have hq_ := Option.some.inj hm
    refine st_exit rfl ?_
    subst hq_
    refine n_sq ?_
    refine st_seq ?_
    refine st_region ?_
    refine r_pure (.int .i64 (-1)) rfl ?_
    refine r_seq ?_
    have hq_ := Option.some.inj hm14
    subst hq_
    refine st_ret1 rfl rfl (Nat.le_of_ble_eq_true rfl) rfl ?_
    exact ⟨rfl, H13⟩
  · rw [slices_IndexFunc_api_Line.l1] at hm
    have hb27 := range_in hxs19 hi20
    obtain ⟨h028, h129, hj30⟩ := range_ix hxs19 hi20
    have hnx31 := range_next hxs19 hi20 hlim32
    refine st_seq ?_
    refine st_region ?_
    refine r_pure (.bool (decide (i17 < (s_.length : Int)))) rfl ?_
    refine r_seq ?_
    refine st_seq ?_
    refine st_condt hb27 rfl ?_
    refine st_skip ?_
    refine n_sq ?_
    refine st_seq ?_
    refine st_block ?_
    refine st_seq ?_
    refine st_region ?_
    refine r_pure (.int .i64 i17) rfl ?_
    refine r_pure (.int .i64 i17) rfl ?_
    refine r_seq ?_
    refine st_seq ?_
    refine st_region ?_
    refine r_pure (.func (.func gf9) #[] (List.toArray gcap10)) rfl ?_
    refine r_pure (.slice A1 s_.length c2) rfl ?_
    refine r_pure (.int .i64 i17) rfl ?_
    have hA33 := (hv4 _ H13).adO hj30
    refine r_ix IX34 rfl rfl hA33 h028 h129 ?_
    refine r_ldA [.int .i64 y22.Account, .int .i64 y22.Amount] LD43 rfl rfl ((hv4 _ H13).csA hA33 hj30) ?_
    obtain ⟨y34, hy35, hm⟩ := bind_some hm
    refine r_callv rfl ge11 (gp12 _ _ hy35 _ _ H13 (fun _ H => H)) ?_
    rintro e38 wd37 ⟨rfl, H36⟩
    refine ⟨_, rfl, ?_⟩
    refine r_seq ?_
    rcases ite_some hm with ⟨hb39, hm⟩ | ⟨hb39, hm⟩
    · refine st_condt hb39 rfl ?_
      refine st_seq ?_
      refine st_region ?_
      refine r_pure (.int .i64 i17) rfl ?_
      refine r_pure (.int .i64 i17) rfl ?_
      refine r_seq ?_
      have hq_ := Option.some.inj hm
      subst hq_
      have hq_ := Option.some.inj (show some (i17 : Int) = some r0_ from hm14)
      subst hq_
      refine st_ret1 rfl rfl (Nat.le_of_ble_eq_true rfl) rfl ?_
      exact ⟨rfl, H36⟩
    · refine st_condf hb39 rfl ?_
      refine st_skip ?_
      refine n_bl ?_
      refine n_sq ?_
      refine st_region ?_
      refine r_pure (.int .i64 (w64 (i17 + 1))) rfl ?_
      refine r_pure (.int .i64 (w64 (i17 + 1))) rfl ?_
      refine r_nil ?_
      refine n_round (IH25 _ _ rfl _ _ _ ⟨i17 + 1, dn18 ++ [y22], rfl, range_more hxs19, range_len hi20, upk (ac rfl (ac rfl (ac rfl (ac hnx31 an)))), H36⟩ hm)

set_option maxHeartbeats 2000000 in
theorem slices_ContainsFunc_api_Line_ok {w0 w : World} {Γ : List (World → Prop)} (s_ : List api_Line) (A1 : Option Addr) (n6 c2 : Nat) (hn5 : n6 = s_.length) (hc3 : s_.length ≤ c2) (hv4 : ∀ u, Hp w0 Γ u → SlR K43 A1 s_ u) (fv7 : Value) (f_ : api_Line → Option Bool) (hp8 : FnOk Try.prog w0 Γ fv7 (fun x => [.agg #[.int .i64 x.Account, .int .i64 x.Amount]]) (fun r => .bool r) f_) (r0_ : Bool) (H : Hp w0 (Γ) w) (hm : slices_ContainsFunc_api_Line s_ f_ = some r0_) : Calls Try.prog 50 #[.slice A1 n6 c2, fv7] w (fun e w => e = .returned (.bool r0_) ∧ Hp w0 (Γ) w) := by
  subst hn5
  obtain ⟨gf9, gcap10, rfl, ge11, gp12⟩ := hp8
  unfold slices_ContainsFunc_api_Line at hm
  refine st_enter Try.func50 rfl Try.ntmps50 (Nat.le_of_ble_eq_true rfl) ?_
  refine st_seq ?_
  refine st_region ?_
  refine r_pure (.bool false) rfl ?_
  refine r_seq ?_
  refine st_seq ?_
  refine st_region ?_
  refine r_pure (.slice A1 s_.length c2) rfl ?_
  refine r_pure (.func (.func gf9) #[] (List.toArray gcap10)) rfl ?_
  obtain ⟨y13, hy14, hm⟩ := bind_some hm
  refine r_callf Try.call55 (slices_IndexFunc_api_Line_ok s_ A1 s_.length c2 rfl hc3 (fun _ H => (hv4 _ H)) (.func (.func gf9) #[] (List.toArray gcap10)) f_ ⟨gf9, gcap10, rfl, ge11, fun x y hy Δ w H hΔ => gp12 x y hy Δ w H (fun u hu => (hΔ u hu))⟩ y13 H hy14) ?_
  rintro e16 wd15 ⟨rfl, H18⟩
  refine ⟨_, rfl, ?_⟩
  refine r_pure (.bool (decide (y13 ≥ 0))) rfl ?_
  refine r_pure (.bool (decide (y13 ≥ 0))) rfl ?_
  refine r_seq ?_
  have hq_ := Option.some.inj hm
  subst hq_
  refine st_ret1 rfl rfl (Nat.le_of_ble_eq_true rfl) rfl ?_
  exact ⟨rfl, H18⟩

set_option maxHeartbeats 2000000 in
theorem journal_few_c1_ok {w0 w : World} {Γ : List (World → Prop)} (x_ : api_Line) (r0_ : Bool) (H : Hp w0 (Γ) w) (hm : journal_few_c1 x_ = some r0_) : Calls Try.prog 51 #[.agg #[.int .i64 x_.Account, .int .i64 x_.Amount]] w (fun e w => e = .returned (.bool r0_) ∧ Hp w0 (Γ) w) := by
  unfold journal_few_c1 at hm
  refine st_enter Try.func51 rfl Try.ntmps51 (Nat.le_of_ble_eq_true rfl) ?_
  refine st_seq ?_
  refine st_region ?_
  refine r_box [.int .i64 x_.Account, .int .i64 x_.Amount] H rfl ?_
  intro b1 wd3 H2
  refine r_pure (.bool false) rfl ?_
  refine r_seq ?_
  refine st_seq ?_
  refine st_region ?_
  refine r_fa FA43_1 ⟨b1, 1, none⟩ rfl rfl ?_
  refine r_ld1 (.int .i64 x_.Amount) LD3 rfl ((H2.g0).cell _ rfl) ?_
  obtain ⟨y4, hy5, hm⟩ := bind_some hm
  refine r_callf Try.call23 (rate_Money_ok x_.Amount y4 H2 hy5) ?_
  rintro e7 wd6 ⟨rfl, H9⟩
  refine ⟨_, rfl, ?_⟩
  refine r_pure (.bool (!y4)) rfl ?_
  refine r_pure (.bool (!y4)) rfl ?_
  refine r_seq ?_
  have hq_ := Option.some.inj hm
  subst hq_
  refine st_ret1 rfl rfl (Nat.le_of_ble_eq_true rfl) rfl ?_
  exact ⟨rfl, H9.d⟩

set_option maxHeartbeats 2000000 in
theorem journal_few_ok {w0 w : World} {Γ : List (World → Prop)} (lines : List api_Line) (A1 : Option Addr) (n6 c2 : Nat) (hn5 : n6 = lines.length) (hc3 : lines.length ≤ c2) (hv4 : ∀ u, Hp w0 Γ u → SlR K43 A1 lines u) (r0_ : Bool) (H : Hp w0 (Γ) w) (hm : journal_few lines = some r0_) : Calls Try.prog 41 #[.slice A1 n6 c2] w (fun e w => e = .returned (.bool r0_) ∧ Hp w0 (Γ) w) := by
  subst hn5
  unfold journal_few at hm
  refine st_enter Try.func41 rfl Try.ntmps41 (Nat.le_of_ble_eq_true rfl) ?_
  refine st_seq ?_
  refine st_region ?_
  refine r_pure (.bool false) rfl ?_
  refine r_seq ?_
  refine st_cut (fun ρ w => ∃ q7 : Bool, (∃ base, ρ = updl base [(2, .bool q7)]) ∧ Hp w0 (Γ) w ∧ journal_few.j1 q7 = some r0_) ?_ ?_
  · refine st_region ?_
    refine r_pure (.slice A1 lines.length c2) rfl ?_
    refine r_len Try.underlying34 rfl ?_
    refine r_pure (.bool (decide ((lines.length : Int) ≤ 40))) rfl ?_
    refine r_pure (.bool (decide ((lines.length : Int) ≤ 40))) rfl ?_
    rcases ite_some hm with ⟨hb9, hm⟩ | ⟨hb9, hm⟩
    · refine r_pure (.slice A1 lines.length c2) rfl ?_ (wn_t rfl rfl (by decide) rfl hb9)
      obtain ⟨y10, hy11, hm⟩ := bind_some hm
      refine r_callf Try.call50 (slices_ContainsFunc_api_Line_ok lines A1 lines.length c2 rfl hc3 (fun _ H => (hv4 _ H)) (.func (.func 51) #[] #[]) (fun x => journal_few_c1 x) ⟨51, [], rfl, Try.call51, fun x y hy Δ w H hΔ => journal_few_c1_ok x y H hy⟩ y10 H hy11) ?_ (wn_t rfl rfl (by decide) rfl hb9)
      rintro e13 wd12 ⟨rfl, H15⟩
      refine ⟨_, rfl, ?_⟩
      refine r_pure (.bool (!y10)) rfl ?_ (wn_t rfl rfl (by decide) rfl hb9)
      refine r_pick_t (.bool (!y10)) hb9 rfl rfl ?_
      refine r_pure (.bool (!y10)) rfl ?_
      refine r_nil ?_
      refine n_cut ⟨!y10, upk (ac rfl an), H15, hm⟩
    · refine r_not (wn_f rfl rfl (by decide) rfl hb9) ?_
      refine r_not (wn_f rfl rfl (by decide) rfl hb9) ?_
      refine r_not (wn_f rfl rfl (by decide) rfl hb9) ?_
      refine r_pick_f (.bool false) hb9 rfl rfl ?_
      refine r_pure (.bool false) rfl ?_
      refine r_nil ?_
      refine n_cut ⟨false, upk (ac rfl an), H, hm⟩
  · rintro ρ w ⟨q7, ⟨base, rfl⟩, H8, hm⟩
    unfold journal_few.j1 at hm
    have hq_ := Option.some.inj hm
    subst hq_
    refine st_ret1 rfl rfl (Nat.le_of_ble_eq_true rfl) rfl ?_
    exact ⟨rfl, H8⟩

set_option maxHeartbeats 2000000 in
theorem journal_sum_ok {w0 w : World} {Γ : List (World → Prop)} (lines : List api_Line) (A1 : Option Addr) (n6 c2 : Nat) (hn5 : n6 = lines.length) (hc3 : lines.length ≤ c2) (hv4 : ∀ u, Hp w0 Γ u → SlR K43 A1 lines u) (account : Int) (r0_ : Int) (H : Hp w0 (Γ) w) (hm : journal_sum lines account = some r0_) : Calls Try.prog 42 #[.slice A1 n6 c2, .int .i64 account] w (fun e w => e = .returned (.int .i64 r0_) ∧ Hp w0 (Γ) w) := by
  subst hn5
  unfold journal_sum at hm
  refine st_enter Try.func42 rfl Try.ntmps42 (Nat.le_of_ble_eq_true rfl) ?_
  refine st_seq ?_
  refine st_region ?_
  refine r_pure (.int .i64 0) rfl ?_
  refine r_seq ?_
  refine st_seq ?_
  refine st_region ?_
  refine r_pure (.int .i64 0) rfl ?_
  refine r_seq ?_
  refine st_seq ?_
  refine st_seq ?_
  refine st_region ?_
  refine r_pure (.slice A1 lines.length c2) rfl ?_
  refine r_len Try.underlying34 rfl ?_
  refine r_pure (.int .i64 0) rfl ?_
  refine r_seq ?_
  refine st_block ?_
  have hlim28 := (hv4 _ H).lim
  obtain ⟨tl11, hl12, hm10⟩ := bind_some hm
  refine st_loopL (journal_sum.l1 account) (fun ys17 s ρ w => ∃ i13 : Int, ∃ v8 : Int, ∃ dn14 : List api_Line, (i13, v8) = s ∧ lines = dn14 ++ ys17 ∧ i13 = (dn14.length : Int) ∧ (∃ base, ρ = updl base [(1, .int .i64 account), (5, .int .i64 v8), (8, .slice A1 lines.length c2), (9, .int .i64 (lines.length : Int)), (10, .int .i64 i13)]) ∧ Hp w0 (Γ) w) hl12 ⟨0, 0, [], rfl, rfl, rfl, upk (ac rfl (ac rfl (ac rfl (ac rfl (ac rfl an))))), H⟩ ?_
  rintro m ys17 IH21 s ρ w ⟨i13, v8, dn14, rfl, hxs15, hi16, ⟨base, rfl⟩, H9⟩ hm
  rcases ys17 with _ | ⟨y18, ys17⟩
  · rw [journal_sum.l1] at hm
    have hb22 := range_end hxs15 hi16
    refine st_seq ?_
    refine st_region ?_
    refine r_pure (.bool (decide (i13 < (lines.length : Int)))) rfl ?_
    refine r_seq ?_
    refine st_seq ?_
    refine st_condf hb22 rfl ?_
    have hq_ := Option.some.inj hm
    refine st_exit rfl ?_
    subst hq_
    refine n_sq ?_
    refine st_seq ?_
    refine st_region ?_
    refine r_pure (.int .i64 v8) rfl ?_
    refine r_pure (.int .i64 v8) rfl ?_
    refine r_seq ?_
    have hq_ := Option.some.inj hm10
    subst hq_
    refine st_ret1 rfl rfl (Nat.le_of_ble_eq_true rfl) rfl ?_
    exact ⟨rfl, H9⟩
  · rw [journal_sum.l1] at hm
    have hb23 := range_in hxs15 hi16
    obtain ⟨h024, h125, hj26⟩ := range_ix hxs15 hi16
    have hnx27 := range_next hxs15 hi16 hlim28
    refine st_seq ?_
    refine st_region ?_
    refine r_pure (.bool (decide (i13 < (lines.length : Int)))) rfl ?_
    refine r_seq ?_
    refine st_seq ?_
    refine st_condt hb23 rfl ?_
    refine st_skip ?_
    refine n_sq ?_
    refine st_cut (fun ρ w => ∃ v29 : Int, (∃ base, ρ = updl base [(1, .int .i64 account), (5, .int .i64 v29), (8, .slice A1 lines.length c2), (9, .int .i64 (lines.length : Int)), (10, .int .i64 i13)]) ∧ Hp w0 (Γ) w ∧ journal_sum.j1 (journal_sum.l1 account ys17) i13 v29 = some tl11) ?_ ?_
    · refine st_block ?_
      refine st_seq ?_
      refine st_region ?_
      have hA31 := (hv4 _ H9).adO hj26
      refine r_ix IX34 rfl rfl hA31 h024 h125 ?_
      refine r_ldA [.int .i64 y18.Account, .int .i64 y18.Amount] LD43 rfl rfl ((hv4 _ H9).csA hA31 hj26) ?_
      refine r_alloc [.int .i64 0, .int .i64 0] Try.zeroValue43 H9 rfl ?_
      intro b32 wd34 H33
      refine r_stA [.int .i64 y18.Account, .int .i64 y18.Amount] LD43 rfl rfl rfl rfl H33 (Nat.le_of_ble_eq_true rfl) rfl ?_
      intro wd36 H35
      refine r_seq ?_
      refine st_seq ?_
      refine st_region ?_
      refine r_fa FA43_0 ⟨b32, 0, none⟩ rfl rfl ?_
      refine r_ld1 (.int .i64 y18.Account) LD3 rfl ((H35.g0).cell _ rfl) ?_
      refine r_pure (.int .i64 account) rfl ?_
      refine r_pure (.bool (y18.Account == account)) rfl ?_
      refine r_seq ?_
      rcases ite_some hm with ⟨hb37, hm⟩ | ⟨hb37, hm⟩
      · refine st_condt hb37 rfl ?_
        refine st_region ?_
        refine r_pure (.int .i64 v8) rfl ?_
        refine r_fa FA43_1 ⟨b32, 1, none⟩ rfl rfl ?_
        refine r_ld1 (.int .i64 y18.Amount) LD3 rfl ((H35.g0).cell _ rfl) ?_
        refine r_pure (.int .i64 (w64 (v8 + y18.Amount))) rfl ?_
        refine r_pure (.int .i64 (w64 (v8 + y18.Amount))) rfl ?_
        refine r_nil ?_
        refine n_bl ?_
        refine n_cut ⟨w64 (v8 + y18.Amount), upk (ac rfl (ac rfl (ac rfl (ac rfl (ac rfl an))))), H35.d, hm⟩
      · refine st_condf hb37 rfl ?_
        refine st_skip ?_
        refine n_bl ?_
        refine n_cut ⟨v8, upk (ac rfl (ac rfl (ac rfl (ac rfl (ac rfl an))))), H35.d, hm⟩
    · rintro ρ w ⟨v29, ⟨base, rfl⟩, H30, hm⟩
      unfold journal_sum.j1 at hm
      refine st_region ?_
      refine r_pure (.int .i64 (w64 (i13 + 1))) rfl ?_
      refine r_pure (.int .i64 (w64 (i13 + 1))) rfl ?_
      refine r_nil ?_
      refine n_round (IH21 _ _ rfl _ _ _ ⟨i13 + 1, v29, dn14 ++ [y18], rfl, range_more hxs15, range_len hi16, upk (ac rfl (ac rfl (ac rfl (ac rfl (ac hnx27 an))))), H30⟩ hm)

set_option maxHeartbeats 2000000 in
theorem journal_Net_ok {w0 w : World} {Γ : List (World → Prop)} (lines : List api_Line) (A1 : Option Addr) (n6 c2 : Nat) (hn5 : n6 = lines.length) (hc3 : lines.length ≤ c2) (hv4 : ∀ u, Hp w0 Γ u → SlR K43 A1 lines u) (account : Int) (r0_ : Int) (H : Hp w0 (Γ) w) (hm : journal_Net lines account = some r0_) : Calls Try.prog 32 #[.slice A1 n6 c2, .int .i64 account] w (fun e w => e = .returned (.int .i64 r0_) ∧ Hp w0 (Γ) w) := by
  subst hn5
  unfold journal_Net at hm
  refine st_enter Try.func32 rfl Try.ntmps32 (Nat.le_of_ble_eq_true rfl) ?_
  refine st_seq ?_
  refine st_region ?_
  refine r_pure (.int .i64 0) rfl ?_
  refine r_seq ?_
  refine st_seq ?_
  refine st_seq ?_
  refine st_region ?_
  refine r_pure (.slice A1 lines.length c2) rfl ?_
  obtain ⟨y7, hy8, hm⟩ := bind_some hm
  refine r_callf Try.call41 (journal_few_ok lines A1 lines.length c2 rfl hc3 (fun _ H => (hv4 _ H)) y7 H hy8) ?_
  rintro e10 wd9 ⟨rfl, H12⟩
  refine ⟨_, rfl, ?_⟩
  refine r_pure (.bool (!y7)) rfl ?_
  refine r_seq ?_
  rcases ite_some hm with ⟨hb13, hm⟩ | ⟨hb13, hm⟩
  · refine st_condt hb13 rfl ?_
    refine st_seq ?_
    refine st_region ?_
    refine r_pure (.int .i64 0) rfl ?_
    refine r_seq ?_
    have hq_ := Option.some.inj hm
    subst hq_
    refine st_ret1 rfl rfl (Nat.le_of_ble_eq_true rfl) rfl ?_
    exact ⟨rfl, H12⟩
  · refine st_condf hb13 rfl ?_
    refine st_skip ?_
    refine n_sq ?_
    refine st_seq ?_
    refine st_region ?_
    refine r_pure (.slice A1 lines.length c2) rfl ?_
    refine r_pure (.int .i64 account) rfl ?_
    obtain ⟨y14, hy15, hm⟩ := bind_some hm
    refine r_callf Try.call42 (journal_sum_ok lines A1 lines.length c2 rfl hc3 (fun _ H => (hv4 _ H)) account y14 H12 hy15) ?_
    rintro e17 wd16 ⟨rfl, H19⟩
    refine ⟨_, rfl, ?_⟩
    refine r_pure (.int .i64 y14) rfl ?_
    refine r_seq ?_
    have hq_ := Option.some.inj hm
    subst hq_
    refine st_ret1 rfl rfl (Nat.le_of_ble_eq_true rfl) rfl ?_
    exact ⟨rfl, H19⟩

set_option maxHeartbeats 2000000 in
theorem store_Store_Balance_ok {w0 w : World} {Γ : List (World → Prop)} (b1 : Nat) (s_ : store_Store) (A2 : Option Addr) (n7 c3 : Nat) (hn6 : n7 = s_.f_l.length) (hc4 : s_.f_l.length ≤ c3) (ads8 : Nat → Option Addr × Nat) (hv5 : ∀ u, Hp w0 Γ u → SlRN (fun j => KN37 (ads8 j)) 6 A2 s_.f_l u) (hin9 : ∀ j x, s_.f_l[j]? = some x → x.Lines.length ≤ (ads8 j).2 ∧ ∀ u, Hp w0 Γ u → SlR K43 (ads8 j).1 x.Lines u) (hv10 : ∀ u, Hp w0 Γ u → Bx b1 52 [.slice A2 n7 c3] u) (entity : ByteArray) (account : Int) (upto : Int) (r0_ : Int) (H : Hp w0 (Γ) w) (hm : store_Store_Balance s_ entity account upto = some r0_) : Calls Try.prog 16 #[.pointer (some ⟨b1, 0, none⟩), .string entity, .int .i64 account, .int .i64 upto] w (fun e w => e = .returned (.int .i64 r0_) ∧ Hp w0 (Γ) w) := by
  subst hn6
  unfold store_Store_Balance at hm
  refine st_enter Try.func16 rfl Try.ntmps16 (Nat.le_of_ble_eq_true rfl) ?_
  refine st_seq ?_
  refine st_region ?_
  refine r_pure (.int .i64 0) rfl ?_
  refine r_seq ?_
  refine st_seq ?_
  refine st_region ?_
  refine r_pure (.int .i64 0) rfl ?_
  refine r_seq ?_
  refine st_seq ?_
  refine st_seq ?_
  refine st_region ?_
  refine r_pure (.pointer (some ⟨b1, 0, none⟩)) rfl ?_
  refine r_pure (.pointer (some ⟨b1, 0, none⟩)) rfl ?_
  refine r_fa FA52_0 ⟨b1, 0, none⟩ rfl rfl ?_
  refine r_ld1 (.slice A2 s_.f_l.length c3) LD26 rfl ((hv10 _ H).cell _ rfl) ?_
  refine r_len Try.underlying26 rfl ?_
  refine r_pure (.int .i64 0) rfl ?_
  refine r_seq ?_
  refine st_block ?_
  have hlim32 := (hv5 _ H).lim
  obtain ⟨tl15, hl16, hm14⟩ := bind_some hm
  refine st_loopL (store_Store_Balance.l1 entity account upto) (fun ys21 s ρ w => ∃ i17 : Int, ∃ v12 : Int, ∃ dn18 : List api_Journal, (i17, v12) = s ∧ s_.f_l = dn18 ++ ys21 ∧ i17 = (dn18.length : Int) ∧ (∃ base, ρ = updl base [(1, .string entity), (2, .int .i64 account), (3, .int .i64 upto), (9, .int .i64 v12), (15, .slice A2 s_.f_l.length c3), (16, .int .i64 (s_.f_l.length : Int)), (17, .int .i64 i17)]) ∧ Hp w0 (Γ) w) hl16 ⟨0, 0, [], rfl, rfl, rfl, upk (ac rfl (ac rfl (ac rfl (ac rfl (ac rfl (ac rfl (ac rfl an))))))), H⟩ ?_
  rintro m ys21 IH25 s ρ w ⟨i17, v12, dn18, rfl, hxs19, hi20, ⟨base, rfl⟩, H13⟩ hm
  rcases ys21 with _ | ⟨y22, ys21⟩
  · rw [store_Store_Balance.l1] at hm
    have hb26 := range_end hxs19 hi20
    refine st_seq ?_
    refine st_region ?_
    refine r_pure (.bool (decide (i17 < (s_.f_l.length : Int)))) rfl ?_
    refine r_seq ?_
    refine st_seq ?_
    refine st_condf hb26 rfl ?_
    have hq_ := Option.some.inj hm
    refine st_exit rfl ?_
    subst hq_
    refine n_sq ?_
    refine st_seq ?_
    refine st_region ?_
    refine r_pure (.int .i64 v12) rfl ?_
    refine r_pure (.int .i64 v12) rfl ?_
    refine r_seq ?_
    have hq_ := Option.some.inj hm14
    subst hq_
    refine st_ret1 rfl rfl (Nat.le_of_ble_eq_true rfl) rfl ?_
    exact ⟨rfl, H13⟩
  · rw [store_Store_Balance.l1] at hm
    have hb27 := range_in hxs19 hi20
    obtain ⟨h028, h129, hj30⟩ := range_ix hxs19 hi20
    have hnx31 := range_next hxs19 hi20 hlim32
    refine st_seq ?_
    refine st_region ?_
    refine r_pure (.bool (decide (i17 < (s_.f_l.length : Int)))) rfl ?_
    refine r_seq ?_
    refine st_seq ?_
    refine st_condt hb27 rfl ?_
    refine st_skip ?_
    refine n_sq ?_
    refine st_cut (fun ρ w => ∃ v33 : Int, (∃ base, ρ = updl base [(1, .string entity), (2, .int .i64 account), (3, .int .i64 upto), (9, .int .i64 v33), (15, .slice A2 s_.f_l.length c3), (16, .int .i64 (s_.f_l.length : Int)), (17, .int .i64 i17)]) ∧ Hp w0 (Γ) w ∧ store_Store_Balance.j1 (store_Store_Balance.l1 entity account upto ys21) i17 v33 = some tl15) ?_ ?_
    · refine st_block ?_
      refine st_seq ?_
      refine st_region ?_
      have hA35 := (hv5 _ H13).adO hj30
      refine r_ix IX26 rfl rfl hA35 h028 h129 ?_
      refine r_ldA [.int .i64 y22.Seq, .string y22.Entity, .int .i64 y22.Period, .int .i64 y22.Kind, .int .i64 y22.Of, .slice ((ads8 (Int.toNat i17)).1) y22.Lines.length ((ads8 (Int.toNat i17)).2)] LD37 rfl rfl ((hv5 _ H13).csA hA35 hj30) ?_
      refine r_alloc [.int .i64 0, .string ⟨#[]⟩, .int .i64 0, .int .i64 0, .int .i64 0, .slice none 0 0] Try.zeroValue37 H13 rfl ?_
      intro b36 wd38 H37
      refine r_stA [.int .i64 y22.Seq, .string y22.Entity, .int .i64 y22.Period, .int .i64 y22.Kind, .int .i64 y22.Of, .slice ((ads8 (Int.toNat i17)).1) y22.Lines.length ((ads8 (Int.toNat i17)).2)] LD37 rfl rfl rfl rfl H37 (Nat.le_of_ble_eq_true rfl) rfl ?_
      intro wd40 H39
      refine r_seq ?_
      refine st_cut (fun ρ w => ∃ q41 : Bool, (∃ base, ρ = updl base [(1, .string entity), (2, .int .i64 account), (3, .int .i64 upto), (9, .int .i64 v12), (11, .pointer (some ⟨b36, 0, none⟩)), (15, .slice A2 s_.f_l.length c3), (16, .int .i64 (s_.f_l.length : Int)), (17, .int .i64 i17), (30, .bool q41)]) ∧ Hp w0 (Bx b36 37 [.int .i64 y22.Seq, .string y22.Entity, .int .i64 y22.Period, .int .i64 y22.Kind, .int .i64 y22.Of, .slice ((ads8 (Int.toNat i17)).1) y22.Lines.length ((ads8 (Int.toNat i17)).2)] :: Γ) w ∧ store_Store_Balance.j2 y22 account (store_Store_Balance.l1 entity account upto ys21) i17 v12 q41 = some tl15) ?_ ?_
      · refine st_region ?_
        refine r_fa FA37_1 ⟨b36, 1, none⟩ rfl rfl ?_
        refine r_ld1 (.string y22.Entity) LD9 rfl ((H39.g0).cell _ rfl) ?_
        refine r_pure (.string entity) rfl ?_
        refine r_pure (.bool ((y22.Entity).toList == (entity).toList)) rfl ?_
        refine r_pure (.bool ((y22.Entity).toList == (entity).toList)) rfl ?_
        rcases ite_some hm with ⟨hb50, hm⟩ | ⟨hb50, hm⟩
        · refine r_fa FA37_2 ⟨b36, 2, none⟩ rfl rfl ?_ (wn_t rfl rfl (by decide) rfl hb50)
          refine r_ld1 (.int .i64 y22.Period) LD3 rfl ((H39.g0).cell _ rfl) ?_ (wn_t rfl rfl (by decide) rfl hb50)
          refine r_pure (.int .i64 upto) rfl ?_ (wn_t rfl rfl (by decide) rfl hb50)
          refine r_pure (.bool (decide (y22.Period ≤ upto))) rfl ?_ (wn_t rfl rfl (by decide) rfl hb50)
          refine r_pick_t (.bool (decide (y22.Period ≤ upto))) hb50 rfl rfl ?_
          refine r_nil ?_
          refine n_cut ⟨decide (y22.Period ≤ upto), upk (ac rfl (ac rfl (ac rfl (ac rfl (ac rfl (ac rfl (ac rfl (ac rfl (ac rfl an))))))))), H39, hm⟩
        · refine r_not (wn_f rfl rfl (by decide) rfl hb50) ?_
          refine r_not (wn_f rfl rfl (by decide) rfl hb50) ?_
          refine r_not (wn_f rfl rfl (by decide) rfl hb50) ?_
          refine r_not (wn_f rfl rfl (by decide) rfl hb50) ?_
          refine r_pick_f (.bool false) hb50 rfl rfl ?_
          refine r_nil ?_
          refine n_cut ⟨false, upk (ac rfl (ac rfl (ac rfl (ac rfl (ac rfl (ac rfl (ac rfl (ac rfl (ac rfl an))))))))), H39, hm⟩
      · rintro ρ w ⟨q41, ⟨base, rfl⟩, H42, hm⟩
        unfold store_Store_Balance.j2 at hm
        rcases ite_some hm with ⟨hb43, hm⟩ | ⟨hb43, hm⟩
        · refine st_condt hb43 rfl ?_
          refine st_region ?_
          refine r_pure (.int .i64 v12) rfl ?_
          refine r_fa FA37_5 ⟨b36, 5, none⟩ rfl rfl ?_
          refine r_ld1 (.slice ((ads8 (Int.toNat i17)).1) y22.Lines.length ((ads8 (Int.toNat i17)).2)) LD34 rfl ((H42.g0).cell _ rfl) ?_
          refine r_pure (.int .i64 account) rfl ?_
          obtain ⟨y44, hy45, hm⟩ := bind_some hm
          refine r_callf Try.call32 (journal_Net_ok y22.Lines ((ads8 (Int.toNat i17)).1) y22.Lines.length ((ads8 (Int.toNat i17)).2) rfl (hin9 _ _ hj30).1 (fun _ H => ((hin9 _ _ hj30).2 _ H.d)) account y44 H42 hy45) ?_
          rintro e47 wd46 ⟨rfl, H49⟩
          refine ⟨_, rfl, ?_⟩
          refine r_pure (.int .i64 (w64 (v12 + y44))) rfl ?_
          refine r_pure (.int .i64 (w64 (v12 + y44))) rfl ?_
          refine r_nil ?_
          refine n_bl ?_
          refine n_cut ⟨w64 (v12 + y44), upk (ac rfl (ac rfl (ac rfl (ac rfl (ac rfl (ac rfl (ac rfl an))))))), H49.d, hm⟩
        · refine st_condf hb43 rfl ?_
          refine st_skip ?_
          refine n_bl ?_
          refine n_cut ⟨v12, upk (ac rfl (ac rfl (ac rfl (ac rfl (ac rfl (ac rfl (ac rfl an))))))), H42.d, hm⟩
    · rintro ρ w ⟨v33, ⟨base, rfl⟩, H34, hm⟩
      unfold store_Store_Balance.j1 at hm
      refine st_region ?_
      refine r_pure (.int .i64 (w64 (i17 + 1))) rfl ?_
      refine r_pure (.int .i64 (w64 (i17 + 1))) rfl ?_
      refine r_nil ?_
      refine n_round (IH25 _ _ rfl _ _ _ ⟨i17 + 1, v33, dn18 ++ [y22], rfl, range_more hxs19, range_len hi20, upk (ac rfl (ac rfl (ac rfl (ac rfl (ac rfl (ac rfl (ac hnx31 an))))))), H34⟩ hm)

set_option maxHeartbeats 2000000 in
theorem slices_Clone_api_Line_ok {w0 w : World} {Γ : List (World → Prop)} (s_ : List api_Line) (A1 : Option Addr) (n6 c2 : Nat) (hn5 : n6 = s_.length) (hc3 : s_.length ≤ c2) (hv4 : ∀ u, Hp w0 Γ u → SlR K43 A1 s_ u) (r0_ : List api_Line) (H : Hp w0 (Γ) w) (hm : slices_Clone_api_Line s_ = some r0_) : Calls Try.prog 37 #[.slice A1 n6 c2] w (fun e w => ∃ (Ax1 : Option Addr) (nx2 cx3 : Nat), e = .returned (.slice Ax1 nx2 cx3) ∧ Hp w0 (Row K43 (.slice Ax1 nx2 cx3) r0_ :: Γ) w) := by
  subst hn5
  unfold slices_Clone_api_Line at hm
  refine st_enter Try.func37 rfl Try.ntmps37 (Nat.le_of_ble_eq_true rfl) ?_
  refine st_seq ?_
  refine st_region ?_
  refine r_pure (.slice none 0 0) rfl ?_
  refine r_seq ?_
  refine st_seq ?_
  refine st_seq ?_
  refine st_region ?_
  refine r_pure (.slice A1 s_.length c2) rfl ?_
  rcases A1 with _ | ad7
  · obtain rfl := (hv4 _ H).none_nil
    have hm : some ([] : List api_Line) = some r0_ := hm
    refine r_eqsn Try.underlying34 rfl rfl rfl ?_
    refine r_seq ?_
    refine st_condt rfl rfl ?_
    refine st_seq ?_
    refine st_region ?_
    refine r_pure (.slice none 0 0) rfl ?_
    refine r_seq ?_
    have H8 := H.add (A := Row K43 (.slice none 0 0) []) Row.nil
    have hq_ := Option.some.inj hm
    subst hq_
    refine st_ret1 rfl rfl (Nat.le_of_ble_eq_true rfl) rfl ?_
    exact ⟨none, 0, 0, rfl, H8⟩
  · refine r_eqsn Try.underlying34 rfl rfl rfl ?_
    refine r_seq ?_
    refine st_condf rfl rfl ?_
    refine st_skip ?_
    refine n_sq ?_
    refine st_seq ?_
    refine st_region ?_
    refine r_buildSlice (K := K43) ([] : List api_Line) EL34 rfl rfl rfl (by decide) (by decide) rfl H ?_
    intro b9 wd11 H10
    refine r_pure (.slice (some ad7) s_.length c2) rfl ?_
    obtain ⟨hf12, hm⟩ := gd_some hm
    refine r_append (K := K43) (ys := s_) AP34 rfl rfl rfl rfl H10 ((hv4 _ H10.d).src) (fit_le hf12 (by decide)) ?_
    intro A13 c14 wd15 H16
    refine r_pure (.slice A13 ((([] : List api_Line) ++ s_).length) c14) rfl ?_
    refine r_seq ?_
    have hq_ := Option.some.inj hm
    subst hq_
    refine st_ret1 rfl rfl (Nat.le_of_ble_eq_true rfl) rfl ?_
    exact ⟨A13, (([] : List api_Line) ++ s_).length, c14, rfl, H16⟩

set_option maxHeartbeats 2000000 in
theorem store_own_ok {w0 w : World} {Γ : List (World → Prop)} (j_ : api_Journal) (A1 : Option Addr) (n6 c2 : Nat) (hn5 : n6 = j_.Lines.length) (hc3 : j_.Lines.length ≤ c2) (hv4 : ∀ u, Hp w0 Γ u → SlR K43 A1 j_.Lines u) (r0_ : api_Journal) (H : Hp w0 (Γ) w) (hm : store_own j_ = some r0_) : Calls Try.prog 24 #[.agg #[.int .i64 j_.Seq, .string j_.Entity, .int .i64 j_.Period, .int .i64 j_.Kind, .int .i64 j_.Of, .slice A1 n6 c2]] w (fun e w => ∃ (Ax1 : Option Addr) (nx2 cx3 : Nat), e = .returned (.agg #[.int .i64 r0_.Seq, .string r0_.Entity, .int .i64 r0_.Period, .int .i64 r0_.Kind, .int .i64 r0_.Of, .slice Ax1 nx2 cx3]) ∧ Hp w0 (Row K43 (.slice Ax1 nx2 cx3) r0_.Lines :: Γ) w) := by
  subst hn5
  unfold store_own at hm
  refine st_enter Try.func24 rfl Try.ntmps24 (Nat.le_of_ble_eq_true rfl) ?_
  refine st_seq ?_
  refine st_region ?_
  refine r_box [.int .i64 j_.Seq, .string j_.Entity, .int .i64 j_.Period, .int .i64 j_.Kind, .int .i64 j_.Of, .slice A1 j_.Lines.length c2] H rfl ?_
  intro b7 wd9 H8
  refine r_alloc [.int .i64 0, .string ⟨#[]⟩, .int .i64 0, .int .i64 0, .int .i64 0, .slice none 0 0] Try.zeroValue37 H8 rfl ?_
  intro b10 wd12 H11
  refine r_seq ?_
  refine st_seq ?_
  refine st_region ?_
  refine r_fa FA37_5 ⟨b7, 5, none⟩ rfl rfl ?_
  refine r_ld1 (.slice A1 j_.Lines.length c2) LD34 rfl ((H11.g1).cell _ rfl) ?_
  obtain ⟨y13, hy14, hm⟩ := bind_some hm
  refine r_callf Try.call37 (slices_Clone_api_Line_ok j_.Lines A1 j_.Lines.length c2 rfl hc3 (fun _ H => (hv4 _ H.d.d)) y13 H11 hy14) ?_
  rintro e16 wd15 ⟨A19, n20, c21, rfl, H18⟩
  obtain rfl := (H18.g0).leneq
  refine ⟨_, rfl, ?_⟩
  refine r_fa FA37_5 ⟨b7, 5, none⟩ rfl rfl ?_
  refine r_st1 LD34 rfl rfl rfl H18.u2 rfl ?_
  intro wd23 H22
  refine r_seq ?_
  refine st_seq ?_
  refine st_region ?_
  refine r_ldA [.int .i64 j_.Seq, .string j_.Entity, .int .i64 j_.Period, .int .i64 j_.Kind, .int .i64 j_.Of, .slice A19 y13.length c21] LD37 rfl rfl ((H22.g0).cells rfl) ?_
  refine r_stA [.int .i64 j_.Seq, .string j_.Entity, .int .i64 j_.Period, .int .i64 j_.Kind, .int .i64 j_.Of, .slice A19 y13.length c21] LD37 rfl rfl rfl rfl H22.u2 (Nat.le_of_ble_eq_true rfl) rfl ?_
  intro wd25 H24
  refine r_seq ?_
  have hq_ := Option.some.inj hm
  subst hq_
  refine st_ret1c [.int .i64 j_.Seq, .string j_.Entity, .int .i64 j_.Period, .int .i64 j_.Kind, .int .i64 j_.Of, .slice A19 y13.length c21] rfl rfl (Nat.le_of_ble_eq_true rfl) rfl LD37 rfl ((H24.g0).cells rfl) ?_
  exact ⟨A19, y13.length, c21, rfl, H24.d.d⟩

set_option maxHeartbeats 2000000 in
theorem store_Store_Post_ok {w0 w : World} {Γ : List (World → Prop)} (b1 : Nat) (s_ : store_Store) (A2 : Option Addr) (c3 : Nat) (av4 : Value) (entity : ByteArray) (p : Int) (kind : Int) (of_ : Int) (lines : List api_Line) (A5 : Option Addr) (n10 c6 : Nat) (hn9 : n10 = lines.length) (hc7 : lines.length ≤ c6) (hv8 : ∀ u, Hp w0 Γ u → SlR K43 A5 lines u) (r0_ : Int) (r1_ : Int) (r2_ : store_Store) (H : Hp w0 (Bx b1 52 [.slice A2 s_.f_l.length c3] :: RwN NK37 (.slice A2 s_.f_l.length c3) s_.f_l av4 :: Ins NK37 s_.f_l av4 :: Γ) w) (hm : store_Store_Post s_ entity p kind of_ lines = some (r0_, r1_, r2_)) : Calls Try.prog 9 #[.pointer (some ⟨b1, 0, none⟩), .string entity, .int .i64 p, .int .i64 kind, .int .i64 of_, .slice A5 n10 c6] w (fun e w => ∃ (Ax1 : Option Addr) (nx2 cx3 : Nat), ∃ (avx4 : Value), e = .returned (.tuple #[.int .i64 r0_, .int .i64 r1_]) ∧ Hp w0 (Bx b1 52 [.slice Ax1 nx2 cx3] :: RwN NK37 (.slice Ax1 nx2 cx3) r2_.f_l avx4 :: Ins NK37 r2_.f_l avx4 :: Γ) w) := by
  subst hn9
  unfold store_Store_Post at hm
  refine st_enter Try.func9 rfl Try.ntmps9 (Nat.le_of_ble_eq_true rfl) ?_
  refine st_seq ?_
  refine st_region ?_
  refine r_pure (.int .i64 0) rfl ?_
  refine r_pure (.int .i64 0) rfl ?_
  refine r_seq ?_
  refine st_seq ?_
  refine st_cut (fun ρ w => ∃ q11 : Bool, (∃ base, ρ = updl base [(0, .pointer (some ⟨b1, 0, none⟩)), (1, .string entity), (2, .int .i64 p), (3, .int .i64 kind), (4, .int .i64 of_), (5, .slice A5 lines.length c6), (40, .bool q11)]) ∧ Hp w0 (RwN NK37 (.slice A2 s_.f_l.length c3) s_.f_l av4 :: Ins NK37 s_.f_l av4 :: Bx b1 52 [.slice A2 s_.f_l.length c3] :: Γ) w ∧ store_Store_Post.j1 s_ entity p kind of_ lines q11 = some (r0_, r1_, r2_)) ?_ ?_
  · refine st_region ?_
    refine r_pure (.string entity) rfl ?_
    refine r_pure (.bool ((entity).toList == ((⟨#[]⟩ : ByteArray)).toList)) rfl ?_
    refine r_pure (.bool ((entity).toList == ((⟨#[]⟩ : ByteArray)).toList)) rfl ?_
    rcases ite_some hm with ⟨hb295, hm⟩ | ⟨hb295, hm⟩
    · refine r_not (wn_f rfl rfl (by decide) rfl hb295) ?_
      refine r_not (wn_f rfl rfl (by decide) rfl hb295) ?_
      refine r_not (wn_f rfl rfl (by decide) rfl hb295) ?_
      refine r_pick_t (.bool true) hb295 rfl rfl ?_
      refine r_pure (.bool true) rfl ?_
      refine r_not (wn_f rfl rfl (by decide) rfl rfl) ?_
      refine r_not (wn_f rfl rfl (by decide) rfl rfl) ?_
      refine r_not (wn_f rfl rfl (by decide) rfl rfl) ?_
      refine r_not (wn_u rfl rfl (by decide) rfl rfl) ?_
      refine r_not (wn_u rfl rfl (by decide) rfl rfl) ?_
      refine r_not (wn_f rfl rfl (by decide) rfl rfl) ?_
      refine r_pick_t (.bool true) rfl rfl rfl ?_
      refine r_pure (.bool true) rfl ?_
      refine r_not (wn_f rfl rfl (by decide) rfl rfl) ?_
      refine r_not (wn_f rfl rfl (by decide) rfl rfl) ?_
      refine r_not (wn_f rfl rfl (by decide) rfl rfl) ?_
      refine r_not (wn_u rfl rfl (by decide) rfl rfl) ?_
      refine r_not (wn_u rfl rfl (by decide) rfl rfl) ?_
      refine r_not (wn_f rfl rfl (by decide) rfl rfl) ?_
      refine r_pick_t (.bool true) rfl rfl rfl ?_
      refine r_nil ?_
      refine n_cut ⟨true, upk (ac rfl (ac rfl (ac rfl (ac rfl (ac rfl (ac rfl (ac rfl an))))))), H.u2.u2, hm⟩
    · refine r_pure (.int .i64 p) rfl ?_ (wn_t rfl rfl (by decide) rfl hb295)
      obtain ⟨y296, hy297, hm⟩ := bind_some hm
      refine r_callf Try.call21 (period_Right_ok p y296 H hy297) ?_ (wn_t rfl rfl (by decide) rfl hb295)
      rintro e299 wd298 ⟨rfl, H301⟩
      refine ⟨_, rfl, ?_⟩
      refine r_pure (.bool (!y296)) rfl ?_ (wn_t rfl rfl (by decide) rfl hb295)
      refine r_pick_f (.bool (!y296)) hb295 rfl rfl ?_
      refine r_pure (.bool (!y296)) rfl ?_
      rcases ite_some hm with ⟨hb302, hm⟩ | ⟨hb302, hm⟩
      · refine r_not (wn_f rfl rfl (by decide) rfl hb302) ?_
        refine r_not (wn_f rfl rfl (by decide) rfl hb302) ?_
        refine r_not (wn_f rfl rfl (by decide) rfl hb302) ?_
        refine r_not (wn_u rfl rfl (by decide) rfl rfl) ?_
        refine r_not (wn_u rfl rfl (by decide) rfl rfl) ?_
        refine r_not (wn_f rfl rfl (by decide) rfl hb302) ?_
        refine r_pick_t (.bool true) hb302 rfl rfl ?_
        refine r_pure (.bool true) rfl ?_
        refine r_not (wn_f rfl rfl (by decide) rfl rfl) ?_
        refine r_not (wn_f rfl rfl (by decide) rfl rfl) ?_
        refine r_not (wn_f rfl rfl (by decide) rfl rfl) ?_
        refine r_not (wn_u rfl rfl (by decide) rfl rfl) ?_
        refine r_not (wn_u rfl rfl (by decide) rfl rfl) ?_
        refine r_not (wn_f rfl rfl (by decide) rfl rfl) ?_
        refine r_pick_t (.bool true) rfl rfl rfl ?_
        refine r_nil ?_
        refine n_cut ⟨true, upk (ac rfl (ac rfl (ac rfl (ac rfl (ac rfl (ac rfl (ac rfl an))))))), H301.u2.u2, hm⟩
      · refine r_pure (.int .i64 kind) rfl ?_ (wn_t rfl rfl (by decide) rfl hb302)
        refine r_pure (.bool (kind != 1)) rfl ?_ (wn_t rfl rfl (by decide) rfl hb302)
        refine r_pure (.bool (kind != 1)) rfl ?_ (wn_t rfl rfl (by decide) rfl hb302)
        rcases ite_some hm with ⟨hb303, hm⟩ | ⟨hb303, hm⟩
        · refine r_pure (.int .i64 kind) rfl ?_ (wn_t rfl rfl (by decide) rfl hb303)
          refine r_pure (.bool (kind != 2)) rfl ?_ (wn_t rfl rfl (by decide) rfl hb303)
          refine r_pick_t (.bool (kind != 2)) hb303 rfl rfl ?_ (wn_t rfl rfl (by decide) rfl hb302)
          refine r_pick_f (.bool (kind != 2)) hb302 rfl rfl ?_
          refine r_pure (.bool (kind != 2)) rfl ?_
          rcases ite_some hm with ⟨hb304, hm⟩ | ⟨hb304, hm⟩
          · refine r_not (wn_f rfl rfl (by decide) rfl hb304) ?_
            refine r_not (wn_f rfl rfl (by decide) rfl hb304) ?_
            refine r_not (wn_f rfl rfl (by decide) rfl hb304) ?_
            refine r_not (wn_u rfl rfl (by decide) rfl rfl) ?_
            refine r_not (wn_u rfl rfl (by decide) rfl rfl) ?_
            refine r_not (wn_f rfl rfl (by decide) rfl hb304) ?_
            refine r_pick_t (.bool true) hb304 rfl rfl ?_
            refine r_nil ?_
            refine n_cut ⟨true, upk (ac rfl (ac rfl (ac rfl (ac rfl (ac rfl (ac rfl (ac rfl an))))))), H301.u2.u2, hm⟩
          · refine r_pure (.int .i64 kind) rfl ?_ (wn_t rfl rfl (by decide) rfl hb304)
            refine r_pure (.bool (kind == 1)) rfl ?_ (wn_t rfl rfl (by decide) rfl hb304)
            refine r_pure (.bool (kind == 1)) rfl ?_ (wn_t rfl rfl (by decide) rfl hb304)
            rcases ite_some hm with ⟨hb305, hm⟩ | ⟨hb305, hm⟩
            · refine r_pure (.int .i64 of_) rfl ?_ (wn_t rfl rfl (by decide) rfl hb305)
              refine r_pure (.bool (of_ != 0)) rfl ?_ (wn_t rfl rfl (by decide) rfl hb305)
              refine r_pick_t (.bool (of_ != 0)) hb305 rfl rfl ?_ (wn_t rfl rfl (by decide) rfl hb304)
              refine r_pick_f (.bool (of_ != 0)) hb304 rfl rfl ?_
              refine r_nil ?_
              refine n_cut ⟨of_ != 0, upk (ac rfl (ac rfl (ac rfl (ac rfl (ac rfl (ac rfl (ac rfl an))))))), H301.u2.u2, hm⟩
            · refine r_not (wn_f rfl rfl (by decide) rfl hb305) ?_
              refine r_not (wn_f rfl rfl (by decide) rfl hb305) ?_
              refine r_pick_f (.bool false) hb305 rfl rfl ?_ (wn_t rfl rfl (by decide) rfl hb304)
              refine r_pick_f (.bool false) hb304 rfl rfl ?_
              refine r_nil ?_
              refine n_cut ⟨false, upk (ac rfl (ac rfl (ac rfl (ac rfl (ac rfl (ac rfl (ac rfl an))))))), H301.u2.u2, hm⟩
        · refine r_not (wn_f rfl rfl (by decide) rfl hb303) ?_
          refine r_not (wn_f rfl rfl (by decide) rfl hb303) ?_
          refine r_pick_f (.bool false) hb303 rfl rfl ?_ (wn_t rfl rfl (by decide) rfl hb302)
          refine r_pick_f (.bool false) hb302 rfl rfl ?_
          refine r_pure (.bool false) rfl ?_
          refine r_pure (.int .i64 kind) rfl ?_ (wn_t rfl rfl (by decide) rfl rfl)
          refine r_pure (.bool (kind == 1)) rfl ?_ (wn_t rfl rfl (by decide) rfl rfl)
          refine r_pure (.bool (kind == 1)) rfl ?_ (wn_t rfl rfl (by decide) rfl rfl)
          rcases ite_some hm with ⟨hb306, hm⟩ | ⟨hb306, hm⟩
          · refine r_pure (.int .i64 of_) rfl ?_ (wn_t rfl rfl (by decide) rfl hb306)
            refine r_pure (.bool (of_ != 0)) rfl ?_ (wn_t rfl rfl (by decide) rfl hb306)
            refine r_pick_t (.bool (of_ != 0)) hb306 rfl rfl ?_ (wn_t rfl rfl (by decide) rfl rfl)
            refine r_pick_f (.bool (of_ != 0)) rfl rfl rfl ?_
            refine r_nil ?_
            refine n_cut ⟨of_ != 0, upk (ac rfl (ac rfl (ac rfl (ac rfl (ac rfl (ac rfl (ac rfl an))))))), H301.u2.u2, hm⟩
          · refine r_not (wn_f rfl rfl (by decide) rfl hb306) ?_
            refine r_not (wn_f rfl rfl (by decide) rfl hb306) ?_
            refine r_pick_f (.bool false) hb306 rfl rfl ?_ (wn_t rfl rfl (by decide) rfl rfl)
            refine r_pick_f (.bool false) rfl rfl rfl ?_
            refine r_nil ?_
            refine n_cut ⟨false, upk (ac rfl (ac rfl (ac rfl (ac rfl (ac rfl (ac rfl (ac rfl an))))))), H301.u2.u2, hm⟩
  · rintro ρ w ⟨q11, ⟨base, rfl⟩, H12, hm⟩
    unfold store_Store_Post.j1 at hm
    rcases ite_some hm with ⟨hb13, hm⟩ | ⟨hb13, hm⟩
    · refine st_condt hb13 rfl ?_
      refine st_seq ?_
      refine st_region ?_
      refine r_pure (.int .i64 0) rfl ?_
      refine r_pure (.int .i64 1) rfl ?_
      refine r_seq ?_
      obtain ⟨rfl, rfl, rfl⟩ := some_inj3 hm
      refine st_ret2 rfl rfl (Nat.le_of_ble_eq_true rfl) (Nat.le_of_ble_eq_true rfl) rfl rfl ?_
      exact ⟨A2, s_.f_l.length, c3, av4, rfl, H12.u1.u1.u2⟩
    · refine st_condf hb13 rfl ?_
      refine st_skip ?_
      refine n_sq ?_
      refine st_seq ?_
      refine st_seq ?_
      refine st_region ?_
      refine r_pure (.pointer (some ⟨b1, 0, none⟩)) rfl ?_
      refine r_pure (.string entity) rfl ?_
      refine r_pure (.int .i64 p) rfl ?_
      refine r_pure (.int .i64 kind) rfl ?_
      refine r_pure (.int .i64 of_) rfl ?_
      refine r_pure (.slice A5 lines.length c6) rfl ?_
      obtain ⟨y14, hy15, hm⟩ := bind_some hm
      refine r_callf Try.call22 (store_Store_lines_ok b1 (⟨s_.f_l⟩ : store_Store) A2 s_.f_l.length c3 rfl (((H12).g0).cap) (adv av4) (fun _ H => (H.g0.rd)) (fun j x hj => ⟨((H12).g1 j x hj).1, fun u H => (H.g1 j x hj).2⟩) (fun _ H => (H.g2)) entity p kind of_ lines A5 lines.length c6 rfl hc7 (fun _ H => (hv8 _ H.d.d.d)) y14 H12 hy15) ?_
      rintro e17 wd16 ⟨rfl, H19⟩
      refine ⟨_, rfl, ?_⟩
      refine r_pure (.int .i64 y14) rfl ?_
      refine r_seq ?_
      refine st_seq ?_
      refine st_region ?_
      refine r_pure (.int .i64 y14) rfl ?_
      refine r_pure (.bool (y14 != 0)) rfl ?_
      refine r_seq ?_
      rcases ite_some hm with ⟨hb20, hm⟩ | ⟨hb20, hm⟩
      · refine st_condt hb20 rfl ?_
        refine st_seq ?_
        refine st_region ?_
        refine r_pure (.int .i64 y14) rfl ?_
        refine r_pure (.int .i64 0) rfl ?_
        refine r_pure (.int .i64 y14) rfl ?_
        refine r_seq ?_
        obtain ⟨rfl, rfl, rfl⟩ := some_inj3 hm
        refine st_ret2 rfl rfl (Nat.le_of_ble_eq_true rfl) (Nat.le_of_ble_eq_true rfl) rfl rfl ?_
        exact ⟨A2, s_.f_l.length, c3, av4, rfl, H19.u1.u1.u2⟩
      · refine st_condf hb20 rfl ?_
        refine st_skip ?_
        refine n_sq ?_
        refine st_seq ?_
        refine st_seq ?_
        refine st_region ?_
        refine r_pure (.pointer (some ⟨b1, 0, none⟩)) rfl ?_
        refine r_pure (.pointer (some ⟨b1, 0, none⟩)) rfl ?_
        refine r_fa FA52_0 ⟨b1, 0, none⟩ rfl rfl ?_
        refine r_ld1 (.slice A2 s_.f_l.length c3) LD26 rfl ((H19.g2).cell _ rfl) ?_
        refine r_len Try.underlying26 rfl ?_
        refine r_pure (.bool (decide ((s_.f_l.length : Int) ≥ 200))) rfl ?_
        refine r_seq ?_
        rcases ite_some hm with ⟨hb21, hm⟩ | ⟨hb21, hm⟩
        · refine st_condt hb21 rfl ?_
          refine st_seq ?_
          refine st_region ?_
          refine r_pure (.int .i64 0) rfl ?_
          refine r_pure (.int .i64 5) rfl ?_
          refine r_seq ?_
          obtain ⟨rfl, rfl, rfl⟩ := some_inj3 hm
          refine st_ret2 rfl rfl (Nat.le_of_ble_eq_true rfl) (Nat.le_of_ble_eq_true rfl) rfl rfl ?_
          exact ⟨A2, s_.f_l.length, c3, av4, rfl, H19.u1.u1.u2⟩
        · refine st_condf hb21 rfl ?_
          refine st_skip ?_
          refine n_sq ?_
          refine st_seq ?_
          refine st_seq ?_
          refine st_region ?_
          refine r_pure (.slice A5 lines.length c6) rfl ?_
          refine r_len Try.underlying34 rfl ?_
          refine r_pure (.int .i64 0) rfl ?_
          refine r_seq ?_
          refine st_block ?_
          have hlim41 := (hv8 _ H19.d.d.d).lim
          obtain ⟨tl24, hl25, hm23⟩ := bind_some hm
          refine st_loopL (store_Store_Post.l1 s_ entity) (fun ys30 s ρ w => ∃ i26 : Int, ∃ dn27 : List api_Line, i26 = s ∧ lines = dn27 ++ ys30 ∧ i26 = (dn27.length : Int) ∧ (∃ base, ρ = updl base [(0, .pointer (some ⟨b1, 0, none⟩)), (1, .string entity), (2, .int .i64 p), (3, .int .i64 kind), (4, .int .i64 of_), (5, .slice A5 lines.length c6), (57, .slice A5 lines.length c6), (58, .int .i64 (lines.length : Int)), (59, .int .i64 i26)]) ∧ Hp w0 (RwN NK37 (.slice A2 s_.f_l.length c3) s_.f_l av4 :: Ins NK37 s_.f_l av4 :: Bx b1 52 [.slice A2 s_.f_l.length c3] :: Γ) w) hl25 ⟨0, [], rfl, rfl, rfl, upk (ac rfl (ac rfl (ac rfl (ac rfl (ac rfl (ac rfl (ac rfl (ac rfl (ac rfl an))))))))), H19.u2.u2.u2⟩ ?_
          rintro m ys30 IH34 s ρ w ⟨i26, dn27, rfl, hxs28, hi29, ⟨base, rfl⟩, H22⟩ hm
          rcases ys30 with _ | ⟨y31, ys30⟩
          · rw [store_Store_Post.l1] at hm
            have hb35 := range_end hxs28 hi29
            refine st_seq ?_
            refine st_region ?_
            refine r_pure (.bool (decide (i26 < (lines.length : Int)))) rfl ?_
            refine r_seq ?_
            refine st_seq ?_
            refine st_condf hb35 rfl ?_
            have hq_ := Option.some.inj hm
            refine st_exit rfl ?_
            subst hq_
            refine n_sq ?_
            refine st_seq ?_
            refine st_region ?_
            refine r_pure (.pointer (some ⟨b1, 0, none⟩)) rfl ?_
            refine r_pure (.pointer (some ⟨b1, 0, none⟩)) rfl ?_
            refine r_fa FA52_0 ⟨b1, 0, none⟩ rfl rfl ?_
            refine r_ld1 (.slice A2 s_.f_l.length c3) LD26 rfl ((H22.g2).cell _ rfl) ?_
            refine r_len Try.underlying26 rfl ?_
            refine r_pure (.int .i64 (w64 ((s_.f_l.length : Int) + 1))) rfl ?_
            refine r_pure (.int .i64 (w64 ((s_.f_l.length : Int) + 1))) rfl ?_
            refine r_seq ?_
            refine st_seq ?_
            obtain ⟨y43, hy44, hm⟩ := bind_some hm23
            obtain ⟨hf57, hm⟩ := gd_some hm
            refine Flow.run' RA9_15 RW9_15 [(fun η42 v => v.1 = .pointer (some ⟨b1, 0, none⟩)), (fun η42 v => v.1 = .pointer (some ⟨b1, 0, none⟩)), (fun η42 v => v.1 = .pointer (some ⟨b1, 0, none⟩)), (fun η42 v => v.1 = .pointer (some ⟨b1, 0, none⟩)), (fun η42 v => v.1 = .slice A2 s_.f_l.length c3), (fun η42 v => v.1 = .int .i64 (w64 ((s_.f_l.length : Int) + 1))), (fun η42 v => v.1 = .string entity), (fun η42 v => v.1 = .int .i64 p), (fun η42 v => v.1 = .int .i64 kind), (fun η42 v => v.1 = .int .i64 of_), (fun η42 v => v.1 = .slice A5 lines.length c6), (fun η42 v => v.1 = .agg #[.int .i64 (w64 ((s_.f_l.length : Int) + 1)), .string entity, .int .i64 p, .int .i64 kind, .int .i64 of_, .slice A5 lines.length c6]), (fun η42 v => v.1 = .agg #[.int .i64 y43.Seq, .string y43.Entity, .int .i64 y43.Period, .int .i64 y43.Kind, .int .i64 y43.Of, .slice (vA (vG 5 (v.1))) y43.Lines.length (vC (vG 5 (v.1)))]), (fun η42 v => v.1 = .slice (some ⟨(oA (vA (v.1))).block, 0, none⟩) 1 1), (fun η42 v => v.1 = .slice (vA (v.1)) ((s_.f_l ++ [y43]).length) (vC (v.1))), (fun η42 v => v.1 = .pointer (some ⟨b1, 0, none⟩)), (fun η42 v => v.1 = .pointer (some ⟨b1, 0, none⟩)), (fun _ _ => True)] [⟨none, (some 14), fun η42 => RwN NK37 (.slice A2 s_.f_l.length c3) s_.f_l av4⟩, ⟨none, (some 14), fun η42 => Ins NK37 s_.f_l av4⟩, ⟨none, (some 17), fun η42 => Bx b1 52 [.slice A2 s_.f_l.length c3]⟩, ⟨(some 12), (some 13), fun η42 => Row K43 (.slice (vA (vG 5 ((η42 12).1))) y43.Lines.length (vC (vG 5 ((η42 12).1)))) y43.Lines⟩, ⟨(some 13), (some 14), fun η42 => RwN NK37 (.slice (some ⟨(oA (vA ((η42 13).1))).block, 0, none⟩) 1 1) [y43] (.tuple #[.slice (vA (vG 5 ((η42 12).1))) y43.Lines.length (vC (vG 5 ((η42 12).1)))])⟩, ⟨(some 13), (some 14), fun η42 => Ins NK37 [y43] (.tuple #[.slice (vA (vG 5 ((η42 12).1))) y43.Lines.length (vC (vG 5 ((η42 12).1)))])⟩, ⟨(some 14), none, fun η42 => RwN NK37 (.slice (vA ((η42 14).1)) ((s_.f_l ++ [y43]).length) (vC ((η42 14).1))) (s_.f_l ++ [y43]) (avp s_.f_l.length [y43].length av4 (.tuple #[.slice (vA (vG 5 ((η42 12).1))) y43.Lines.length (vC (vG 5 ((η42 12).1)))]))⟩, ⟨(some 14), none, fun η42 => Ins NK37 (s_.f_l ++ [y43]) (avp s_.f_l.length [y43].length av4 (.tuple #[.slice (vA (vG 5 ((η42 12).1))) y43.Lines.length (vC (vG 5 ((η42 12).1)))]))⟩, ⟨(some 17), none, fun η42 => Bx b1 52 [.slice (vA ((η42 14).1)) ((s_.f_l ++ [y43]).length) (vC ((η42 14).1))]⟩] rfl (by kernel_rfl) (by kernel_rfl) H22.u2.u2.u2 ⟨?_, ?_, ?_, ?_, ?_, ?_, ?_, ?_, ?_, ?_, ?_, ?_, ?_, ?_, ?_, ?_, ?_, ?_, trivial⟩ ?_
            · intro η42 wd69 Δ70 hE65 hR66 hA67 H68
              refine sp_op [(0, .pointer (some ⟨b1, 0, none⟩))] (ac rfl an) ?_
              refine r_pure (.pointer (some ⟨b1, 0, none⟩)) rfl ?_
              exact r_nil (n_lp ⟨_, rfl, undef, rfl, H68⟩)
            · intro η42 wd75 Δ76 hE71 hR72 hA73 H74
              refine sp_op [(0, .pointer (some ⟨b1, 0, none⟩))] (ac rfl an) ?_
              refine r_pure (.pointer (some ⟨b1, 0, none⟩)) rfl ?_
              exact r_nil (n_lp ⟨_, rfl, undef, rfl, H74⟩)
            · intro η42 wd81 Δ82 hE77 hR78 hA79 H80
              refine sp_op [(81, .pointer (some ⟨b1, 0, none⟩))] (ac (hE77 1 (by decide)) an) ?_
              refine r_pure (.pointer (some ⟨b1, 0, none⟩)) rfl ?_
              exact r_nil (n_lp ⟨_, rfl, undef, rfl, H80⟩)
            · intro η42 wd87 Δ88 hE83 hR84 hA85 H86
              refine sp_op [(82, .pointer (some ⟨b1, 0, none⟩))] (ac (hE83 2 (by decide)) an) ?_
              refine r_fa FA52_0 ⟨b1, 0, none⟩ rfl rfl ?_
              exact r_nil (n_lp ⟨_, rfl, undef, rfl, H86⟩)
            · intro η42 wd93 Δ94 hE89 hR90 hA91 H92
              have H92 : Hp w0 ((Δ94 ++ Γ)) wd93 := H92
              refine sp_op [(83, .pointer (some ⟨b1, 0, none⟩))] (ac (hE89 3 (by decide)) an) ?_
              refine r_ld1 (.slice A2 s_.f_l.length c3) LD26 rfl (((show (Bx b1 52 [.slice A2 s_.f_l.length c3]) _ from (H92).memr (hR90 _ (List.mem_of_getElem? (i := 2) rfl) rfl))).cell _ rfl) ?_
              exact r_nil (n_lp ⟨_, rfl, undef, rfl, H92⟩)
            · intro η42 wd99 Δ100 hE95 hR96 hA97 H98
              refine sp_op [(17, .int .i64 (w64 ((s_.f_l.length : Int) + 1)))] (ac rfl an) ?_
              refine r_pure (.int .i64 (w64 ((s_.f_l.length : Int) + 1))) rfl ?_
              exact r_nil (n_lp ⟨_, rfl, undef, rfl, H98⟩)
            · intro η42 wd105 Δ106 hE101 hR102 hA103 H104
              refine sp_op [(1, .string entity)] (ac rfl an) ?_
              refine r_pure (.string entity) rfl ?_
              exact r_nil (n_lp ⟨_, rfl, undef, rfl, H104⟩)
            · intro η42 wd111 Δ112 hE107 hR108 hA109 H110
              refine sp_op [(2, .int .i64 p)] (ac rfl an) ?_
              refine r_pure (.int .i64 p) rfl ?_
              exact r_nil (n_lp ⟨_, rfl, undef, rfl, H110⟩)
            · intro η42 wd117 Δ118 hE113 hR114 hA115 H116
              refine sp_op [(3, .int .i64 kind)] (ac rfl an) ?_
              refine r_pure (.int .i64 kind) rfl ?_
              exact r_nil (n_lp ⟨_, rfl, undef, rfl, H116⟩)
            · intro η42 wd123 Δ124 hE119 hR120 hA121 H122
              refine sp_op [(4, .int .i64 of_)] (ac rfl an) ?_
              refine r_pure (.int .i64 of_) rfl ?_
              exact r_nil (n_lp ⟨_, rfl, undef, rfl, H122⟩)
            · intro η42 wd129 Δ130 hE125 hR126 hA127 H128
              refine sp_op [(5, .slice A5 lines.length c6)] (ac rfl an) ?_
              refine r_pure (.slice A5 lines.length c6) rfl ?_
              exact r_nil (n_lp ⟨_, rfl, undef, rfl, H128⟩)
            · intro η42 wd135 Δ136 hE131 hR132 hA133 H134
              refine sp_op [(85, .int .i64 (w64 ((s_.f_l.length : Int) + 1))), (86, .string entity), (87, .int .i64 p), (88, .int .i64 kind), (89, .int .i64 of_), (90, .slice A5 lines.length c6)] (ac (hE131 5 (by decide)) (ac (hE131 6 (by decide)) (ac (hE131 7 (by decide)) (ac (hE131 8 (by decide)) (ac (hE131 9 (by decide)) (ac (hE131 10 (by decide)) an)))))) ?_
              refine r_build [.int .i64 (w64 ((s_.f_l.length : Int) + 1)), .string entity, .int .i64 p, .int .i64 kind, .int .i64 of_, .slice A5 lines.length c6] FL37 (by kernel_rfl) ?_
              exact r_nil (n_lp ⟨_, rfl, undef, rfl, H134⟩)
            · intro η42 wd141 Δ142 hE137 hR138 hA139 H140
              have H140 : Hp w0 ((Δ142 ++ Γ)) wd141 := H140
              refine sp_op [(91, .agg #[.int .i64 (w64 ((s_.f_l.length : Int) + 1)), .string entity, .int .i64 p, .int .i64 kind, .int .i64 of_, .slice A5 lines.length c6])] (ac (hE137 11 (by decide)) an) ?_
              refine r_callf Try.call24 (store_own_ok (⟨w64 ((s_.f_l.length : Int) + 1), entity, p, kind, of_, lines⟩ : api_Journal) A5 lines.length c6 rfl hc7 (fun _ H => (hv8 _ (H).tl)) y43 H140 hy44) ?_
              rintro e146 wd145 ⟨A149, n150, c151, rfl, H148⟩
              obtain rfl := (H148.g0).leneq
              refine ⟨_, rfl, ?_⟩
              exact r_nil (n_lp ⟨_, rfl, (.tuple #[.slice A149 y43.Lines.length c151]), rfl, H148⟩)
            · intro η42 wd156 Δ157 hE152 hR153 hA154 H155
              have H155 : Hp w0 (Row K43 (.slice (vA (vG 5 ((η42 12).1))) y43.Lines.length (vC (vG 5 ((η42 12).1)))) y43.Lines :: (Δ157 ++ Γ)) wd156 := H155
              refine sp_op [(92, .agg #[.int .i64 y43.Seq, .string y43.Entity, .int .i64 y43.Period, .int .i64 y43.Kind, .int .i64 y43.Of, .slice (vA (vG 5 ((η42 12).1))) y43.Lines.length (vC (vG 5 ((η42 12).1)))])] (ac (hE152 12 (by decide)) an) ?_
              refine r_buildSlice (K := NK37.kp) [(y43, ((vA (vG 5 ((η42 12).1))), (vC (vG 5 ((η42 12).1)))))] EL26 rfl rfl rfl (by decide) (by decide) rfl H155 ?_
              intro b158 wd160 H159
              have H161 : Hp w0 (Ins NK37 [y43] (.tuple #[.slice (vA (vG 5 ((η42 12).1))) y43.Lines.length (vC (vG 5 ((η42 12).1)))]) :: _) _ := (H159.u1).imp fun _ h_ => Ins.one (N := NK37) (x := y43) h_
              have H162 : Hp w0 (RwN NK37 (.slice (some ⟨b158, 0, none⟩) 1 1) [y43] (.tuple #[.slice (vA (vG 5 ((η42 12).1))) y43.Lines.length (vC (vG 5 ((η42 12).1)))]) :: Ins NK37 [y43] (.tuple #[.slice (vA (vG 5 ((η42 12).1))) y43.Lines.length (vC (vG 5 ((η42 12).1)))]) :: _) _ := H161.u1.imp fun _ h_ => RwN.one (m := y43.Lines.length) h_
              exact r_nil (n_lp ⟨_, rfl, (.tuple #[.slice (some ⟨b158, 0, none⟩) 1 1, .tuple #[.slice (vA (vG 5 ((η42 12).1))) y43.Lines.length (vC (vG 5 ((η42 12).1)))]]), rfl, H162.u1.u1⟩)
            · intro η42 wd167 Δ168 hE163 hR164 hA165 H166
              have H166 : Hp w0 (RwN NK37 (.slice A2 s_.f_l.length c3) s_.f_l av4 :: Ins NK37 s_.f_l av4 :: RwN NK37 (.slice (some ⟨(oA (vA ((η42 13).1))).block, 0, none⟩) 1 1) [y43] (.tuple #[.slice (vA (vG 5 ((η42 12).1))) y43.Lines.length (vC (vG 5 ((η42 12).1)))]) :: Ins NK37 [y43] (.tuple #[.slice (vA (vG 5 ((η42 12).1))) y43.Lines.length (vC (vG 5 ((η42 12).1)))]) :: (Δ168 ++ Γ)) wd167 := H166
              refine sp_op [(84, .slice A2 s_.f_l.length c3), (93, .slice (some ⟨(oA (vA ((η42 13).1))).block, 0, none⟩) 1 1)] (ac (hE163 4 (by decide)) (ac (hE163 13 (by decide)) an)) ?_
              refine r_appendNN (N := NK37) (xs := s_.f_l) (ys := [y43]) AP26 rfl rfl rfl rfl H166.u2.u3.u3.u3 (H166.u2.u3.u3.u3.g3) (fit_le hf57 (by decide)) ?_
              intro A170 c171 wd172 H173
              have H174 : Hp w0 (RwN NK37 (.slice A170 ((s_.f_l ++ [y43]).length) c171) (s_.f_l ++ [y43]) (avp s_.f_l.length [y43].length av4 (.tuple #[.slice (vA (vG 5 ((η42 12).1))) y43.Lines.length (vC (vG 5 ((η42 12).1)))])) :: Ins NK37 (s_.f_l ++ [y43]) (avp s_.f_l.length [y43].length av4 (.tuple #[.slice (vA (vG 5 ((η42 12).1))) y43.Lines.length (vC (vG 5 ((η42 12).1)))])) :: _) _ := ((H173.u3.d.u2.u2).two fun _ h1_ h2_ => Ins.append h1_ h2_).u1
              exact r_nil (n_lp ⟨_, rfl, (.tuple #[.slice A170 ((s_.f_l ++ [y43]).length) c171, avp s_.f_l.length [y43].length av4 (.tuple #[.slice (vA (vG 5 ((η42 12).1))) y43.Lines.length (vC (vG 5 ((η42 12).1)))])]), rfl, H174.u1.u1⟩)
            · intro η42 wd179 Δ180 hE175 hR176 hA177 H178
              refine sp_op [(80, .pointer (some ⟨b1, 0, none⟩))] (ac (hE175 0 (by decide)) an) ?_
              refine r_pure (.pointer (some ⟨b1, 0, none⟩)) rfl ?_
              exact r_nil (n_lp ⟨_, rfl, undef, rfl, H178⟩)
            · intro η42 wd185 Δ186 hE181 hR182 hA183 H184
              refine sp_op [(95, .pointer (some ⟨b1, 0, none⟩))] (ac (hE181 15 (by decide)) an) ?_
              refine r_fa FA52_0 ⟨b1, 0, none⟩ rfl rfl ?_
              exact r_nil (n_lp ⟨_, rfl, undef, rfl, H184⟩)
            · intro η42 wd191 Δ192 hE187 hR188 hA189 H190
              have H190 : Hp w0 (Bx b1 52 [.slice A2 s_.f_l.length c3] :: (Δ192 ++ Γ)) wd191 := H190
              refine sp_op [(94, .slice (vA ((η42 14).1)) ((s_.f_l ++ [y43]).length) (vC ((η42 14).1))), (96, .pointer (some ⟨b1, 0, none⟩))] (ac (hE187 14 (by decide)) (ac (hE187 16 (by decide)) an)) ?_
              refine r_st1 LD26 rfl rfl rfl H190 rfl ?_
              intro wd194 H193
              exact r_nil (n_lp ⟨_, rfl, (.tuple #[.pointer (some ⟨b1, 0, none⟩), .slice (vA ((η42 14).1)) ((s_.f_l ++ [y43]).length) (vC ((η42 14).1))]), trivial, H193⟩)
            · intro η42 wd196 hV197 H195
              have H198 : Hp w0 (RwN NK37 (.slice (vA ((η42 14).1)) ((s_.f_l ++ [y43]).length) (vC ((η42 14).1))) (s_.f_l ++ [y43]) (avp s_.f_l.length [y43].length av4 (.tuple #[.slice (vA (vG 5 ((η42 12).1))) y43.Lines.length (vC (vG 5 ((η42 12).1)))])) :: Ins NK37 (s_.f_l ++ [y43]) (avp s_.f_l.length [y43].length av4 (.tuple #[.slice (vA (vG 5 ((η42 12).1))) y43.Lines.length (vC (vG 5 ((η42 12).1)))])) :: Bx b1 52 [.slice (vA ((η42 14).1)) ((s_.f_l ++ [y43]).length) (vC ((η42 14).1))] :: Γ) wd196 := H195
              refine n_frame [(17, .int .i64 (w64 ((s_.f_l.length : Int) + 1)))] (ac rfl an) ?_
              refine n_sq ?_
              refine st_seq ?_
              refine st_region ?_
              refine r_pure (.int .i64 (w64 ((s_.f_l.length : Int) + 1))) rfl ?_
              refine r_pure (.int .i64 (w64 ((s_.f_l.length : Int) + 1))) rfl ?_
              refine r_pure (.int .i64 0) rfl ?_
              refine r_seq ?_
              obtain ⟨rfl, rfl, rfl⟩ := some_inj3 hm
              refine st_ret2 rfl rfl (Nat.le_of_ble_eq_true rfl) (Nat.le_of_ble_eq_true rfl) rfl rfl ?_
              exact ⟨(vA ((η42 14).1)), (s_.f_l ++ [y43]).length, (vC ((η42 14).1)), (avp s_.f_l.length [y43].length av4 (.tuple #[.slice (vA (vG 5 ((η42 12).1))) y43.Lines.length (vC (vG 5 ((η42 12).1)))])), rfl, H198.u1.u1.u2⟩
          · rw [store_Store_Post.l1] at hm
            have hb36 := range_in hxs28 hi29
            obtain ⟨h037, h138, hj39⟩ := range_ix hxs28 hi29
            have hnx40 := range_next hxs28 hi29 hlim41
            refine st_seq ?_
            refine st_region ?_
            refine r_pure (.bool (decide (i26 < (lines.length : Int)))) rfl ?_
            refine r_seq ?_
            refine st_seq ?_
            refine st_condt hb36 rfl ?_
            refine st_skip ?_
            refine n_sq ?_
            refine st_seq ?_
            refine st_block ?_
            refine st_seq ?_
            refine st_region ?_
            have hA199 := (hv8 _ H22.d.d.d).adO hj39
            refine r_ix IX34 rfl rfl hA199 h037 h138 ?_
            refine r_ldA [.int .i64 y31.Account, .int .i64 y31.Amount] LD43 rfl rfl ((hv8 _ H22.d.d.d).csA hA199 hj39) ?_
            refine r_alloc [.int .i64 0, .int .i64 0] Try.zeroValue43 H22 rfl ?_
            intro b200 wd202 H201
            refine r_stA [.int .i64 y31.Account, .int .i64 y31.Amount] LD43 rfl rfl rfl rfl H201 (Nat.le_of_ble_eq_true rfl) rfl ?_
            intro wd204 H203
            refine r_seq ?_
            refine st_seq ?_
            obtain ⟨y206, hy207, hm⟩ := bind_some hm
            obtain ⟨y212, hy213, hm⟩ := bind_some hm
            refine Flow.run' RA9_11 RW9_11 [(fun η205 v => v.1 = .pointer (some ⟨b1, 0, none⟩)), (fun η205 v => v.1 = .string entity), (fun η205 v => v.1 = .pointer (some ⟨b200, 0, none⟩)), (fun η205 v => v.1 = .int .i64 y31.Account), (fun η205 v => v.1 = .int .i64 y206), (fun η205 v => v.1 = .pointer (some ⟨b200, 1, none⟩)), (fun η205 v => v.1 = .int .i64 y31.Amount), (fun η205 v => v.1 = .int .i64 (w64 (y206 + y31.Amount))), (fun η205 v => v.1 = .bool y212), (fun η205 v => v.1 = .bool (!y212))] [] rfl (by kernel_rfl) (by kernel_rfl) H203 ⟨?_, ?_, ?_, ?_, ?_, ?_, ?_, ?_, ?_, ?_, trivial⟩ ?_
            · intro η205 wd222 Δ223 hE218 hR219 hA220 H221
              refine sp_op [(0, .pointer (some ⟨b1, 0, none⟩))] (ac rfl an) ?_
              refine r_pure (.pointer (some ⟨b1, 0, none⟩)) rfl ?_
              exact r_nil (n_lp ⟨_, rfl, undef, rfl, H221⟩)
            · intro η205 wd228 Δ229 hE224 hR225 hA226 H227
              refine sp_op [(1, .string entity)] (ac rfl an) ?_
              refine r_pure (.string entity) rfl ?_
              exact r_nil (n_lp ⟨_, rfl, undef, rfl, H227⟩)
            · intro η205 wd234 Δ235 hE230 hR231 hA232 H233
              refine sp_op [(16, .pointer (some ⟨b200, 0, none⟩))] (ac rfl an) ?_
              refine r_fa FA43_0 ⟨b200, 0, none⟩ rfl rfl ?_
              exact r_nil (n_lp ⟨_, rfl, undef, rfl, H233⟩)
            · intro η205 wd240 Δ241 hE236 hR237 hA238 H239
              have H239 : Hp w0 ((Δ241 ++ (Bx b200 43 [.int .i64 y31.Account, .int .i64 y31.Amount] :: RwN NK37 (.slice A2 s_.f_l.length c3) s_.f_l av4 :: Ins NK37 s_.f_l av4 :: Bx b1 52 [.slice A2 s_.f_l.length c3] :: Γ))) wd240 := H239
              refine sp_op [(65, .pointer (some ⟨b200, 0, none⟩))] (ac (hE236 2 (by decide)) an) ?_
              refine r_ld1 (.int .i64 y31.Account) LD3 rfl (((H239).tl.g0).cell _ rfl) ?_
              exact r_nil (n_lp ⟨_, rfl, undef, rfl, H239⟩)
            · intro η205 wd246 Δ247 hE242 hR243 hA244 H245
              have H245 : Hp w0 ((Δ247 ++ (Bx b200 43 [.int .i64 y31.Account, .int .i64 y31.Amount] :: RwN NK37 (.slice A2 s_.f_l.length c3) s_.f_l av4 :: Ins NK37 s_.f_l av4 :: Bx b1 52 [.slice A2 s_.f_l.length c3] :: Γ))) wd246 := H245
              refine sp_op [(63, .pointer (some ⟨b1, 0, none⟩)), (64, .string entity), (66, .int .i64 y31.Account)] (ac (hE242 0 (by decide)) (ac (hE242 1 (by decide)) (ac (hE242 3 (by decide)) an))) ?_
              refine r_callf Try.call16 (store_Store_Balance_ok b1 (⟨s_.f_l⟩ : store_Store) A2 s_.f_l.length c3 rfl ((((H245)).tl.g1).cap) (adv av4) (fun _ H => ((H).tl.g1.rd)) (fun j x hj => ⟨(((H245)).tl.g2 j x hj).1, fun u H => ((H).tl.g2 j x hj).2⟩) (fun _ H => ((H).tl.g3)) entity y31.Account 399 y206 H245 hy207) ?_
              rintro e251 wd250 ⟨rfl, H253⟩
              refine ⟨_, rfl, ?_⟩
              exact r_nil (n_lp ⟨_, rfl, undef, rfl, H253⟩)
            · intro η205 wd258 Δ259 hE254 hR255 hA256 H257
              refine sp_op [(16, .pointer (some ⟨b200, 0, none⟩))] (ac rfl an) ?_
              refine r_fa FA43_1 ⟨b200, 1, none⟩ rfl rfl ?_
              exact r_nil (n_lp ⟨_, rfl, undef, rfl, H257⟩)
            · intro η205 wd264 Δ265 hE260 hR261 hA262 H263
              have H263 : Hp w0 ((Δ265 ++ (Bx b200 43 [.int .i64 y31.Account, .int .i64 y31.Amount] :: RwN NK37 (.slice A2 s_.f_l.length c3) s_.f_l av4 :: Ins NK37 s_.f_l av4 :: Bx b1 52 [.slice A2 s_.f_l.length c3] :: Γ))) wd264 := H263
              refine sp_op [(68, .pointer (some ⟨b200, 1, none⟩))] (ac (hE260 5 (by decide)) an) ?_
              refine r_ld1 (.int .i64 y31.Amount) LD3 rfl (((H263).tl.g0).cell _ rfl) ?_
              exact r_nil (n_lp ⟨_, rfl, undef, rfl, H263⟩)
            · intro η205 wd270 Δ271 hE266 hR267 hA268 H269
              refine sp_op [(67, .int .i64 y206), (69, .int .i64 y31.Amount)] (ac (hE266 4 (by decide)) (ac (hE266 6 (by decide)) an)) ?_
              refine r_pure (.int .i64 (w64 (y206 + y31.Amount))) rfl ?_
              exact r_nil (n_lp ⟨_, rfl, undef, rfl, H269⟩)
            · intro η205 wd276 Δ277 hE272 hR273 hA274 H275
              have H275 : Hp w0 ((Δ277 ++ (Bx b200 43 [.int .i64 y31.Account, .int .i64 y31.Amount] :: RwN NK37 (.slice A2 s_.f_l.length c3) s_.f_l av4 :: Ins NK37 s_.f_l av4 :: Bx b1 52 [.slice A2 s_.f_l.length c3] :: Γ))) wd276 := H275
              refine sp_op [(70, .int .i64 (w64 (y206 + y31.Amount)))] (ac (hE272 7 (by decide)) an) ?_
              refine r_callf Try.call23 (rate_Money_ok (w64 (y206 + y31.Amount)) y212 H275 hy213) ?_
              rintro e281 wd280 ⟨rfl, H283⟩
              refine ⟨_, rfl, ?_⟩
              exact r_nil (n_lp ⟨_, rfl, undef, rfl, H283⟩)
            · intro η205 wd288 Δ289 hE284 hR285 hA286 H287
              refine sp_op [(71, .bool y212)] (ac (hE284 8 (by decide)) an) ?_
              refine r_pure (.bool (!y212)) rfl ?_
              exact r_nil (n_lp ⟨_, rfl, undef, rfl, H287⟩)
            · intro η205 wd291 hV292 H290
              have H293 : Hp w0 (RwN NK37 (.slice A2 s_.f_l.length c3) s_.f_l av4 :: Ins NK37 s_.f_l av4 :: Bx b1 52 [.slice A2 s_.f_l.length c3] :: Γ) wd291 := H290.d
              refine n_frame [(0, .pointer (some ⟨b1, 0, none⟩)), (1, .string entity), (2, .int .i64 p), (3, .int .i64 kind), (4, .int .i64 of_), (5, .slice A5 lines.length c6), (57, .slice A5 lines.length c6), (58, .int .i64 (lines.length : Int)), (59, .int .i64 i26), (72, .bool (!y212))] (ac rfl (ac rfl (ac rfl (ac rfl (ac rfl (ac rfl (ac rfl (ac rfl (ac rfl (ac (hV292 9 rfl) an)))))))))) ?_
              refine n_sq ?_
              rcases ite_some hm with ⟨hb294, hm⟩ | ⟨hb294, hm⟩
              · refine st_condt hb294 rfl ?_
                refine st_seq ?_
                refine st_region ?_
                refine r_pure (.int .i64 0) rfl ?_
                refine r_pure (.int .i64 6) rfl ?_
                refine r_seq ?_
                have hq_ := Option.some.inj hm
                subst hq_
                obtain ⟨rfl, rfl, rfl⟩ := some_inj3 (show some ((0, 6, (⟨s_.f_l⟩ : store_Store)) : (Int × Int × store_Store)) = some (r0_, r1_, r2_) from hm23)
                refine st_ret2 rfl rfl (Nat.le_of_ble_eq_true rfl) (Nat.le_of_ble_eq_true rfl) rfl rfl ?_
                exact ⟨A2, s_.f_l.length, c3, av4, rfl, H293.u1.u1.u2⟩
              · refine st_condf hb294 rfl ?_
                refine st_skip ?_
                refine n_bl ?_
                refine n_sq ?_
                refine st_region ?_
                refine r_pure (.int .i64 (w64 (i26 + 1))) rfl ?_
                refine r_pure (.int .i64 (w64 (i26 + 1))) rfl ?_
                refine r_nil ?_
                refine n_round (IH34 _ _ rfl _ _ _ ⟨i26 + 1, dn27 ++ [y31], rfl, range_more hxs28, range_len hi29, upk (ac rfl (ac rfl (ac rfl (ac rfl (ac rfl (ac rfl (ac rfl (ac rfl (ac hnx40 an))))))))), H293.u2.u2.u2⟩ hm)

set_option maxHeartbeats 2000000 in
theorem scutageref01_Period_ok {w0 w : World} {Γ : List (World → Prop)} (p : Int) (r0_ : Bool) (H : Hp w0 (Γ) w) (hm : scutageref01_Period p = some r0_) : Calls Try.prog 25 #[.int .i64 p] w (fun e w => e = .returned (.bool r0_) ∧ Hp w0 (Γ) w) := by
  unfold scutageref01_Period at hm
  refine st_enter Try.func25 rfl Try.ntmps25 (Nat.le_of_ble_eq_true rfl) ?_
  refine st_seq ?_
  refine st_region ?_
  refine r_pure (.bool false) rfl ?_
  refine r_seq ?_
  refine st_cut (fun ρ w => ∃ q1 : Bool, (∃ base, ρ = updl base [(2, .bool q1)]) ∧ Hp w0 (Γ) w ∧ scutageref01_Period.j1 q1 = some r0_) ?_ ?_
  · refine st_region ?_
    refine r_pure (.int .i64 p) rfl ?_
    refine r_pure (.bool (decide (p ≥ 0))) rfl ?_
    refine r_pure (.bool (decide (p ≥ 0))) rfl ?_
    rcases ite_some hm with ⟨hb3, hm⟩ | ⟨hb3, hm⟩
    · refine r_pure (.int .i64 p) rfl ?_ (wn_t rfl rfl (by decide) rfl hb3)
      refine r_pure (.bool (decide (p ≤ 399))) rfl ?_ (wn_t rfl rfl (by decide) rfl hb3)
      refine r_pick_t (.bool (decide (p ≤ 399))) hb3 rfl rfl ?_
      refine r_pure (.bool (decide (p ≤ 399))) rfl ?_
      refine r_nil ?_
      refine n_cut ⟨decide (p ≤ 399), upk (ac rfl an), H, hm⟩
    · refine r_not (wn_f rfl rfl (by decide) rfl hb3) ?_
      refine r_not (wn_f rfl rfl (by decide) rfl hb3) ?_
      refine r_pick_f (.bool false) hb3 rfl rfl ?_
      refine r_pure (.bool false) rfl ?_
      refine r_nil ?_
      refine n_cut ⟨false, upk (ac rfl an), H, hm⟩
  · rintro ρ w ⟨q1, ⟨base, rfl⟩, H2, hm⟩
    unfold scutageref01_Period.j1 at hm
    have hq_ := Option.some.inj hm
    subst hq_
    refine st_ret1 rfl rfl (Nat.le_of_ble_eq_true rfl) rfl ?_
    exact ⟨rfl, H2⟩

set_option maxHeartbeats 2000000 in
theorem scutageref01_Account_ok {w0 w : World} {Γ : List (World → Prop)} (a_ : Int) (r0_ : Bool) (H : Hp w0 (Γ) w) (hm : scutageref01_Account a_ = some r0_) : Calls Try.prog 38 #[.int .i64 a_] w (fun e w => e = .returned (.bool r0_) ∧ Hp w0 (Γ) w) := by
  unfold scutageref01_Account at hm
  refine st_enter Try.func38 rfl Try.ntmps38 (Nat.le_of_ble_eq_true rfl) ?_
  refine st_seq ?_
  refine st_region ?_
  refine r_pure (.bool false) rfl ?_
  refine r_seq ?_
  refine st_cut (fun ρ w => ∃ q1 : Bool, (∃ base, ρ = updl base [(2, .bool q1)]) ∧ Hp w0 (Γ) w ∧ scutageref01_Account.j1 q1 = some r0_) ?_ ?_
  · refine st_region ?_
    refine r_pure (.int .i64 a_) rfl ?_
    refine r_pure (.bool (decide (a_ ≥ 1))) rfl ?_
    refine r_pure (.bool (decide (a_ ≥ 1))) rfl ?_
    rcases ite_some hm with ⟨hb3, hm⟩ | ⟨hb3, hm⟩
    · refine r_pure (.int .i64 a_) rfl ?_ (wn_t rfl rfl (by decide) rfl hb3)
      refine r_pure (.bool (decide (a_ ≤ 7))) rfl ?_ (wn_t rfl rfl (by decide) rfl hb3)
      refine r_pick_t (.bool (decide (a_ ≤ 7))) hb3 rfl rfl ?_
      refine r_pure (.bool (decide (a_ ≤ 7))) rfl ?_
      refine r_nil ?_
      refine n_cut ⟨decide (a_ ≤ 7), upk (ac rfl an), H, hm⟩
    · refine r_not (wn_f rfl rfl (by decide) rfl hb3) ?_
      refine r_not (wn_f rfl rfl (by decide) rfl hb3) ?_
      refine r_pick_f (.bool false) hb3 rfl rfl ?_
      refine r_pure (.bool false) rfl ?_
      refine r_nil ?_
      refine n_cut ⟨false, upk (ac rfl an), H, hm⟩
  · rintro ρ w ⟨q1, ⟨base, rfl⟩, H2, hm⟩
    unfold scutageref01_Account.j1 at hm
    have hq_ := Option.some.inj hm
    subst hq_
    refine st_ret1 rfl rfl (Nat.le_of_ble_eq_true rfl) rfl ?_
    exact ⟨rfl, H2⟩


end Go.Proofs.Ytdhekpodgemneaa
