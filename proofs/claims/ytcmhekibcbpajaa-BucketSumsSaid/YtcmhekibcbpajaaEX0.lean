/- The Go functions come to their models: printed by gen.py. -/
import Derived.Test.YtcmhekibcbpajaaET
set_option linter.unusedVariables false
set_option linter.unusedSimpArgs false
set_option maxRecDepth 100000
namespace Go.Proofs.Ytcmhekibcbpajaa
open Go Go.RowKit
attribute [local irreducible] W R N L Hp Row SlR Bx

set_option maxHeartbeats 2000000 in
theorem scutagekeep_Within_ok {w0 w : World} {Γ : List (World → Prop)} (v_ : Int) (n_ : Int) (r0_ : Int) (H : Hp w0 (Γ) w) (hm : scutagekeep_Within v_ n_ = some r0_) : Calls Try.prog 9 #[.int .i64 v_, .int .i64 n_] w (fun e w => e = .returned (.int .i64 r0_) ∧ Hp w0 (Γ) w) := by
  unfold scutagekeep_Within at hm
  refine st_enter Try.func9 rfl Try.ntmps9 (Nat.le_of_ble_eq_true rfl) ?_
  refine st_seq ?_
  refine st_region ?_
  refine r_pure (.int .i64 0) rfl ?_
  refine r_seq ?_
  refine st_seq ?_
  refine st_seq ?_
  refine st_region ?_
  refine r_pure (.int .i64 n_) rfl ?_
  refine r_pure (.bool (decide (n_ < 1))) rfl ?_
  refine r_seq ?_
  rcases ite_some hm with ⟨hb1, hm⟩ | ⟨hb1, hm⟩
  · refine st_condt hb1 rfl ?_
    refine st_seq ?_
    refine st_region ?_
    refine r_pure (.int .i64 0) rfl ?_
    refine r_seq ?_
    have hq_ := Option.some.inj hm
    subst hq_
    refine st_ret1 rfl rfl (Nat.le_of_ble_eq_true rfl) rfl ?_
    exact ⟨rfl, H⟩
  · refine st_condf hb1 rfl ?_
    refine st_skip ?_
    refine n_sq ?_
    refine st_seq ?_
    refine st_region ?_
    refine r_pure (.int .i64 v_) rfl ?_
    refine r_pure (.int .i64 n_) rfl ?_
    obtain ⟨h2, hm⟩ := gd_some hm
    refine r_rem h2 rfl rfl ?_
    refine r_pure (.int .i64 (Int.tmod v_ n_)) rfl ?_
    refine r_seq ?_
    refine st_cut (fun ρ w => ∃ v3 : Int, (∃ base, ρ = updl base [(5, .int .i64 v3)]) ∧ Hp w0 (Γ) w ∧ scutagekeep_Within.j1 v3 = some r0_) ?_ ?_
    · refine st_seq ?_
      refine st_region ?_
      refine r_pure (.int .i64 (Int.tmod v_ n_)) rfl ?_
      refine r_pure (.bool (decide (Int.tmod v_ n_ < 0))) rfl ?_
      refine r_seq ?_
      rcases ite_some hm with ⟨hb5, hm⟩ | ⟨hb5, hm⟩
      · refine st_condt hb5 rfl ?_
        refine st_region ?_
        refine r_pure (.int .i64 (Int.tmod v_ n_)) rfl ?_
        refine r_pure (.int .i64 n_) rfl ?_
        refine r_pure (.int .i64 (w64 (Int.tmod v_ n_ + n_))) rfl ?_
        refine r_pure (.int .i64 (w64 (Int.tmod v_ n_ + n_))) rfl ?_
        refine r_nil ?_
        refine n_cut ⟨w64 (Int.tmod v_ n_ + n_), upk (ac rfl an), H, hm⟩
      · refine st_condf hb5 rfl ?_
        refine st_skip ?_
        refine n_cut ⟨Int.tmod v_ n_, upk (ac rfl an), H, hm⟩
    · rintro ρ w ⟨v3, ⟨base, rfl⟩, H4, hm⟩
      unfold scutagekeep_Within.j1 at hm
      refine st_seq ?_
      refine st_region ?_
      refine r_pure (.int .i64 v3) rfl ?_
      refine r_pure (.int .i64 v3) rfl ?_
      refine r_seq ?_
      have hq_ := Option.some.inj hm
      subst hq_
      refine st_ret1 rfl rfl (Nat.le_of_ble_eq_true rfl) rfl ?_
      exact ⟨rfl, H4⟩

set_option maxHeartbeats 2000000 in
theorem scutageplay_Amount_ok {w0 w : World} {Γ : List (World → Prop)} (n_ : Int) (r0_ : Int) (H : Hp w0 (Γ) w) (hm : scutageplay_Amount n_ = some r0_) : Calls Try.prog 10 #[.int .i64 n_] w (fun e w => e = .returned (.int .i64 r0_) ∧ Hp w0 (Γ) w) := by
  unfold scutageplay_Amount at hm
  refine st_enter Try.func10 rfl Try.ntmps10 (Nat.le_of_ble_eq_true rfl) ?_
  refine st_seq ?_
  refine st_region ?_
  refine r_pure (.int .i64 0) rfl ?_
  refine r_seq ?_
  refine st_seq ?_
  refine st_seq ?_
  refine st_region ?_
  refine r_pure (.int .i64 n_) rfl ?_
  refine r_rem (by decide) rfl rfl ?_
  refine r_seq ?_
  refine st_block ?_
  refine st_seq ?_
  refine st_region ?_
  refine r_pure (.bool (Int.tmod n_ 23 == 20)) rfl ?_
  refine r_pure (.bool (Int.tmod n_ 23 == 20)) rfl ?_
  refine r_seq ?_
  rcases ite_some hm with ⟨hb1, hm⟩ | ⟨hb1, hm⟩
  · refine st_condt hb1 rfl ?_
    refine st_seq ?_
    refine st_region ?_
    refine r_pure (.int .i64 n_) rfl ?_
    refine r_quo (by decide) rfl rfl ?_
    obtain ⟨y2, hy3, hm⟩ := bind_some hm
    refine r_callf Try.call9 (scutagekeep_Within_ok (w64 (Int.tdiv n_ 23)) 5 y2 H hy3) ?_
    rintro e5 wd4 ⟨rfl, H7⟩
    refine ⟨_, rfl, ?_⟩
    refine r_pure (.int .i64 (w64 (100000000000 - y2))) rfl ?_
    refine r_pure (.int .i64 (w64 (w64 (100000000000 - y2) + 2))) rfl ?_
    refine r_pure (.int .i64 (w64 (w64 (100000000000 - y2) + 2))) rfl ?_
    refine r_seq ?_
    have hq_ := Option.some.inj hm
    subst hq_
    refine st_ret1 rfl rfl (Nat.le_of_ble_eq_true rfl) rfl ?_
    exact ⟨rfl, H7⟩
  · refine st_condf hb1 rfl ?_
    refine st_seq ?_
    refine st_region ?_
    refine r_pure (.bool (Int.tmod n_ 23 == 21)) rfl ?_
    refine r_pure (.bool (Int.tmod n_ 23 == 21)) rfl ?_
    refine r_seq ?_
    rcases ite_some hm with ⟨hb8, hm⟩ | ⟨hb8, hm⟩
    · refine st_condt hb8 rfl ?_
      refine st_seq ?_
      refine st_region ?_
      refine r_pure (.int .i64 n_) rfl ?_
      refine r_quo (by decide) rfl rfl ?_
      obtain ⟨y9, hy10, hm⟩ := bind_some hm
      refine r_callf Try.call9 (scutagekeep_Within_ok (w64 (Int.tdiv n_ 23)) 5 y9 H hy10) ?_
      rintro e12 wd11 ⟨rfl, H14⟩
      refine ⟨_, rfl, ?_⟩
      refine r_pure (.int .i64 (w64 ((-100000000000) + y9))) rfl ?_
      refine r_pure (.int .i64 (w64 (w64 ((-100000000000) + y9) - 2))) rfl ?_
      refine r_pure (.int .i64 (w64 (w64 ((-100000000000) + y9) - 2))) rfl ?_
      refine r_seq ?_
      have hq_ := Option.some.inj hm
      subst hq_
      refine st_ret1 rfl rfl (Nat.le_of_ble_eq_true rfl) rfl ?_
      exact ⟨rfl, H14⟩
    · refine st_condf hb8 rfl ?_
      refine st_seq ?_
      refine st_region ?_
      refine r_pure (.bool (Int.tmod n_ 23 == 22)) rfl ?_
      refine r_pure (.bool (Int.tmod n_ 23 == 22)) rfl ?_
      refine r_seq ?_
      rcases ite_some hm with ⟨hb15, hm⟩ | ⟨hb15, hm⟩
      · refine st_condt hb15 rfl ?_
        refine st_seq ?_
        refine st_region ?_
        refine r_pure (.int .i64 n_) rfl ?_
        refine r_pure (.int .i64 n_) rfl ?_
        refine r_seq ?_
        have hq_ := Option.some.inj hm
        subst hq_
        refine st_ret1 rfl rfl (Nat.le_of_ble_eq_true rfl) rfl ?_
        exact ⟨rfl, H⟩
      · refine st_condf hb15 rfl ?_
        refine st_seq ?_
        refine st_region ?_
        refine r_pure (.bool (Int.tmod n_ 23 == 19)) rfl ?_
        refine r_pure (.bool (Int.tmod n_ 23 == 19)) rfl ?_
        refine r_seq ?_
        rcases ite_some hm with ⟨hb16, hm⟩ | ⟨hb16, hm⟩
        · refine st_condt hb16 rfl ?_
          refine st_seq ?_
          refine st_region ?_
          refine r_pure (.int .i64 n_) rfl ?_
          refine r_quo (by decide) rfl rfl ?_
          obtain ⟨y17, hy18, hm⟩ := bind_some hm
          refine r_callf Try.call9 (scutagekeep_Within_ok (w64 (Int.tdiv n_ 23)) 200000000001 y17 H hy18) ?_
          rintro e20 wd19 ⟨rfl, H22⟩
          refine ⟨_, rfl, ?_⟩
          refine r_pure (.int .i64 (w64 (y17 - 100000000000))) rfl ?_
          refine r_pure (.int .i64 (w64 (y17 - 100000000000))) rfl ?_
          refine r_seq ?_
          have hq_ := Option.some.inj hm
          subst hq_
          refine st_ret1 rfl rfl (Nat.le_of_ble_eq_true rfl) rfl ?_
          exact ⟨rfl, H22⟩
        · refine st_condf hb16 rfl ?_
          refine st_skip ?_
          refine n_bl ?_
          refine n_sq ?_
          refine st_seq ?_
          refine st_region ?_
          refine r_pure (.int .i64 n_) rfl ?_
          obtain ⟨y23, hy24, hm⟩ := bind_some hm
          refine r_callf Try.call9 (scutagekeep_Within_ok n_ 4001 y23 H hy24) ?_
          rintro e26 wd25 ⟨rfl, H28⟩
          refine ⟨_, rfl, ?_⟩
          refine r_pure (.int .i64 (w64 (y23 - 2000))) rfl ?_
          refine r_pure (.int .i64 (w64 (y23 - 2000))) rfl ?_
          refine r_seq ?_
          have hq_ := Option.some.inj hm
          subst hq_
          refine st_ret1 rfl rfl (Nat.le_of_ble_eq_true rfl) rfl ?_
          exact ⟨rfl, H28⟩

set_option maxHeartbeats 2000000 in
theorem scutageref09_Year_ok {w0 w : World} {Γ : List (World → Prop)} (y_ : Int) (r0_ : Bool) (H : Hp w0 (Γ) w) (hm : scutageref09_Year y_ = some r0_) : Calls Try.prog 51 #[.int .i64 y_] w (fun e w => e = .returned (.bool r0_) ∧ Hp w0 (Γ) w) := by
  unfold scutageref09_Year at hm
  refine st_enter Try.func51 rfl Try.ntmps51 (Nat.le_of_ble_eq_true rfl) ?_
  refine st_seq ?_
  refine st_region ?_
  refine r_pure (.bool false) rfl ?_
  refine r_seq ?_
  refine st_cut (fun ρ w => ∃ q1 : Bool, (∃ base, ρ = updl base [(2, .bool q1)]) ∧ Hp w0 (Γ) w ∧ scutageref09_Year.j1 q1 = some r0_) ?_ ?_
  · refine st_region ?_
    refine r_pure (.int .i64 y_) rfl ?_
    refine r_pure (.bool (decide (y_ ≥ 0))) rfl ?_
    refine r_pure (.bool (decide (y_ ≥ 0))) rfl ?_
    rcases ite_some hm with ⟨hb3, hm⟩ | ⟨hb3, hm⟩
    · refine r_pure (.int .i64 y_) rfl ?_ (wn_t rfl rfl (by decide) rfl hb3)
      refine r_pure (.bool (decide (y_ ≤ 99))) rfl ?_ (wn_t rfl rfl (by decide) rfl hb3)
      refine r_pick_t (.bool (decide (y_ ≤ 99))) hb3 rfl rfl ?_
      refine r_pure (.bool (decide (y_ ≤ 99))) rfl ?_
      refine r_nil ?_
      refine n_cut ⟨decide (y_ ≤ 99), upk (ac rfl an), H, hm⟩
    · refine r_not (wn_f rfl rfl (by decide) rfl hb3) ?_
      refine r_not (wn_f rfl rfl (by decide) rfl hb3) ?_
      refine r_pick_f (.bool false) hb3 rfl rfl ?_
      refine r_pure (.bool false) rfl ?_
      refine r_nil ?_
      refine n_cut ⟨false, upk (ac rfl an), H, hm⟩
  · rintro ρ w ⟨q1, ⟨base, rfl⟩, H2, hm⟩
    unfold scutageref09_Year.j1 at hm
    have hq_ := Option.some.inj hm
    subst hq_
    refine st_ret1 rfl rfl (Nat.le_of_ble_eq_true rfl) rfl ?_
    exact ⟨rfl, H2⟩

set_option maxHeartbeats 2000000 in
theorem scutageref09_Bucket_ok {w0 w : World} {Γ : List (World → Prop)} (class_ : Int) (year : Int) (r0_ : Bool) (H : Hp w0 (Γ) w) (hm : scutageref09_Bucket class_ year = some r0_) : Calls Try.prog 82 #[.int .i64 class_, .int .i64 year] w (fun e w => e = .returned (.bool r0_) ∧ Hp w0 (Γ) w) := by
  unfold scutageref09_Bucket at hm
  refine st_enter Try.func82 rfl Try.ntmps82 (Nat.le_of_ble_eq_true rfl) ?_
  refine st_seq ?_
  refine st_region ?_
  refine r_pure (.bool false) rfl ?_
  refine r_seq ?_
  refine st_cut (fun ρ w => ∃ q1 : Bool, (∃ base, ρ = updl base [(4, .bool q1)]) ∧ Hp w0 (Γ) w ∧ scutageref09_Bucket.j1 q1 = some r0_) ?_ ?_
  · refine st_region ?_
    refine r_pure (.int .i64 class_) rfl ?_
    refine r_pure (.bool (decide (class_ ≥ 1))) rfl ?_
    refine r_pure (.bool (decide (class_ ≥ 1))) rfl ?_
    rcases ite_some hm with ⟨hb3, hm⟩ | ⟨hb3, hm⟩
    · refine r_pure (.int .i64 class_) rfl ?_ (wn_t rfl rfl (by decide) rfl hb3)
      refine r_pure (.bool (decide (class_ ≤ 9))) rfl ?_ (wn_t rfl rfl (by decide) rfl hb3)
      refine r_pick_t (.bool (decide (class_ ≤ 9))) hb3 rfl rfl ?_
      refine r_pure (.bool (decide (class_ ≤ 9))) rfl ?_
      rcases ite_some hm with ⟨hb4, hm⟩ | ⟨hb4, hm⟩
      · refine r_pure (.int .i64 year) rfl ?_ (wn_t rfl rfl (by decide) rfl hb4)
        obtain ⟨y5, hy6, hm⟩ := bind_some hm
        refine r_callf Try.call51 (scutageref09_Year_ok year y5 H hy6) ?_ (wn_t rfl rfl (by decide) rfl hb4)
        rintro e8 wd7 ⟨rfl, H10⟩
        refine ⟨_, rfl, ?_⟩
        refine r_pick_t (.bool y5) hb4 rfl rfl ?_
        refine r_pure (.bool y5) rfl ?_
        refine r_nil ?_
        refine n_cut ⟨y5, upk (ac rfl an), H10, hm⟩
      · refine r_not (wn_f rfl rfl (by decide) rfl hb4) ?_
        refine r_not (wn_f rfl rfl (by decide) rfl hb4) ?_
        refine r_pick_f (.bool false) hb4 rfl rfl ?_
        refine r_pure (.bool false) rfl ?_
        refine r_nil ?_
        refine n_cut ⟨false, upk (ac rfl an), H, hm⟩
    · refine r_not (wn_f rfl rfl (by decide) rfl hb3) ?_
      refine r_not (wn_f rfl rfl (by decide) rfl hb3) ?_
      refine r_pick_f (.bool false) hb3 rfl rfl ?_
      refine r_pure (.bool false) rfl ?_
      refine r_not (wn_f rfl rfl (by decide) rfl rfl) ?_
      refine r_not (wn_f rfl rfl (by decide) rfl rfl) ?_
      refine r_pick_f (.bool false) rfl rfl rfl ?_
      refine r_pure (.bool false) rfl ?_
      refine r_nil ?_
      refine n_cut ⟨false, upk (ac rfl an), H, hm⟩
  · rintro ρ w ⟨q1, ⟨base, rfl⟩, H2, hm⟩
    unfold scutageref09_Bucket.j1 at hm
    have hq_ := Option.some.inj hm
    subst hq_
    refine st_ret1 rfl rfl (Nat.le_of_ble_eq_true rfl) rfl ?_
    exact ⟨rfl, H2⟩

set_option maxHeartbeats 2000000 in
theorem scutageref01_Money_ok {w0 w : World} {Γ : List (World → Prop)} (n_ : Int) (r0_ : Bool) (H : Hp w0 (Γ) w) (hm : scutageref01_Money n_ = some r0_) : Calls Try.prog 83 #[.int .i64 n_] w (fun e w => e = .returned (.bool r0_) ∧ Hp w0 (Γ) w) := by
  unfold scutageref01_Money at hm
  refine st_enter Try.func83 rfl Try.ntmps83 (Nat.le_of_ble_eq_true rfl) ?_
  refine st_seq ?_
  refine st_region ?_
  refine r_pure (.bool false) rfl ?_
  refine r_seq ?_
  refine st_cut (fun ρ w => ∃ q1 : Bool, (∃ base, ρ = updl base [(2, .bool q1)]) ∧ Hp w0 (Γ) w ∧ scutageref01_Money.j1 q1 = some r0_) ?_ ?_
  · refine st_region ?_
    refine r_pure (.int .i64 n_) rfl ?_
    refine r_pure (.bool (decide (n_ ≥ (-100000000000)))) rfl ?_
    refine r_pure (.bool (decide (n_ ≥ (-100000000000)))) rfl ?_
    rcases ite_some hm with ⟨hb3, hm⟩ | ⟨hb3, hm⟩
    · refine r_pure (.int .i64 n_) rfl ?_ (wn_t rfl rfl (by decide) rfl hb3)
      refine r_pure (.bool (decide (n_ ≤ 100000000000))) rfl ?_ (wn_t rfl rfl (by decide) rfl hb3)
      refine r_pick_t (.bool (decide (n_ ≤ 100000000000))) hb3 rfl rfl ?_
      refine r_pure (.bool (decide (n_ ≤ 100000000000))) rfl ?_
      refine r_nil ?_
      refine n_cut ⟨decide (n_ ≤ 100000000000), upk (ac rfl an), H, hm⟩
    · refine r_not (wn_f rfl rfl (by decide) rfl hb3) ?_
      refine r_not (wn_f rfl rfl (by decide) rfl hb3) ?_
      refine r_pick_f (.bool false) hb3 rfl rfl ?_
      refine r_pure (.bool false) rfl ?_
      refine r_nil ?_
      refine n_cut ⟨false, upk (ac rfl an), H, hm⟩
  · rintro ρ w ⟨q1, ⟨base, rfl⟩, H2, hm⟩
    unfold scutageref01_Money.j1 at hm
    have hq_ := Option.some.inj hm
    subst hq_
    refine st_ret1 rfl rfl (Nat.le_of_ble_eq_true rfl) rfl ?_
    exact ⟨rfl, H2⟩

set_option maxHeartbeats 2000000 in
theorem scutageref09_Register_Get_ok {w0 w : World} {Γ : List (World → Prop)} (b1 : Nat) (r_ : scutageref09_Register) (A2 : Option Addr) (n7 c3 : Nat) (hn6 : n7 = r_.B.length) (hc4 : r_.B.length ≤ c3) (hv5 : ∀ u, Hp w0 Γ u → SlR K54 A2 r_.B u) (hv8 : ∀ u, Hp w0 Γ u → Bx b1 86 [.slice A2 n7 c3] u) (class_ : Int) (year : Int) (r0_ : Int) (H : Hp w0 (Γ) w) (hm : scutageref09_Register_Get r_ class_ year = some r0_) : Calls Try.prog 84 #[.pointer (some ⟨b1, 0, none⟩), .int .i64 class_, .int .i64 year] w (fun e w => e = .returned (.int .i64 r0_) ∧ Hp w0 (Γ) w) := by
  subst hn6
  unfold scutageref09_Register_Get at hm
  refine st_enter Try.func84 rfl Try.ntmps84 (Nat.le_of_ble_eq_true rfl) ?_
  refine st_seq ?_
  refine st_region ?_
  refine r_pure (.int .i64 0) rfl ?_
  refine r_seq ?_
  refine st_seq ?_
  refine st_seq ?_
  refine st_region ?_
  refine r_pure (.pointer (some ⟨b1, 0, none⟩)) rfl ?_
  refine r_pure (.pointer (some ⟨b1, 0, none⟩)) rfl ?_
  refine r_fa FA86_0 ⟨b1, 0, none⟩ rfl rfl ?_
  refine r_ld1 (.slice A2 r_.B.length c3) LD51 rfl ((hv8 _ H).cell _ rfl) ?_
  refine r_len Try.underlying51 rfl ?_
  refine r_pure (.int .i64 0) rfl ?_
  refine r_seq ?_
  refine st_block ?_
  have hlim28 := (hv5 _ H).lim
  obtain ⟨tl11, hl12, hm10⟩ := bind_some hm
  refine st_loopL (scutageref09_Register_Get.l1 class_ year) (fun ys17 s ρ w => ∃ i13 : Int, ∃ dn14 : List api_Bucket, i13 = s ∧ r_.B = dn14 ++ ys17 ∧ i13 = (dn14.length : Int) ∧ (∃ base, ρ = updl base [(1, .int .i64 class_), (2, .int .i64 year), (12, .slice A2 r_.B.length c3), (13, .int .i64 (r_.B.length : Int)), (14, .int .i64 i13)]) ∧ Hp w0 (Γ) w) hl12 ⟨0, [], rfl, rfl, rfl, upk (ac rfl (ac rfl (ac rfl (ac rfl (ac rfl an))))), H⟩ ?_
  rintro m ys17 IH21 s ρ w ⟨i13, dn14, rfl, hxs15, hi16, ⟨base, rfl⟩, H9⟩ hm
  rcases ys17 with _ | ⟨y18, ys17⟩
  · rw [scutageref09_Register_Get.l1] at hm
    have hb22 := range_end hxs15 hi16
    refine st_seq ?_
    refine st_region ?_
    refine r_pure (.bool (decide (i13 < (r_.B.length : Int)))) rfl ?_
    refine r_seq ?_
    refine st_seq ?_
    refine st_condf hb22 rfl ?_
    have hq_ := Option.some.inj hm
    refine st_exit rfl ?_
    subst hq_
    refine n_sq ?_
    refine st_seq ?_
    refine st_region ?_
    refine r_pure (.int .i64 0) rfl ?_
    refine r_seq ?_
    have hq_ := Option.some.inj hm10
    subst hq_
    refine st_ret1 rfl rfl (Nat.le_of_ble_eq_true rfl) rfl ?_
    exact ⟨rfl, H9⟩
  · rw [scutageref09_Register_Get.l1] at hm
    have hb23 := range_in hxs15 hi16
    obtain ⟨h024, h125, hj26⟩ := range_ix hxs15 hi16
    have hnx27 := range_next hxs15 hi16 hlim28
    refine st_seq ?_
    refine st_region ?_
    refine r_pure (.bool (decide (i13 < (r_.B.length : Int)))) rfl ?_
    refine r_seq ?_
    refine st_seq ?_
    refine st_condt hb23 rfl ?_
    refine st_skip ?_
    refine n_sq ?_
    refine st_seq ?_
    refine st_block ?_
    refine st_seq ?_
    refine st_region ?_
    have hA29 := (hv5 _ H9).adO hj26
    refine r_ix IX51 rfl rfl hA29 h024 h125 ?_
    refine r_ldA [.int .i64 y18.Class, .int .i64 y18.Year, .int .i64 y18.Amount] LD54 rfl rfl ((hv5 _ H9).csA hA29 hj26) ?_
    refine r_alloc [.int .i64 0, .int .i64 0, .int .i64 0] Try.zeroValue54 H9 rfl ?_
    intro b30 wd32 H31
    refine r_stA [.int .i64 y18.Class, .int .i64 y18.Year, .int .i64 y18.Amount] LD54 rfl rfl rfl rfl H31 (Nat.le_of_ble_eq_true rfl) rfl ?_
    intro wd34 H33
    refine r_seq ?_
    refine st_cut (fun ρ w => ∃ q35 : Bool, (∃ base, ρ = updl base [(1, .int .i64 class_), (2, .int .i64 year), (8, .pointer (some ⟨b30, 0, none⟩)), (12, .slice A2 r_.B.length c3), (13, .int .i64 (r_.B.length : Int)), (14, .int .i64 i13), (27, .bool q35)]) ∧ Hp w0 (Bx b30 54 [.int .i64 y18.Class, .int .i64 y18.Year, .int .i64 y18.Amount] :: Γ) w ∧ scutageref09_Register_Get.j1 y18 (scutageref09_Register_Get.l1 class_ year ys17) i13 q35 = some tl11) ?_ ?_
    · refine st_region ?_
      refine r_fa FA54_0 ⟨b30, 0, none⟩ rfl rfl ?_
      refine r_ld1 (.int .i64 y18.Class) LD3 rfl ((H33.g0).cell _ rfl) ?_
      refine r_pure (.int .i64 class_) rfl ?_
      refine r_pure (.bool (y18.Class == class_)) rfl ?_
      refine r_pure (.bool (y18.Class == class_)) rfl ?_
      rcases ite_some hm with ⟨hb38, hm⟩ | ⟨hb38, hm⟩
      · refine r_fa FA54_1 ⟨b30, 1, none⟩ rfl rfl ?_ (wn_t rfl rfl (by decide) rfl hb38)
        refine r_ld1 (.int .i64 y18.Year) LD3 rfl ((H33.g0).cell _ rfl) ?_ (wn_t rfl rfl (by decide) rfl hb38)
        refine r_pure (.int .i64 year) rfl ?_ (wn_t rfl rfl (by decide) rfl hb38)
        refine r_pure (.bool (y18.Year == year)) rfl ?_ (wn_t rfl rfl (by decide) rfl hb38)
        refine r_pick_t (.bool (y18.Year == year)) hb38 rfl rfl ?_
        refine r_nil ?_
        refine n_cut ⟨y18.Year == year, upk (ac rfl (ac rfl (ac rfl (ac rfl (ac rfl (ac rfl (ac rfl an))))))), H33, hm⟩
      · refine r_not (wn_f rfl rfl (by decide) rfl hb38) ?_
        refine r_not (wn_f rfl rfl (by decide) rfl hb38) ?_
        refine r_not (wn_f rfl rfl (by decide) rfl hb38) ?_
        refine r_not (wn_f rfl rfl (by decide) rfl hb38) ?_
        refine r_pick_f (.bool false) hb38 rfl rfl ?_
        refine r_nil ?_
        refine n_cut ⟨false, upk (ac rfl (ac rfl (ac rfl (ac rfl (ac rfl (ac rfl (ac rfl an))))))), H33, hm⟩
    · rintro ρ w ⟨q35, ⟨base, rfl⟩, H36, hm⟩
      unfold scutageref09_Register_Get.j1 at hm
      rcases ite_some hm with ⟨hb37, hm⟩ | ⟨hb37, hm⟩
      · refine st_condt hb37 rfl ?_
        refine st_seq ?_
        refine st_region ?_
        refine r_fa FA54_2 ⟨b30, 2, none⟩ rfl rfl ?_
        refine r_ld1 (.int .i64 y18.Amount) LD3 rfl ((H36.g0).cell _ rfl) ?_
        refine r_pure (.int .i64 y18.Amount) rfl ?_
        refine r_seq ?_
        have hq_ := Option.some.inj hm
        subst hq_
        have hq_ := Option.some.inj (show some (y18.Amount : Int) = some r0_ from hm10)
        subst hq_
        refine st_ret1 rfl rfl (Nat.le_of_ble_eq_true rfl) rfl ?_
        exact ⟨rfl, H36.d⟩
      · refine st_condf hb37 rfl ?_
        refine st_skip ?_
        refine n_bl ?_
        refine n_sq ?_
        refine st_region ?_
        refine r_pure (.int .i64 (w64 (i13 + 1))) rfl ?_
        refine r_pure (.int .i64 (w64 (i13 + 1))) rfl ?_
        refine r_nil ?_
        refine n_round (IH21 _ _ rfl _ _ _ ⟨i13 + 1, dn14 ++ [y18], rfl, range_more hxs15, range_len hi16, upk (ac rfl (ac rfl (ac rfl (ac rfl (ac hnx27 an))))), H36.d⟩ hm)

set_option maxHeartbeats 2000000 in
theorem scutageref09_Register_Total_ok {w0 w : World} {Γ : List (World → Prop)} (b1 : Nat) (r_ : scutageref09_Register) (A2 : Option Addr) (n7 c3 : Nat) (hn6 : n7 = r_.B.length) (hc4 : r_.B.length ≤ c3) (hv5 : ∀ u, Hp w0 Γ u → SlR K54 A2 r_.B u) (hv8 : ∀ u, Hp w0 Γ u → Bx b1 86 [.slice A2 n7 c3] u) (r0_ : Int) (H : Hp w0 (Γ) w) (hm : scutageref09_Register_Total r_ = some r0_) : Calls Try.prog 85 #[.pointer (some ⟨b1, 0, none⟩)] w (fun e w => e = .returned (.int .i64 r0_) ∧ Hp w0 (Γ) w) := by
  subst hn6
  unfold scutageref09_Register_Total at hm
  refine st_enter Try.func85 rfl Try.ntmps85 (Nat.le_of_ble_eq_true rfl) ?_
  refine st_seq ?_
  refine st_region ?_
  refine r_pure (.int .i64 0) rfl ?_
  refine r_seq ?_
  refine st_seq ?_
  refine st_region ?_
  refine r_pure (.int .i64 0) rfl ?_
  refine r_seq ?_
  refine st_seq ?_
  refine st_seq ?_
  refine st_region ?_
  refine r_pure (.pointer (some ⟨b1, 0, none⟩)) rfl ?_
  refine r_pure (.pointer (some ⟨b1, 0, none⟩)) rfl ?_
  refine r_fa FA86_0 ⟨b1, 0, none⟩ rfl rfl ?_
  refine r_ld1 (.slice A2 r_.B.length c3) LD51 rfl ((hv8 _ H).cell _ rfl) ?_
  refine r_len Try.underlying51 rfl ?_
  refine r_pure (.int .i64 0) rfl ?_
  refine r_seq ?_
  refine st_block ?_
  have hlim30 := (hv5 _ H).lim
  obtain ⟨tl13, hl14, hm12⟩ := bind_some hm
  refine st_loopL (scutageref09_Register_Total.l1) (fun ys19 s ρ w => ∃ i15 : Int, ∃ v10 : Int, ∃ dn16 : List api_Bucket, (i15, v10) = s ∧ r_.B = dn16 ++ ys19 ∧ i15 = (dn16.length : Int) ∧ (∃ base, ρ = updl base [(3, .int .i64 v10), (9, .slice A2 r_.B.length c3), (10, .int .i64 (r_.B.length : Int)), (11, .int .i64 i15)]) ∧ Hp w0 (Γ) w) hl14 ⟨0, 0, [], rfl, rfl, rfl, upk (ac rfl (ac rfl (ac rfl (ac rfl an)))), H⟩ ?_
  rintro m ys19 IH23 s ρ w ⟨i15, v10, dn16, rfl, hxs17, hi18, ⟨base, rfl⟩, H11⟩ hm
  rcases ys19 with _ | ⟨y20, ys19⟩
  · rw [scutageref09_Register_Total.l1] at hm
    have hb24 := range_end hxs17 hi18
    refine st_seq ?_
    refine st_region ?_
    refine r_pure (.bool (decide (i15 < (r_.B.length : Int)))) rfl ?_
    refine r_seq ?_
    refine st_seq ?_
    refine st_condf hb24 rfl ?_
    have hq_ := Option.some.inj hm
    refine st_exit rfl ?_
    subst hq_
    refine n_sq ?_
    refine st_seq ?_
    refine st_region ?_
    refine r_pure (.int .i64 v10) rfl ?_
    refine r_pure (.int .i64 v10) rfl ?_
    refine r_seq ?_
    have hq_ := Option.some.inj hm12
    subst hq_
    refine st_ret1 rfl rfl (Nat.le_of_ble_eq_true rfl) rfl ?_
    exact ⟨rfl, H11⟩
  · rw [scutageref09_Register_Total.l1] at hm
    have hb25 := range_in hxs17 hi18
    obtain ⟨h026, h127, hj28⟩ := range_ix hxs17 hi18
    have hnx29 := range_next hxs17 hi18 hlim30
    refine st_seq ?_
    refine st_region ?_
    refine r_pure (.bool (decide (i15 < (r_.B.length : Int)))) rfl ?_
    refine r_seq ?_
    refine st_seq ?_
    refine st_condt hb25 rfl ?_
    refine st_skip ?_
    refine n_sq ?_
    refine st_seq ?_
    refine st_block ?_
    refine st_seq ?_
    refine st_region ?_
    have hA31 := (hv5 _ H11).adO hj28
    refine r_ix IX51 rfl rfl hA31 h026 h127 ?_
    refine r_ldA [.int .i64 y20.Class, .int .i64 y20.Year, .int .i64 y20.Amount] LD54 rfl rfl ((hv5 _ H11).csA hA31 hj28) ?_
    refine r_alloc [.int .i64 0, .int .i64 0, .int .i64 0] Try.zeroValue54 H11 rfl ?_
    intro b32 wd34 H33
    refine r_stA [.int .i64 y20.Class, .int .i64 y20.Year, .int .i64 y20.Amount] LD54 rfl rfl rfl rfl H33 (Nat.le_of_ble_eq_true rfl) rfl ?_
    intro wd36 H35
    refine r_seq ?_
    refine st_region ?_
    refine r_pure (.int .i64 v10) rfl ?_
    refine r_fa FA54_2 ⟨b32, 2, none⟩ rfl rfl ?_
    refine r_ld1 (.int .i64 y20.Amount) LD3 rfl ((H35.g0).cell _ rfl) ?_
    refine r_pure (.int .i64 (w64 (v10 + y20.Amount))) rfl ?_
    refine r_pure (.int .i64 (w64 (v10 + y20.Amount))) rfl ?_
    refine r_nil ?_
    refine n_bl ?_
    refine n_sq ?_
    refine st_region ?_
    refine r_pure (.int .i64 (w64 (i15 + 1))) rfl ?_
    refine r_pure (.int .i64 (w64 (i15 + 1))) rfl ?_
    refine r_nil ?_
    refine n_round (IH23 _ _ rfl _ _ _ ⟨i15 + 1, w64 (v10 + y20.Amount), dn16 ++ [y20], rfl, range_more hxs17, range_len hi18, upk (ac rfl (ac rfl (ac rfl (ac hnx29 an)))), H35.d⟩ hm)

set_option maxHeartbeats 2000000 in
theorem scutageref09_Register_Copy_ok {w0 w : World} {Γ : List (World → Prop)} (b1 : Nat) (r_ : scutageref09_Register) (A2 : Option Addr) (n7 c3 : Nat) (hn6 : n7 = r_.B.length) (hc4 : r_.B.length ≤ c3) (hv5 : ∀ u, Hp w0 Γ u → SlR K54 A2 r_.B u) (hv8 : ∀ u, Hp w0 Γ u → Bx b1 86 [.slice A2 n7 c3] u) (r0_ : scutageref09_Register) (H : Hp w0 (Γ) w) (hm : scutageref09_Register_Copy r_ = some r0_) : Calls Try.prog 86 #[.pointer (some ⟨b1, 0, none⟩)] w (fun e w => ∃ (bx1 : Nat), ∃ (Ax2 : Option Addr) (nx3 cx4 : Nat), e = .returned (.pointer (some ⟨bx1, 0, none⟩)) ∧ Hp w0 (Bx bx1 86 [.slice Ax2 nx3 cx4] :: Row K54 (.slice Ax2 nx3 cx4) r0_.B :: Γ) w) := by
  subst hn6
  unfold scutageref09_Register_Copy at hm
  refine st_enter Try.func86 rfl Try.ntmps86 (Nat.le_of_ble_eq_true rfl) ?_
  refine st_seq ?_
  refine st_region ?_
  refine r_pure (.pointer none) rfl ?_
  refine r_seq ?_
  refine st_seq ?_
  refine st_region ?_
  refine r_pure (.pointer (some ⟨b1, 0, none⟩)) rfl ?_
  refine r_pure (.pointer (some ⟨b1, 0, none⟩)) rfl ?_
  refine r_fa FA86_0 ⟨b1, 0, none⟩ rfl rfl ?_
  refine r_ld1 (.slice A2 r_.B.length c3) LD51 rfl ((hv8 _ H).cell _ rfl) ?_
  obtain ⟨hf10, hm⟩ := gd_some hm
  have H9 := H.add (A := Row K54 (.slice none 0 0) []) Row.nil
  refine r_append (K := K54) (ys := r_.B) AP51 rfl rfl rfl rfl H9 ((hv5 _ H9.d).src) (fit_le hf10 (by decide)) ?_
  intro A11 c12 wd13 H14
  refine r_build [.slice A11 ((([] : List api_Bucket) ++ r_.B).length) c12] FL86 rfl ?_
  refine r_box [.slice A11 ((([] : List api_Bucket) ++ r_.B).length) c12] H14 rfl ?_
  intro b15 wd17 H16
  refine r_pure (.pointer (some ⟨b15, 0, none⟩)) rfl ?_
  refine r_seq ?_
  have hq_ := Option.some.inj hm
  subst hq_
  refine st_ret1 rfl rfl (Nat.le_of_ble_eq_true rfl) rfl ?_
  exact ⟨b15, A11, (([] : List api_Bucket) ++ r_.B).length, c12, rfl, H16.u1.u1⟩

set_option maxHeartbeats 2000000 in
theorem scutageref09_Register_set_ok {w0 w : World} {Γ : List (World → Prop)} (b1 : Nat) (r_ : scutageref09_Register) (A2 : Option Addr) (c3 : Nat) (class_ : Int) (year : Int) (n_ : Int) (r0_ : scutageref09_Register) (H : Hp w0 (Bx b1 86 [.slice A2 r_.B.length c3] :: Row K54 (.slice A2 r_.B.length c3) r_.B :: Γ) w) (hm : scutageref09_Register_set r_ class_ year n_ = some r0_) : Calls Try.prog 87 #[.pointer (some ⟨b1, 0, none⟩), .int .i64 class_, .int .i64 year, .int .i64 n_] w (fun e w => ∃ (Ax1 : Option Addr) (nx2 cx3 : Nat), e = .returned (.tuple #[]) ∧ Hp w0 (Bx b1 86 [.slice Ax1 nx2 cx3] :: Row K54 (.slice Ax1 nx2 cx3) r0_.B :: Γ) w) := by
  unfold scutageref09_Register_set at hm
  refine st_enter Try.func87 rfl Try.ntmps87 (Nat.le_of_ble_eq_true rfl) ?_
  refine st_seq ?_
  refine st_region ?_
  refine r_pure (.slice none 0 0) rfl ?_
  refine r_seq ?_
  refine st_seq ?_
  refine st_region ?_
  refine r_pure (.int .i64 n_) rfl ?_
  refine r_pure (.bool (n_ == 0)) rfl ?_
  refine r_pure (.bool (n_ == 0)) rfl ?_
  refine r_seq ?_
  refine st_seq ?_
  refine st_seq ?_
  refine st_region ?_
  refine r_pure (.pointer (some ⟨b1, 0, none⟩)) rfl ?_
  refine r_pure (.pointer (some ⟨b1, 0, none⟩)) rfl ?_
  refine r_fa FA86_0 ⟨b1, 0, none⟩ rfl rfl ?_
  refine r_ld1 (.slice A2 r_.B.length c3) LD51 rfl ((H.g0).cell _ rfl) ?_
  refine r_len Try.underlying51 rfl ?_
  refine r_pure (.int .i64 0) rfl ?_
  refine r_seq ?_
  refine st_block ?_
  have H10 := H.add (A := Row K54 (.slice none 0 0) []) Row.nil
  have hlim35 := (H10.g2.rd).lim
  obtain ⟨tl18, hl19, hm17⟩ := bind_some hm
  refine st_loopL (scutageref09_Register_set.l1 class_ year n_) (fun ys24 s ρ w => ∃ i20 : Int, ∃ xs14 : List api_Bucket, ∃ q15 : Bool, ∃ dn21 : List api_Bucket, ∃ A11 : Option Addr, ∃ n12 : Nat, ∃ c13 : Nat, (i20, xs14, q15) = s ∧ r_.B = dn21 ++ ys24 ∧ i20 = (dn21.length : Int) ∧ (∃ base, ρ = updl base [(0, .pointer (some ⟨b1, 0, none⟩)), (1, .int .i64 class_), (2, .int .i64 year), (3, .int .i64 n_), (8, .slice A11 n12 c13), (9, .bool q15), (17, .slice A2 r_.B.length c3), (18, .int .i64 (r_.B.length : Int)), (19, .int .i64 i20)]) ∧ Hp w0 (Row K54 (.slice A2 r_.B.length c3) r_.B :: Bx b1 86 [.slice A2 r_.B.length c3] :: Row K54 (.slice A11 n12 c13) xs14 :: Γ) w) hl19 ⟨0, ([] : List api_Bucket), n_ == 0, [], none, 0, 0, rfl, rfl, rfl, upk (ac rfl (ac rfl (ac rfl (ac rfl (ac rfl (ac rfl (ac rfl (ac rfl (ac rfl an))))))))), H10.u1.u2⟩ ?_
  rintro m ys24 IH28 s ρ w ⟨i20, xs14, q15, dn21, A11, n12, c13, rfl, hxs22, hi23, ⟨base, rfl⟩, H16⟩ hm
  obtain rfl := (H16.g2).leneq
  rcases ys24 with _ | ⟨y25, ys24⟩
  · rw [scutageref09_Register_set.l1] at hm
    have hb29 := range_end hxs22 hi23
    refine st_seq ?_
    refine st_region ?_
    refine r_pure (.bool (decide (i20 < (r_.B.length : Int)))) rfl ?_
    refine r_seq ?_
    refine st_seq ?_
    refine st_condf hb29 rfl ?_
    have hq_ := Option.some.inj hm
    refine st_exit rfl ?_
    subst hq_
    refine n_sq ?_
    refine st_cut (fun ρ w => ∃ A36 : Option Addr, ∃ n37 : Nat, ∃ c38 : Nat, ∃ xs39 : List api_Bucket, (∃ base, ρ = updl base [(0, .pointer (some ⟨b1, 0, none⟩)), (8, .slice A36 n37 c38)]) ∧ Hp w0 (Row K54 (.slice A2 r_.B.length c3) r_.B :: Bx b1 86 [.slice A2 r_.B.length c3] :: Row K54 (.slice A36 n37 c38) xs39 :: Γ) w ∧ scutageref09_Register_set.j1 xs39 = some r0_) ?_ ?_
    · refine st_seq ?_
      refine st_region ?_
      refine r_pure (.bool q15) rfl ?_
      refine r_pure (.bool (!q15)) rfl ?_
      refine r_seq ?_
      rcases ite_some hm17 with ⟨hb43, hm⟩ | ⟨hb43, hm⟩
      · refine st_condt hb43 rfl ?_
        refine st_region ?_
        refine r_pure (.slice A11 xs14.length c13) rfl ?_
        refine r_pure (.int .i64 class_) rfl ?_
        refine r_pure (.int .i64 year) rfl ?_
        refine r_pure (.int .i64 n_) rfl ?_
        refine r_build [.int .i64 class_, .int .i64 year, .int .i64 n_] FL54 rfl ?_
        refine r_buildSlice (K := K54) [(⟨class_, year, n_⟩ : api_Bucket)] EL51 rfl rfl rfl (by decide) (by decide) rfl H16 ?_
        intro b44 wd46 H45
        obtain ⟨hf47, hm⟩ := gd_some hm
        refine r_append (K := K54) (ys := [(⟨class_, year, n_⟩ : api_Bucket)]) AP51 rfl rfl rfl rfl H45.u3 (((H45.u3).g1).src) (fit_le hf47 (by decide)) ?_
        intro A48 c49 wd50 H51
        refine r_pure (.slice A48 ((xs14 ++ [(⟨class_, year, n_⟩ : api_Bucket)]).length) c49) rfl ?_
        refine r_nil ?_
        refine n_cut ⟨A48, (xs14 ++ [(⟨class_, year, n_⟩ : api_Bucket)]).length, c49, xs14 ++ [(⟨class_, year, n_⟩ : api_Bucket)], upk (ac rfl (ac rfl an)), H51.u1.d.u2.u2, hm⟩
      · refine st_condf hb43 rfl ?_
        refine st_skip ?_
        refine n_cut ⟨A11, xs14.length, c13, xs14, upk (ac rfl (ac rfl an)), H16.u2.u2.u2, hm⟩
    · rintro ρ w ⟨A36, n37, c38, xs39, ⟨base, rfl⟩, H40, hm⟩
      obtain rfl := (H40.g2).leneq
      unfold scutageref09_Register_set.j1 at hm
      refine st_region ?_
      refine r_pure (.pointer (some ⟨b1, 0, none⟩)) rfl ?_
      refine r_pure (.slice A36 xs39.length c38) rfl ?_
      refine r_pure (.pointer (some ⟨b1, 0, none⟩)) rfl ?_
      refine r_fa FA86_0 ⟨b1, 0, none⟩ rfl rfl ?_
      refine r_st1 LD51 rfl rfl rfl H40.u1 rfl ?_
      intro wd42 H41
      refine r_nil ?_
      have hq_ := Option.some.inj hm
      subst hq_
      refine n_fin0 rfl ?_
      exact ⟨A36, xs39.length, c38, rfl, H41.u1.d.u1.u1⟩
  · rw [scutageref09_Register_set.l1] at hm
    have hb30 := range_in hxs22 hi23
    obtain ⟨h031, h132, hj33⟩ := range_ix hxs22 hi23
    have hnx34 := range_next hxs22 hi23 hlim35
    refine st_seq ?_
    refine st_region ?_
    refine r_pure (.bool (decide (i20 < (r_.B.length : Int)))) rfl ?_
    refine r_seq ?_
    refine st_seq ?_
    refine st_condt hb30 rfl ?_
    refine st_skip ?_
    refine n_sq ?_
    refine st_cut (fun ρ w => ∃ A52 : Option Addr, ∃ n53 : Nat, ∃ c54 : Nat, ∃ xs55 : List api_Bucket, ∃ q56 : Bool, (∃ base, ρ = updl base [(0, .pointer (some ⟨b1, 0, none⟩)), (1, .int .i64 class_), (2, .int .i64 year), (3, .int .i64 n_), (8, .slice A52 n53 c54), (9, .bool q56), (17, .slice A2 r_.B.length c3), (18, .int .i64 (r_.B.length : Int)), (19, .int .i64 i20)]) ∧ Hp w0 (Row K54 (.slice A2 r_.B.length c3) r_.B :: Bx b1 86 [.slice A2 r_.B.length c3] :: Row K54 (.slice A52 n53 c54) xs55 :: Γ) w ∧ scutageref09_Register_set.j2 (scutageref09_Register_set.l1 class_ year n_ ys24) i20 xs55 q56 = some tl18) ?_ ?_
    · refine st_block ?_
      refine st_seq ?_
      refine st_region ?_
      have hA58 := (H16.g0.rd).adO hj33
      refine r_ix IX51 rfl rfl hA58 h031 h132 ?_
      refine r_ldA [.int .i64 y25.Class, .int .i64 y25.Year, .int .i64 y25.Amount] LD54 rfl rfl ((H16.g0.rd).csA hA58 hj33) ?_
      refine r_alloc [.int .i64 0, .int .i64 0, .int .i64 0] Try.zeroValue54 H16 rfl ?_
      intro b59 wd61 H60
      refine r_stA [.int .i64 y25.Class, .int .i64 y25.Year, .int .i64 y25.Amount] LD54 rfl rfl rfl rfl H60 (Nat.le_of_ble_eq_true rfl) rfl ?_
      intro wd63 H62
      refine r_seq ?_
      refine st_seq ?_
      refine st_cut (fun ρ w => ∃ q64 : Bool, (∃ base, ρ = updl base [(0, .pointer (some ⟨b1, 0, none⟩)), (1, .int .i64 class_), (2, .int .i64 year), (3, .int .i64 n_), (8, .slice A11 xs14.length c13), (9, .bool q15), (11, .pointer (some ⟨b59, 0, none⟩)), (17, .slice A2 r_.B.length c3), (18, .int .i64 (r_.B.length : Int)), (19, .int .i64 i20), (32, .bool q64)]) ∧ Hp w0 (Row K54 (.slice A2 r_.B.length c3) r_.B :: Bx b1 86 [.slice A2 r_.B.length c3] :: Row K54 (.slice A11 xs14.length c13) xs14 :: Bx b59 54 [.int .i64 y25.Class, .int .i64 y25.Year, .int .i64 y25.Amount] :: Γ) w ∧ scutageref09_Register_set.j3 (scutageref09_Register_set.l1 class_ year n_ ys24) i20 xs14 q15 y25 class_ year n_ q64 = some tl18) ?_ ?_
      · refine st_region ?_
        refine r_fa FA54_0 ⟨b59, 0, none⟩ rfl rfl ?_
        refine r_ld1 (.int .i64 y25.Class) LD3 rfl ((H62.g0).cell _ rfl) ?_
        refine r_pure (.int .i64 class_) rfl ?_
        refine r_pure (.bool (y25.Class == class_)) rfl ?_
        refine r_pure (.bool (y25.Class == class_)) rfl ?_
        rcases ite_some hm with ⟨hb95, hm⟩ | ⟨hb95, hm⟩
        · refine r_fa FA54_1 ⟨b59, 1, none⟩ rfl rfl ?_ (wn_t rfl rfl (by decide) rfl hb95)
          refine r_ld1 (.int .i64 y25.Year) LD3 rfl ((H62.g0).cell _ rfl) ?_ (wn_t rfl rfl (by decide) rfl hb95)
          refine r_pure (.int .i64 year) rfl ?_ (wn_t rfl rfl (by decide) rfl hb95)
          refine r_pure (.bool (y25.Year == year)) rfl ?_ (wn_t rfl rfl (by decide) rfl hb95)
          refine r_pick_t (.bool (y25.Year == year)) hb95 rfl rfl ?_
          refine r_nil ?_
          refine n_cut ⟨y25.Year == year, upk (ac rfl (ac rfl (ac rfl (ac rfl (ac rfl (ac rfl (ac rfl (ac rfl (ac rfl (ac rfl (ac rfl an))))))))))), H62.u3.u3.u3, hm⟩
        · refine r_not (wn_f rfl rfl (by decide) rfl hb95) ?_
          refine r_not (wn_f rfl rfl (by decide) rfl hb95) ?_
          refine r_not (wn_f rfl rfl (by decide) rfl hb95) ?_
          refine r_not (wn_f rfl rfl (by decide) rfl hb95) ?_
          refine r_pick_f (.bool false) hb95 rfl rfl ?_
          refine r_nil ?_
          refine n_cut ⟨false, upk (ac rfl (ac rfl (ac rfl (ac rfl (ac rfl (ac rfl (ac rfl (ac rfl (ac rfl (ac rfl (ac rfl an))))))))))), H62.u3.u3.u3, hm⟩
      · rintro ρ w ⟨q64, ⟨base, rfl⟩, H65, hm⟩
        unfold scutageref09_Register_set.j3 at hm
        rcases ite_some hm with ⟨hb66, hm⟩ | ⟨hb66, hm⟩
        · refine st_condt hb66 rfl ?_
          refine st_exit rfl ?_
          refine n_cut ⟨A11, xs14.length, c13, xs14, q15, upk (ac rfl (ac rfl (ac rfl (ac rfl (ac rfl (ac rfl (ac rfl (ac rfl (ac rfl an))))))))), H65.u3.d.u2.u2.u2, hm⟩
        · refine st_condf hb66 rfl ?_
          refine st_skip ?_
          refine n_sq ?_
          refine st_cut (fun ρ w => ∃ A67 : Option Addr, ∃ n68 : Nat, ∃ c69 : Nat, ∃ xs70 : List api_Bucket, ∃ q71 : Bool, (∃ base, ρ = updl base [(0, .pointer (some ⟨b1, 0, none⟩)), (1, .int .i64 class_), (2, .int .i64 year), (3, .int .i64 n_), (8, .slice A67 n68 c69), (9, .bool q71), (11, .pointer (some ⟨b59, 0, none⟩)), (17, .slice A2 r_.B.length c3), (18, .int .i64 (r_.B.length : Int)), (19, .int .i64 i20)]) ∧ Hp w0 (Row K54 (.slice A2 r_.B.length c3) r_.B :: Bx b1 86 [.slice A2 r_.B.length c3] :: Row K54 (.slice A67 n68 c69) xs70 :: Bx b59 54 [.int .i64 y25.Class, .int .i64 y25.Year, .int .i64 y25.Amount] :: Γ) w ∧ scutageref09_Register_set.j4 y25 (scutageref09_Register_set.l1 class_ year n_ ys24) i20 xs70 q71 = some tl18) ?_ ?_
          · refine st_cut (fun ρ w => ∃ q81 : Bool, (∃ base, ρ = updl base [(0, .pointer (some ⟨b1, 0, none⟩)), (1, .int .i64 class_), (2, .int .i64 year), (3, .int .i64 n_), (8, .slice A11 xs14.length c13), (9, .bool q15), (11, .pointer (some ⟨b59, 0, none⟩)), (17, .slice A2 r_.B.length c3), (18, .int .i64 (r_.B.length : Int)), (19, .int .i64 i20), (52, .bool q81)]) ∧ Hp w0 (Row K54 (.slice A2 r_.B.length c3) r_.B :: Bx b1 86 [.slice A2 r_.B.length c3] :: Row K54 (.slice A11 xs14.length c13) xs14 :: Bx b59 54 [.int .i64 y25.Class, .int .i64 y25.Year, .int .i64 y25.Amount] :: Γ) w ∧ scutageref09_Register_set.j5 xs14 class_ year n_ y25 (scutageref09_Register_set.l1 class_ year n_ ys24) i20 q15 q81 = some tl18) ?_ ?_
            · refine st_region ?_
              refine r_pure (.bool q15) rfl ?_
              refine r_pure (.bool (!q15)) rfl ?_
              refine r_pure (.bool (!q15)) rfl ?_
              rcases ite_some hm with ⟨hb92, hm⟩ | ⟨hb92, hm⟩
              · refine r_fa FA54_0 ⟨b59, 0, none⟩ rfl rfl ?_ (wn_t rfl rfl (by decide) rfl hb92)
                refine r_ld1 (.int .i64 y25.Class) LD3 rfl ((H65.g3).cell _ rfl) ?_ (wn_t rfl rfl (by decide) rfl hb92)
                refine r_pure (.int .i64 class_) rfl ?_ (wn_t rfl rfl (by decide) rfl hb92)
                refine r_pure (.bool (decide (y25.Class > class_))) rfl ?_ (wn_t rfl rfl (by decide) rfl hb92)
                refine r_pure (.bool (decide (y25.Class > class_))) rfl ?_ (wn_t rfl rfl (by decide) rfl hb92)
                rcases ite_some hm with ⟨hb93, hm⟩ | ⟨hb93, hm⟩
                · refine r_not (wn_f rfl rfl (by decide) rfl hb93) ?_
                  refine r_not (wn_f rfl rfl (by decide) rfl hb93) ?_
                  refine r_not (wn_f rfl rfl (by decide) rfl hb93) ?_
                  refine r_not (wn_f rfl rfl (by decide) rfl hb93) ?_
                  refine r_not (wn_f rfl rfl (by decide) rfl hb93) ?_
                  refine r_not (wn_u rfl rfl (by decide) rfl rfl) ?_
                  refine r_not (wn_u rfl rfl (by decide) rfl rfl) ?_
                  refine r_not (wn_u rfl rfl (by decide) rfl rfl) ?_
                  refine r_not (wn_u rfl rfl (by decide) rfl rfl) ?_
                  refine r_not (wn_f rfl rfl (by decide) rfl hb93) ?_
                  refine r_pick_t (.bool true) hb93 rfl rfl ?_ (wn_t rfl rfl (by decide) rfl hb92)
                  refine r_pick_t (.bool true) hb92 rfl rfl ?_
                  refine r_nil ?_
                  refine n_cut ⟨true, upk (ac rfl (ac rfl (ac rfl (ac rfl (ac rfl (ac rfl (ac rfl (ac rfl (ac rfl (ac rfl (ac rfl an))))))))))), H65.u3.u3.u3.u3, hm⟩
                · refine r_fa FA54_0 ⟨b59, 0, none⟩ rfl rfl ?_ (wn_t rfl rfl (by decide) rfl hb93)
                  refine r_ld1 (.int .i64 y25.Class) LD3 rfl ((H65.g3).cell _ rfl) ?_ (wn_t rfl rfl (by decide) rfl hb93)
                  refine r_pure (.int .i64 class_) rfl ?_ (wn_t rfl rfl (by decide) rfl hb93)
                  refine r_pure (.bool (y25.Class == class_)) rfl ?_ (wn_t rfl rfl (by decide) rfl hb93)
                  refine r_pure (.bool (y25.Class == class_)) rfl ?_ (wn_t rfl rfl (by decide) rfl hb93)
                  rcases ite_some hm with ⟨hb94, hm⟩ | ⟨hb94, hm⟩
                  · refine r_fa FA54_1 ⟨b59, 1, none⟩ rfl rfl ?_ (wn_t rfl rfl (by decide) rfl hb94)
                    refine r_ld1 (.int .i64 y25.Year) LD3 rfl ((H65.g3).cell _ rfl) ?_ (wn_t rfl rfl (by decide) rfl hb94)
                    refine r_pure (.int .i64 year) rfl ?_ (wn_t rfl rfl (by decide) rfl hb94)
                    refine r_pure (.bool (decide (y25.Year > year))) rfl ?_ (wn_t rfl rfl (by decide) rfl hb94)
                    refine r_pick_t (.bool (decide (y25.Year > year))) hb94 rfl rfl ?_ (wn_t rfl rfl (by decide) rfl hb93)
                    refine r_pick_f (.bool (decide (y25.Year > year))) hb93 rfl rfl ?_ (wn_t rfl rfl (by decide) rfl hb92)
                    refine r_pick_t (.bool (decide (y25.Year > year))) hb92 rfl rfl ?_
                    refine r_nil ?_
                    refine n_cut ⟨decide (y25.Year > year), upk (ac rfl (ac rfl (ac rfl (ac rfl (ac rfl (ac rfl (ac rfl (ac rfl (ac rfl (ac rfl (ac rfl an))))))))))), H65.u3.u3.u3.u3, hm⟩
                  · refine r_not (wn_f rfl rfl (by decide) rfl hb94) ?_
                    refine r_not (wn_f rfl rfl (by decide) rfl hb94) ?_
                    refine r_not (wn_f rfl rfl (by decide) rfl hb94) ?_
                    refine r_not (wn_f rfl rfl (by decide) rfl hb94) ?_
                    refine r_pick_f (.bool false) hb94 rfl rfl ?_ (wn_t rfl rfl (by decide) rfl hb93)
                    refine r_pick_f (.bool false) hb93 rfl rfl ?_ (wn_t rfl rfl (by decide) rfl hb92)
                    refine r_pick_t (.bool false) hb92 rfl rfl ?_
                    refine r_nil ?_
                    refine n_cut ⟨false, upk (ac rfl (ac rfl (ac rfl (ac rfl (ac rfl (ac rfl (ac rfl (ac rfl (ac rfl (ac rfl (ac rfl an))))))))))), H65.u3.u3.u3.u3, hm⟩
              · refine r_not (wn_f rfl rfl (by decide) rfl hb92) ?_
                refine r_not (wn_f rfl rfl (by decide) rfl hb92) ?_
                refine r_not (wn_f rfl rfl (by decide) rfl hb92) ?_
                refine r_not (wn_f rfl rfl (by decide) rfl hb92) ?_
                refine r_not (wn_f rfl rfl (by decide) rfl hb92) ?_
                refine r_not (wn_u rfl rfl (by decide) rfl rfl) ?_
                refine r_not (wn_u rfl rfl (by decide) rfl rfl) ?_
                refine r_not (wn_u rfl rfl (by decide) rfl rfl) ?_
                refine r_not (wn_u rfl rfl (by decide) rfl rfl) ?_
                refine r_not (wn_u rfl rfl (by decide) rfl rfl) ?_
                refine r_not (wn_u rfl rfl (by decide) rfl rfl) ?_
                refine r_not (wn_u rfl rfl (by decide) rfl rfl) ?_
                refine r_not (wn_u rfl rfl (by decide) rfl rfl) ?_
                refine r_not (wn_u rfl rfl (by decide) rfl rfl) ?_
                refine r_not (wn_u rfl rfl (by decide) rfl rfl) ?_
                refine r_not (wn_f rfl rfl (by decide) rfl hb92) ?_
                refine r_pick_f (.bool false) hb92 rfl rfl ?_
                refine r_nil ?_
                refine n_cut ⟨false, upk (ac rfl (ac rfl (ac rfl (ac rfl (ac rfl (ac rfl (ac rfl (ac rfl (ac rfl (ac rfl (ac rfl an))))))))))), H65.u3.u3.u3.u3, hm⟩
            · rintro ρ w ⟨q81, ⟨base, rfl⟩, H82, hm⟩
              unfold scutageref09_Register_set.j5 at hm
              rcases ite_some hm with ⟨hb83, hm⟩ | ⟨hb83, hm⟩
              · refine st_condt hb83 rfl ?_
                refine st_region ?_
                refine r_pure (.slice A11 xs14.length c13) rfl ?_
                refine r_pure (.int .i64 class_) rfl ?_
                refine r_pure (.int .i64 year) rfl ?_
                refine r_pure (.int .i64 n_) rfl ?_
                refine r_build [.int .i64 class_, .int .i64 year, .int .i64 n_] FL54 rfl ?_
                refine r_buildSlice (K := K54) [(⟨class_, year, n_⟩ : api_Bucket)] EL51 rfl rfl rfl (by decide) (by decide) rfl H82 ?_
                intro b84 wd86 H85
                obtain ⟨hf87, hm⟩ := gd_some hm
                refine r_append (K := K54) (ys := [(⟨class_, year, n_⟩ : api_Bucket)]) AP51 rfl rfl rfl rfl H85.u3 (((H85.u3).g1).src) (fit_le hf87 (by decide)) ?_
                intro A88 c89 wd90 H91
                refine r_pure (.slice A88 ((xs14 ++ [(⟨class_, year, n_⟩ : api_Bucket)]).length) c89) rfl ?_
                refine r_pure (.bool true) rfl ?_
                refine r_nil ?_
                refine n_cut ⟨A88, (xs14 ++ [(⟨class_, year, n_⟩ : api_Bucket)]).length, c89, xs14 ++ [(⟨class_, year, n_⟩ : api_Bucket)], true, upk (ac rfl (ac rfl (ac rfl (ac rfl (ac rfl (ac rfl (ac rfl (ac rfl (ac rfl (ac rfl an)))))))))), H91.u1.d.u3.u1.u3.u3, hm⟩
              · refine st_condf hb83 rfl ?_
                refine st_skip ?_
                refine n_cut ⟨A11, xs14.length, c13, xs14, q15, upk (ac rfl (ac rfl (ac rfl (ac rfl (ac rfl (ac rfl (ac rfl (ac rfl (ac rfl (ac rfl an)))))))))), H82.u3.u3.u3.u3, hm⟩
          · rintro ρ w ⟨A67, n68, c69, xs70, q71, ⟨base, rfl⟩, H72, hm⟩
            obtain rfl := (H72.g2).leneq
            unfold scutageref09_Register_set.j4 at hm
            refine st_region ?_
            refine r_pure (.slice A67 xs70.length c69) rfl ?_
            refine r_ldA [.int .i64 y25.Class, .int .i64 y25.Year, .int .i64 y25.Amount] LD54 rfl rfl ((H72.g3).cells rfl) ?_
            refine r_buildSlice (K := K54) [y25] EL51 rfl rfl rfl (by decide) (by decide) rfl H72 ?_
            intro b73 wd75 H74
            obtain ⟨hf76, hm⟩ := gd_some hm
            refine r_append (K := K54) (ys := [y25]) AP51 rfl rfl rfl rfl H74.u3 (((H74.u3).g1).src) (fit_le hf76 (by decide)) ?_
            intro A77 c78 wd79 H80
            refine r_pure (.slice A77 ((xs70 ++ [y25]).length) c78) rfl ?_
            refine r_nil ?_
            refine n_bl ?_
            refine n_cut ⟨A77, (xs70 ++ [y25]).length, c78, xs70 ++ [y25], q71, upk (ac rfl (ac rfl (ac rfl (ac rfl (ac rfl (ac rfl (ac rfl (ac rfl (ac rfl an))))))))), H80.u1.d.u3.d.u2.u2, hm⟩
    · rintro ρ w ⟨A52, n53, c54, xs55, q56, ⟨base, rfl⟩, H57, hm⟩
      obtain rfl := (H57.g2).leneq
      unfold scutageref09_Register_set.j2 at hm
      refine st_region ?_
      refine r_pure (.int .i64 (w64 (i20 + 1))) rfl ?_
      refine r_pure (.int .i64 (w64 (i20 + 1))) rfl ?_
      refine r_nil ?_
      refine n_round (IH28 _ _ rfl _ _ _ ⟨i20 + 1, xs55, q56, dn21 ++ [y25], A52, xs55.length, c54, rfl, range_more hxs22, range_len hi23, upk (ac rfl (ac rfl (ac rfl (ac rfl (ac rfl (ac rfl (ac rfl (ac rfl (ac hnx34 an))))))))), H57.u2.u2.u2⟩ hm)

set_option maxHeartbeats 2000000 in
theorem scutageref09_Register_Move_ok {w0 w : World} {Γ : List (World → Prop)} (b1 : Nat) (r_ : scutageref09_Register) (A2 : Option Addr) (c3 : Nat) (class_ : Int) (year : Int) (n_ : Int) (r0_ : Int) (r1_ : scutageref09_Register) (H : Hp w0 (Bx b1 86 [.slice A2 r_.B.length c3] :: Row K54 (.slice A2 r_.B.length c3) r_.B :: Γ) w) (hm : scutageref09_Register_Move r_ class_ year n_ = some (r0_, r1_)) : Calls Try.prog 56 #[.pointer (some ⟨b1, 0, none⟩), .int .i64 class_, .int .i64 year, .int .i64 n_] w (fun e w => ∃ (Ax1 : Option Addr) (nx2 cx3 : Nat), e = .returned (.int .i64 r0_) ∧ Hp w0 (Bx b1 86 [.slice Ax1 nx2 cx3] :: Row K54 (.slice Ax1 nx2 cx3) r1_.B :: Γ) w) := by
  unfold scutageref09_Register_Move at hm
  refine st_enter Try.func56 rfl Try.ntmps56 (Nat.le_of_ble_eq_true rfl) ?_
  refine st_seq ?_
  refine st_region ?_
  refine r_pure (.int .i64 0) rfl ?_
  refine r_seq ?_
  refine st_seq ?_
  refine st_cut (fun ρ w => ∃ q4 : Bool, (∃ base, ρ = updl base [(0, .pointer (some ⟨b1, 0, none⟩)), (1, .int .i64 class_), (2, .int .i64 year), (3, .int .i64 n_), (18, .bool q4)]) ∧ Hp w0 (Row K54 (.slice A2 r_.B.length c3) r_.B :: Bx b1 86 [.slice A2 r_.B.length c3] :: Γ) w ∧ scutageref09_Register_Move.j1 r_ class_ year n_ q4 = some (r0_, r1_)) ?_ ?_
  · refine st_region ?_
    refine r_pure (.int .i64 class_) rfl ?_
    refine r_pure (.int .i64 year) rfl ?_
    obtain ⟨y63, hy64, hm⟩ := bind_some hm
    refine r_callf Try.call82 (scutageref09_Bucket_ok class_ year y63 H hy64) ?_
    rintro e66 wd65 ⟨rfl, H68⟩
    refine ⟨_, rfl, ?_⟩
    refine r_pure (.bool (!y63)) rfl ?_
    refine r_pure (.bool (!y63)) rfl ?_
    rcases ite_some hm with ⟨hb69, hm⟩ | ⟨hb69, hm⟩
    · refine r_not (wn_f rfl rfl (by decide) rfl hb69) ?_
      refine r_not (wn_f rfl rfl (by decide) rfl hb69) ?_
      refine r_not (wn_f rfl rfl (by decide) rfl hb69) ?_
      refine r_pick_t (.bool true) hb69 rfl rfl ?_
      refine r_nil ?_
      refine n_cut ⟨true, upk (ac rfl (ac rfl (ac rfl (ac rfl (ac rfl an))))), H68.u1, hm⟩
    · refine r_pure (.int .i64 n_) rfl ?_ (wn_t rfl rfl (by decide) rfl hb69)
      obtain ⟨y70, hy71, hm⟩ := bind_some hm
      refine r_callf Try.call83 (scutageref01_Money_ok n_ y70 H68 hy71) ?_ (wn_t rfl rfl (by decide) rfl hb69)
      rintro e73 wd72 ⟨rfl, H75⟩
      refine ⟨_, rfl, ?_⟩
      refine r_pure (.bool (!y70)) rfl ?_ (wn_t rfl rfl (by decide) rfl hb69)
      refine r_pick_f (.bool (!y70)) hb69 rfl rfl ?_
      refine r_nil ?_
      refine n_cut ⟨!y70, upk (ac rfl (ac rfl (ac rfl (ac rfl (ac rfl an))))), H75.u1, hm⟩
  · rintro ρ w ⟨q4, ⟨base, rfl⟩, H5, hm⟩
    unfold scutageref09_Register_Move.j1 at hm
    rcases ite_some hm with ⟨hb6, hm⟩ | ⟨hb6, hm⟩
    · refine st_condt hb6 rfl ?_
      refine st_seq ?_
      refine st_region ?_
      refine r_pure (.int .i64 1) rfl ?_
      refine r_seq ?_
      obtain ⟨rfl, rfl⟩ := some_inj2 hm
      refine st_ret1 rfl rfl (Nat.le_of_ble_eq_true rfl) rfl ?_
      exact ⟨A2, r_.B.length, c3, rfl, H5.u1⟩
    · refine st_condf hb6 rfl ?_
      refine st_skip ?_
      refine n_sq ?_
      refine st_seq ?_
      refine st_cut (fun ρ w => ∃ q7 : Bool, (∃ base, ρ = updl base [(0, .pointer (some ⟨b1, 0, none⟩)), (1, .int .i64 class_), (2, .int .i64 year), (3, .int .i64 n_), (34, .bool q7)]) ∧ Hp w0 (Row K54 (.slice A2 r_.B.length c3) r_.B :: Bx b1 86 [.slice A2 r_.B.length c3] :: Γ) w ∧ scutageref09_Register_Move.j2 r_ class_ year n_ q7 = some (r0_, r1_)) ?_ ?_
      · refine st_region ?_
        refine r_pure (.pointer (some ⟨b1, 0, none⟩)) rfl ?_
        refine r_pure (.int .i64 class_) rfl ?_
        refine r_pure (.int .i64 year) rfl ?_
        obtain ⟨y38, hy39, hm⟩ := bind_some hm
        refine r_callf Try.call84 (scutageref09_Register_Get_ok b1 (⟨r_.B⟩ : scutageref09_Register) A2 r_.B.length c3 rfl (((H5).g0).cap) (fun _ H => (H.g0.rd)) (fun _ H => (H.g1)) class_ year y38 H5 hy39) ?_
        rintro e41 wd40 ⟨rfl, H43⟩
        refine ⟨_, rfl, ?_⟩
        refine r_pure (.int .i64 n_) rfl ?_
        refine r_pure (.int .i64 (w64 (y38 + n_))) rfl ?_
        obtain ⟨y44, hy45, hm⟩ := bind_some hm
        refine r_callf Try.call83 (scutageref01_Money_ok (w64 (y38 + n_)) y44 H43 hy45) ?_
        rintro e47 wd46 ⟨rfl, H49⟩
        refine ⟨_, rfl, ?_⟩
        refine r_pure (.bool (!y44)) rfl ?_
        refine r_pure (.bool (!y44)) rfl ?_
        rcases ite_some hm with ⟨hb50, hm⟩ | ⟨hb50, hm⟩
        · refine r_not (wn_f rfl rfl (by decide) rfl hb50) ?_
          refine r_not (wn_f rfl rfl (by decide) rfl hb50) ?_
          refine r_not (wn_f rfl rfl (by decide) rfl hb50) ?_
          refine r_not (wn_f rfl rfl (by decide) rfl hb50) ?_
          refine r_not (wn_f rfl rfl (by decide) rfl hb50) ?_
          refine r_not (wn_f rfl rfl (by decide) rfl hb50) ?_
          refine r_pick_t (.bool true) hb50 rfl rfl ?_
          refine r_nil ?_
          refine n_cut ⟨true, upk (ac rfl (ac rfl (ac rfl (ac rfl (ac rfl an))))), H49.u1.u1, hm⟩
        · refine r_pure (.pointer (some ⟨b1, 0, none⟩)) rfl ?_ (wn_t rfl rfl (by decide) rfl hb50)
          obtain ⟨y51, hy52, hm⟩ := bind_some hm
          refine r_callf Try.call85 (scutageref09_Register_Total_ok b1 (⟨r_.B⟩ : scutageref09_Register) A2 r_.B.length c3 rfl (((H49).g0).cap) (fun _ H => (H.g0.rd)) (fun _ H => (H.g1)) y51 H49 hy52) ?_ (wn_t rfl rfl (by decide) rfl hb50)
          rintro e54 wd53 ⟨rfl, H56⟩
          refine ⟨_, rfl, ?_⟩
          refine r_pure (.int .i64 n_) rfl ?_ (wn_t rfl rfl (by decide) rfl hb50)
          refine r_pure (.int .i64 (w64 (y51 + n_))) rfl ?_ (wn_t rfl rfl (by decide) rfl hb50)
          obtain ⟨y57, hy58, hm⟩ := bind_some hm
          refine r_callf Try.call83 (scutageref01_Money_ok (w64 (y51 + n_)) y57 H56 hy58) ?_ (wn_t rfl rfl (by decide) rfl hb50)
          rintro e60 wd59 ⟨rfl, H62⟩
          refine ⟨_, rfl, ?_⟩
          refine r_pure (.bool (!y57)) rfl ?_ (wn_t rfl rfl (by decide) rfl hb50)
          refine r_pick_f (.bool (!y57)) hb50 rfl rfl ?_
          refine r_nil ?_
          refine n_cut ⟨!y57, upk (ac rfl (ac rfl (ac rfl (ac rfl (ac rfl an))))), H62.u1.u1, hm⟩
      · rintro ρ w ⟨q7, ⟨base, rfl⟩, H8, hm⟩
        unfold scutageref09_Register_Move.j2 at hm
        rcases ite_some hm with ⟨hb9, hm⟩ | ⟨hb9, hm⟩
        · refine st_condt hb9 rfl ?_
          refine st_seq ?_
          refine st_region ?_
          refine r_pure (.int .i64 6) rfl ?_
          refine r_seq ?_
          obtain ⟨rfl, rfl⟩ := some_inj2 hm
          refine st_ret1 rfl rfl (Nat.le_of_ble_eq_true rfl) rfl ?_
          exact ⟨A2, r_.B.length, c3, rfl, H8.u1⟩
        · refine st_condf hb9 rfl ?_
          refine st_skip ?_
          refine n_sq ?_
          refine st_seq ?_
          refine st_region ?_
          refine r_pure (.pointer (some ⟨b1, 0, none⟩)) rfl ?_
          obtain ⟨y10, hy11, hm⟩ := bind_some hm
          refine r_callf Try.call86 (scutageref09_Register_Copy_ok b1 (⟨r_.B⟩ : scutageref09_Register) A2 r_.B.length c3 rfl (((H8).g0).cap) (fun _ H => (H.g0.rd)) (fun _ H => (H.g1)) y10 H8 hy11) ?_
          rintro e13 wd12 ⟨b16, A17, n18, c19, rfl, H15⟩
          obtain rfl := (H15.g1).leneq
          refine ⟨_, rfl, ?_⟩
          refine r_pure (.pointer (some ⟨b16, 0, none⟩)) rfl ?_
          refine r_seq ?_
          refine st_seq ?_
          refine st_region ?_
          refine r_pure (.pointer (some ⟨b16, 0, none⟩)) rfl ?_
          refine r_pure (.int .i64 class_) rfl ?_
          refine r_pure (.int .i64 year) rfl ?_
          refine r_pure (.pointer (some ⟨b1, 0, none⟩)) rfl ?_
          refine r_pure (.int .i64 class_) rfl ?_
          refine r_pure (.int .i64 year) rfl ?_
          obtain ⟨y20, hy21, hm⟩ := bind_some hm
          refine r_callf Try.call84 (scutageref09_Register_Get_ok b1 (⟨r_.B⟩ : scutageref09_Register) A2 r_.B.length c3 rfl (((H15).g2).cap) (fun _ H => (H.g2.rd)) (fun _ H => (H.g3)) class_ year y20 H15 hy21) ?_
          rintro e23 wd22 ⟨rfl, H25⟩
          refine ⟨_, rfl, ?_⟩
          refine r_pure (.int .i64 n_) rfl ?_
          refine r_pure (.int .i64 (w64 (y20 + n_))) rfl ?_
          obtain ⟨y26, hy27, hm⟩ := bind_some hm
          refine r_callf Try.call87 (scutageref09_Register_set_ok b16 (⟨y10.B⟩ : scutageref09_Register) A17 c19 class_ year (w64 (y20 + n_)) y26 H25.u1.u1 hy27) ?_
          rintro e29 wd28 ⟨A32, n33, c34, rfl, H31⟩
          obtain rfl := (H31.g1).leneq
          refine ⟨_, rfl, ?_⟩
          refine r_seq ?_
          refine st_seq ?_
          refine st_seq ?_
          refine st_region ?_
          refine r_pure (.pointer (some ⟨b16, 0, none⟩)) rfl ?_
          refine r_pure (.pointer (some ⟨b16, 0, none⟩)) rfl ?_
          refine r_fa FA86_0 ⟨b16, 0, none⟩ rfl rfl ?_
          refine r_ld1 (.slice A32 y26.B.length c34) LD51 rfl ((H31.g0).cell _ rfl) ?_
          refine r_len Try.underlying51 rfl ?_
          refine r_pure (.bool (decide ((y26.B.length : Int) > 12))) rfl ?_
          refine r_seq ?_
          rcases ite_some hm with ⟨hb35, hm⟩ | ⟨hb35, hm⟩
          · refine st_condt hb35 rfl ?_
            refine st_seq ?_
            refine st_region ?_
            refine r_pure (.int .i64 5) rfl ?_
            refine r_seq ?_
            obtain ⟨rfl, rfl⟩ := some_inj2 hm
            refine st_ret1 rfl rfl (Nat.le_of_ble_eq_true rfl) rfl ?_
            exact ⟨A2, r_.B.length, c3, rfl, H31.d.d.u1⟩
          · refine st_condf hb35 rfl ?_
            refine st_skip ?_
            refine n_sq ?_
            refine st_seq ?_
            refine st_region ?_
            refine r_pure (.pointer (some ⟨b1, 0, none⟩)) rfl ?_
            refine r_pure (.pointer (some ⟨b16, 0, none⟩)) rfl ?_
            refine r_pure (.pointer (some ⟨b16, 0, none⟩)) rfl ?_
            refine r_fa FA86_0 ⟨b16, 0, none⟩ rfl rfl ?_
            refine r_ld1 (.slice A32 y26.B.length c34) LD51 rfl ((H31.g0).cell _ rfl) ?_
            refine r_pure (.pointer (some ⟨b1, 0, none⟩)) rfl ?_
            refine r_fa FA86_0 ⟨b1, 0, none⟩ rfl rfl ?_
            refine r_st1 LD51 rfl rfl rfl H31.u3 rfl ?_
            intro wd37 H36
            refine r_seq ?_
            refine st_seq ?_
            refine st_region ?_
            refine r_pure (.int .i64 0) rfl ?_
            refine r_seq ?_
            obtain ⟨rfl, rfl⟩ := some_inj2 hm
            refine st_ret1 rfl rfl (Nat.le_of_ble_eq_true rfl) rfl ?_
            exact ⟨A32, y26.B.length, c34, rfl, H36.u1.d.u2.d.u1.u1⟩

set_option maxHeartbeats 2000000 in
theorem scutageplay_Register_ok {w0 w : World} {Γ : List (World → Prop)} (l_ : List Int) (A1 : Option Addr) (n6 c2 : Nat) (hn5 : n6 = l_.length) (hc3 : l_.length ≤ c2) (hv4 : ∀ u, Hp w0 Γ u → SlR K3 A1 l_ u) (r0_ : scutageref09_Register) (H : Hp w0 (Γ) w) (hm : scutageplay_Register l_ = some r0_) : Calls Try.prog 27 #[.slice A1 n6 c2] w (fun e w => ∃ (bx1 : Nat), ∃ (Ax2 : Option Addr) (nx3 cx4 : Nat), e = .returned (.pointer (some ⟨bx1, 0, none⟩)) ∧ Hp w0 (Bx bx1 86 [.slice Ax2 nx3 cx4] :: Row K54 (.slice Ax2 nx3 cx4) r0_.B :: Γ) w) := by
  subst hn5
  unfold scutageplay_Register at hm
  refine st_enter Try.func27 rfl Try.ntmps27 (Nat.le_of_ble_eq_true rfl) ?_
  refine st_seq ?_
  refine st_region ?_
  refine r_pure (.pointer none) rfl ?_
  refine r_seq ?_
  refine st_seq ?_
  refine st_region ?_
  refine r_build [.slice none 0 0] FL86 rfl ?_
  refine r_box [.slice none 0 0] H rfl ?_
  intro b7 wd9 H8
  refine r_pure (.pointer (some ⟨b7, 0, none⟩)) rfl ?_
  refine r_seq ?_
  refine st_seq ?_
  refine st_seq ?_
  refine st_region ?_
  refine r_pure (.int .i64 0) rfl ?_
  refine r_seq ?_
  refine st_block ?_
  have H16 := H8.add (A := Row K54 (.slice none 0 0) []) Row.nil
  obtain ⟨tl24, hl25, hm23⟩ := bind_some hm
  refine st_loopF (scutageplay_Register.l1 l_) (fun s ρ w => ∃ xs20 : List api_Bucket, ∃ v21 : Int, ∃ A17 : Option Addr, ∃ n18 : Nat, ∃ c19 : Nat, (xs20, v21) = s ∧ (∃ base, ρ = updl base [(0, .slice A1 l_.length c2), (3, .pointer (some ⟨b7, 0, none⟩)), (4, .int .i64 v21)]) ∧ Hp w0 (Row K54 (.slice A17 n18 c19) xs20 :: Bx b7 86 [.slice A17 n18 c19] :: Γ) w) hl25 (fun _ => rfl) ⟨([] : List api_Bucket), 0, none, 0, 0, rfl, upk (ac rfl (ac rfl (ac rfl an))), H16.u1.u1⟩ ?_
  rintro fuel31 IH33 s ρ w ⟨xs20, v21, A17, n18, c19, rfl, ⟨base, rfl⟩, H22⟩ hm
  obtain rfl := (H22.g0).leneq
  rw [scutageplay_Register.l1] at hm
  refine st_seq ?_
  refine st_cut (fun ρ w => ∃ q34 : Bool, (∃ base, ρ = updl base [(0, .slice A1 l_.length c2), (3, .pointer (some ⟨b7, 0, none⟩)), (4, .int .i64 v21), (14, .bool q34)]) ∧ Hp w0 (Row K54 (.slice A17 xs20.length c19) xs20 :: Bx b7 86 [.slice A17 xs20.length c19] :: Γ) w ∧ scutageplay_Register.j1 v21 l_ xs20 (scutageplay_Register.l1 l_ fuel31) q34 = some tl24) ?_ ?_
  · refine st_region ?_
    refine r_pure (.int .i64 v21) rfl ?_
    refine r_pure (.slice A1 l_.length c2) rfl ?_
    refine r_len Try.underlying29 rfl ?_
    refine r_pure (.bool (decide (v21 < (l_.length : Int)))) rfl ?_
    refine r_pure (.bool (decide (v21 < (l_.length : Int)))) rfl ?_
    rcases ite_some hm with ⟨hb211, hm⟩ | ⟨hb211, hm⟩
    · refine r_pure (.int .i64 v21) rfl ?_ (wn_t rfl rfl (by decide) rfl hb211)
      refine r_pure (.bool (decide (v21 < 10))) rfl ?_ (wn_t rfl rfl (by decide) rfl hb211)
      refine r_pick_t (.bool (decide (v21 < 10))) hb211 rfl rfl ?_
      refine r_nil ?_
      refine n_cut ⟨decide (v21 < 10), upk (ac rfl (ac rfl (ac rfl (ac rfl an)))), H22.u1.u1, hm⟩
    · refine r_not (wn_f rfl rfl (by decide) rfl hb211) ?_
      refine r_not (wn_f rfl rfl (by decide) rfl hb211) ?_
      refine r_pick_f (.bool false) hb211 rfl rfl ?_
      refine r_nil ?_
      refine n_cut ⟨false, upk (ac rfl (ac rfl (ac rfl (ac rfl an)))), H22.u1.u1, hm⟩
  · rintro ρ w ⟨q34, ⟨base, rfl⟩, H35, hm⟩
    unfold scutageplay_Register.j1 at hm
    rcases ite_some hm with ⟨hb36, hm⟩ | ⟨hb36, hm⟩
    · refine st_condt hb36 rfl ?_
      refine st_skip ?_
      refine n_sq ?_
      refine st_seq ?_
      refine st_block ?_
      obtain ⟨⟨h038, h139⟩, hm⟩ := gd_some hm
      have hj40 := rd_get h038 h139
      obtain ⟨y42, hy43, hm⟩ := bind_some hm
      obtain ⟨y48, hy49, hm⟩ := bind_some hm
      obtain ⟨y54, hy55, hm⟩ := bind_some hm
      obtain ⟨⟨y60, y61⟩, hy62, hm⟩ := bind_some hm
      refine Flow.run' [[], [], [], [1, 2], [1, 2, 3], [1, 2, 3, 4], [1, 2, 3, 4, 5], [], [], [7, 8], [7, 8, 9], [7, 8, 9, 10], [1, 2, 3, 4, 5, 7, 8, 9, 10, 11], [], [], [13, 14], [13, 14, 15], [13, 14, 15, 16], [1, 2, 3, 4, 5, 7, 8, 9, 10, 11, 12, 13, 14, 15, 16, 17], [0, 1, 2, 3, 4, 5, 6, 7, 8, 9, 10, 11, 12, 13, 14, 15, 16, 17, 18]] [(17, 0), (18, 1), (19, 2), (20, 3), (21, 4), (22, 5), (23, 6), (24, 7), (25, 8), (26, 9), (27, 10), (28, 11), (29, 12), (30, 13), (31, 14), (32, 15), (33, 16), (34, 17), (35, 18), (36, 19)] [(fun η37 v => v.1 = .pointer (some ⟨b7, 0, none⟩)), (fun η37 v => v.1 = .slice A1 l_.length c2), (fun η37 v => v.1 = .int .i64 v21), (fun η37 v => v.1 = .pointer (some ((oA A1).add (Int.toNat v21 * 1)))), (fun η37 v => v.1 = .int .i64 (rd l_ v21)), (fun η37 v => v.1 = .int .i64 y42), (fun η37 v => v.1 = .int .i64 (w64 (1 + y42))), (fun η37 v => v.1 = .slice A1 l_.length c2), (fun η37 v => v.1 = .int .i64 v21), (fun η37 v => v.1 = .pointer (some ((oA A1).add (Int.toNat v21 * 1)))), (fun η37 v => v.1 = .int .i64 (rd l_ v21)), (fun η37 v => v.1 = .int .i64 (w64 (Int.tdiv (rd l_ v21) 3))), (fun η37 v => v.1 = .int .i64 y48), (fun η37 v => v.1 = .slice A1 l_.length c2), (fun η37 v => v.1 = .int .i64 v21), (fun η37 v => v.1 = .pointer (some ((oA A1).add (Int.toNat v21 * 1)))), (fun η37 v => v.1 = .int .i64 (rd l_ v21)), (fun η37 v => v.1 = .int .i64 (w64 (Int.tdiv (rd l_ v21) 15))), (fun η37 v => v.1 = .int .i64 y54), (fun η37 v => v.1 = .int .i64 y60)] [⟨none, (some 19), fun η37 => Row K54 (.slice A17 xs20.length c19) xs20⟩, ⟨none, (some 19), fun η37 => Bx b7 86 [.slice A17 xs20.length c19]⟩, ⟨(some 19), none, fun η37 => Bx b7 86 [.slice (vA (vT 1 ((η37 19).2))) y61.B.length (vC (vT 1 ((η37 19).2)))]⟩, ⟨(some 19), none, fun η37 => Row K54 (.slice (vA (vT 1 ((η37 19).2))) y61.B.length (vC (vT 1 ((η37 19).2)))) y61.B⟩] rfl (by kernel_rfl) (by kernel_rfl) H35.u1.u1 ⟨?_, ?_, ?_, ?_, ?_, ?_, ?_, ?_, ?_, ?_, ?_, ?_, ?_, ?_, ?_, ?_, ?_, ?_, ?_, ?_, trivial⟩ ?_
      · intro η37 wd73 Δ74 hE70 hR71 H72
        have H72 : Hp w0 ((Δ74 ++ Γ)) wd73 := H72
        refine sp_op [(3, .pointer (some ⟨b7, 0, none⟩))] (ac rfl an) ?_
        refine r_pure (.pointer (some ⟨b7, 0, none⟩)) rfl ?_
        exact r_nil (n_lp ⟨_, rfl, undef, rfl, H72⟩)
      · intro η37 wd78 Δ79 hE75 hR76 H77
        have H77 : Hp w0 ((Δ79 ++ Γ)) wd78 := H77
        refine sp_op [(0, .slice A1 l_.length c2)] (ac rfl an) ?_
        refine r_pure (.slice A1 l_.length c2) rfl ?_
        exact r_nil (n_lp ⟨_, rfl, undef, rfl, H77⟩)
      · intro η37 wd83 Δ84 hE80 hR81 H82
        have H82 : Hp w0 ((Δ84 ++ Γ)) wd83 := H82
        refine sp_op [(4, .int .i64 v21)] (ac rfl an) ?_
        refine r_pure (.int .i64 v21) rfl ?_
        exact r_nil (n_lp ⟨_, rfl, undef, rfl, H82⟩)
      · intro η37 wd88 Δ89 hE85 hR86 H87
        have H87 : Hp w0 ((Δ89 ++ Γ)) wd88 := H87
        refine sp_op [(18, .slice A1 l_.length c2), (19, .int .i64 v21)] (ac (hE85 1 (by decide)) (ac (hE85 2 (by decide)) an)) ?_
        have hA93 := (hv4 _ (H87).tl).adO hj40
        refine r_ix IX29 rfl rfl hA93 h038 h139 ?_
        exact r_nil (n_lp ⟨_, rfl, undef, rfl, H87⟩)
      · intro η37 wd97 Δ98 hE94 hR95 H96
        have H96 : Hp w0 ((Δ98 ++ Γ)) wd97 := H96
        refine sp_op [(20, .pointer (some ((oA A1).add (Int.toNat v21 * 1))))] (ac (hE94 3 (by decide)) an) ?_
        have hA99 := (hv4 _ (H96).tl).adO hj40
        refine r_ld1 (.int .i64 (rd l_ v21)) LD3 rfl ((hv4 _ (H96).tl).c0A hA99 hj40 _ rfl) ?_
        exact r_nil (n_lp ⟨_, rfl, undef, rfl, H96⟩)
      · intro η37 wd103 Δ104 hE100 hR101 H102
        have H102 : Hp w0 ((Δ104 ++ Γ)) wd103 := H102
        refine sp_op [(21, .int .i64 (rd l_ v21))] (ac (hE100 4 (by decide)) an) ?_
        refine r_callf Try.call9 (scutagekeep_Within_ok (rd l_ v21) 3 y42 H102 hy43) ?_
        rintro e108 wd107 ⟨rfl, H110⟩
        refine ⟨_, rfl, ?_⟩
        exact r_nil (n_lp ⟨_, rfl, undef, rfl, H110⟩)
      · intro η37 wd114 Δ115 hE111 hR112 H113
        have H113 : Hp w0 ((Δ115 ++ Γ)) wd114 := H113
        refine sp_op [(22, .int .i64 y42)] (ac (hE111 5 (by decide)) an) ?_
        refine r_pure (.int .i64 (w64 (1 + y42))) rfl ?_
        exact r_nil (n_lp ⟨_, rfl, undef, rfl, H113⟩)
      · intro η37 wd119 Δ120 hE116 hR117 H118
        have H118 : Hp w0 ((Δ120 ++ Γ)) wd119 := H118
        refine sp_op [(0, .slice A1 l_.length c2)] (ac rfl an) ?_
        refine r_pure (.slice A1 l_.length c2) rfl ?_
        exact r_nil (n_lp ⟨_, rfl, undef, rfl, H118⟩)
      · intro η37 wd124 Δ125 hE121 hR122 H123
        have H123 : Hp w0 ((Δ125 ++ Γ)) wd124 := H123
        refine sp_op [(4, .int .i64 v21)] (ac rfl an) ?_
        refine r_pure (.int .i64 v21) rfl ?_
        exact r_nil (n_lp ⟨_, rfl, undef, rfl, H123⟩)
      · intro η37 wd129 Δ130 hE126 hR127 H128
        have H128 : Hp w0 ((Δ130 ++ Γ)) wd129 := H128
        refine sp_op [(24, .slice A1 l_.length c2), (25, .int .i64 v21)] (ac (hE126 7 (by decide)) (ac (hE126 8 (by decide)) an)) ?_
        have hA131 := (hv4 _ (H128).tl).adO hj40
        refine r_ix IX29 rfl rfl hA131 h038 h139 ?_
        exact r_nil (n_lp ⟨_, rfl, undef, rfl, H128⟩)
      · intro η37 wd135 Δ136 hE132 hR133 H134
        have H134 : Hp w0 ((Δ136 ++ Γ)) wd135 := H134
        refine sp_op [(26, .pointer (some ((oA A1).add (Int.toNat v21 * 1))))] (ac (hE132 9 (by decide)) an) ?_
        have hA137 := (hv4 _ (H134).tl).adO hj40
        refine r_ld1 (.int .i64 (rd l_ v21)) LD3 rfl ((hv4 _ (H134).tl).c0A hA137 hj40 _ rfl) ?_
        exact r_nil (n_lp ⟨_, rfl, undef, rfl, H134⟩)
      · intro η37 wd141 Δ142 hE138 hR139 H140
        have H140 : Hp w0 ((Δ142 ++ Γ)) wd141 := H140
        refine sp_op [(27, .int .i64 (rd l_ v21))] (ac (hE138 10 (by decide)) an) ?_
        refine r_quo (by decide) rfl rfl ?_
        exact r_nil (n_lp ⟨_, rfl, undef, rfl, H140⟩)
      · intro η37 wd146 Δ147 hE143 hR144 H145
        have H145 : Hp w0 ((Δ147 ++ Γ)) wd146 := H145
        refine sp_op [(28, .int .i64 (w64 (Int.tdiv (rd l_ v21) 3)))] (ac (hE143 11 (by decide)) an) ?_
        refine r_callf Try.call9 (scutagekeep_Within_ok (w64 (Int.tdiv (rd l_ v21) 3)) 5 y48 H145 hy49) ?_
        rintro e151 wd150 ⟨rfl, H153⟩
        refine ⟨_, rfl, ?_⟩
        exact r_nil (n_lp ⟨_, rfl, undef, rfl, H153⟩)
      · intro η37 wd157 Δ158 hE154 hR155 H156
        have H156 : Hp w0 ((Δ158 ++ Γ)) wd157 := H156
        refine sp_op [(0, .slice A1 l_.length c2)] (ac rfl an) ?_
        refine r_pure (.slice A1 l_.length c2) rfl ?_
        exact r_nil (n_lp ⟨_, rfl, undef, rfl, H156⟩)
      · intro η37 wd162 Δ163 hE159 hR160 H161
        have H161 : Hp w0 ((Δ163 ++ Γ)) wd162 := H161
        refine sp_op [(4, .int .i64 v21)] (ac rfl an) ?_
        refine r_pure (.int .i64 v21) rfl ?_
        exact r_nil (n_lp ⟨_, rfl, undef, rfl, H161⟩)
      · intro η37 wd167 Δ168 hE164 hR165 H166
        have H166 : Hp w0 ((Δ168 ++ Γ)) wd167 := H166
        refine sp_op [(30, .slice A1 l_.length c2), (31, .int .i64 v21)] (ac (hE164 13 (by decide)) (ac (hE164 14 (by decide)) an)) ?_
        have hA169 := (hv4 _ (H166).tl).adO hj40
        refine r_ix IX29 rfl rfl hA169 h038 h139 ?_
        exact r_nil (n_lp ⟨_, rfl, undef, rfl, H166⟩)
      · intro η37 wd173 Δ174 hE170 hR171 H172
        have H172 : Hp w0 ((Δ174 ++ Γ)) wd173 := H172
        refine sp_op [(32, .pointer (some ((oA A1).add (Int.toNat v21 * 1))))] (ac (hE170 15 (by decide)) an) ?_
        have hA175 := (hv4 _ (H172).tl).adO hj40
        refine r_ld1 (.int .i64 (rd l_ v21)) LD3 rfl ((hv4 _ (H172).tl).c0A hA175 hj40 _ rfl) ?_
        exact r_nil (n_lp ⟨_, rfl, undef, rfl, H172⟩)
      · intro η37 wd179 Δ180 hE176 hR177 H178
        have H178 : Hp w0 ((Δ180 ++ Γ)) wd179 := H178
        refine sp_op [(33, .int .i64 (rd l_ v21))] (ac (hE176 16 (by decide)) an) ?_
        refine r_quo (by decide) rfl rfl ?_
        exact r_nil (n_lp ⟨_, rfl, undef, rfl, H178⟩)
      · intro η37 wd184 Δ185 hE181 hR182 H183
        have H183 : Hp w0 ((Δ185 ++ Γ)) wd184 := H183
        refine sp_op [(34, .int .i64 (w64 (Int.tdiv (rd l_ v21) 15)))] (ac (hE181 17 (by decide)) an) ?_
        refine r_callf Try.call10 (scutageplay_Amount_ok (w64 (Int.tdiv (rd l_ v21) 15)) y54 H183 hy55) ?_
        rintro e189 wd188 ⟨rfl, H191⟩
        refine ⟨_, rfl, ?_⟩
        exact r_nil (n_lp ⟨_, rfl, undef, rfl, H191⟩)
      · intro η37 wd195 Δ196 hE192 hR193 H194
        have H194 : Hp w0 (Row K54 (.slice A17 xs20.length c19) xs20 :: Bx b7 86 [.slice A17 xs20.length c19] :: (Δ196 ++ Γ)) wd195 := H194
        refine sp_op [(17, .pointer (some ⟨b7, 0, none⟩)), (23, .int .i64 (w64 (1 + y42))), (29, .int .i64 y48), (35, .int .i64 y54)] (ac (hE192 0 (by decide)) (ac (hE192 6 (by decide)) (ac (hE192 12 (by decide)) (ac (hE192 18 (by decide)) an)))) ?_
        refine r_callf Try.call56 (scutageref09_Register_Move_ok b7 (⟨xs20⟩ : scutageref09_Register) A17 c19 (w64 (1 + y42)) y48 y54 y60 y61 H194.u1 hy62) ?_
        rintro e201 wd200 ⟨A204, n205, c206, rfl, H203⟩
        obtain rfl := (H203.g1).leneq
        refine ⟨_, rfl, ?_⟩
        exact r_nil (n_lp ⟨_, rfl, (.tuple #[.pointer (some ⟨b7, 0, none⟩), .slice A204 y61.B.length c206, .slice A204 y61.B.length c206]), rfl, H203.u1.u1⟩)
      · intro η37 wd208 hV209 H207
        have H210 : Hp w0 (Bx b7 86 [.slice (vA (vT 1 ((η37 19).2))) y61.B.length (vC (vT 1 ((η37 19).2)))] :: Row K54 (.slice (vA (vT 1 ((η37 19).2))) y61.B.length (vC (vT 1 ((η37 19).2)))) y61.B :: Γ) wd208 := H207
        refine n_frame [(0, .slice A1 l_.length c2), (3, .pointer (some ⟨b7, 0, none⟩)), (4, .int .i64 v21)] (ac rfl (ac rfl (ac rfl an))) ?_
        refine n_bl ?_
        refine n_sq ?_
        refine st_region ?_
        refine r_pure (.int .i64 v21) rfl ?_
        refine r_pure (.int .i64 (w64 (v21 + 1))) rfl ?_
        refine r_pure (.int .i64 (w64 (v21 + 1))) rfl ?_
        refine r_nil ?_
        refine n_round (IH33 _ _ _ ⟨y61.B, w64 (v21 + 1), (vA (vT 1 ((η37 19).2))), y61.B.length, (vC (vT 1 ((η37 19).2))), rfl, upk (ac rfl (ac rfl (ac rfl an))), H210.u1⟩ hm)
    · refine st_condf hb36 rfl ?_
      have hq_ := Option.some.inj hm
      refine st_exit rfl ?_
      subst hq_
      refine n_sq ?_
      refine st_seq ?_
      refine st_region ?_
      refine r_pure (.pointer (some ⟨b7, 0, none⟩)) rfl ?_
      refine r_pure (.pointer (some ⟨b7, 0, none⟩)) rfl ?_
      refine r_seq ?_
      have hq_ := Option.some.inj hm23
      subst hq_
      refine st_ret1 rfl rfl (Nat.le_of_ble_eq_true rfl) rfl ?_
      exact ⟨b7, A17, xs20.length, c19, rfl, H35.u1⟩

set_option maxHeartbeats 2000000 in
theorem bucket_New_ok {w0 w : World} {Γ : List (World → Prop)}  (r0_ : bucket_Register) (H : Hp w0 (Γ) w) (hm : bucket_New = some r0_) : Calls Try.prog 55 #[] w (fun e w => ∃ (bx1 : Nat), ∃ (Ax2 : Option Addr) (nx3 cx4 : Nat), e = .returned (.pointer (some ⟨bx1, 0, none⟩)) ∧ Hp w0 (Bx bx1 89 [.slice Ax2 nx3 cx4] :: Row K54 (.slice Ax2 nx3 cx4) r0_.f_l :: Γ) w) := by
  unfold bucket_New at hm
  refine st_enter Try.func55 rfl Try.ntmps55 (Nat.le_of_ble_eq_true rfl) ?_
  refine st_seq ?_
  refine st_region ?_
  refine r_pure (.pointer none) rfl ?_
  refine r_seq ?_
  refine st_seq ?_
  refine st_region ?_
  refine r_build [.slice none 0 0] FL89 rfl ?_
  refine r_box [.slice none 0 0] H rfl ?_
  intro b1 wd3 H2
  refine r_pure (.pointer (some ⟨b1, 0, none⟩)) rfl ?_
  refine r_seq ?_
  have H4 := H2.add (A := Row K54 (.slice none 0 0) []) Row.nil
  have hq_ := Option.some.inj hm
  subst hq_
  refine st_ret1 rfl rfl (Nat.le_of_ble_eq_true rfl) rfl ?_
  exact ⟨b1, none, 0, 0, rfl, H4.u1⟩

set_option maxHeartbeats 2000000 in
theorem bucket_Register_Total_ok {w0 w : World} {Γ : List (World → Prop)} (b1 : Nat) (r_ : bucket_Register) (A2 : Option Addr) (n7 c3 : Nat) (hn6 : n7 = r_.f_l.length) (hc4 : r_.f_l.length ≤ c3) (hv5 : ∀ u, Hp w0 Γ u → SlR K54 A2 r_.f_l u) (hv8 : ∀ u, Hp w0 Γ u → Bx b1 89 [.slice A2 n7 c3] u) (r0_ : Int) (H : Hp w0 (Γ) w) (hm : bucket_Register_Total r_ = some r0_) : Calls Try.prog 29 #[.pointer (some ⟨b1, 0, none⟩)] w (fun e w => e = .returned (.int .i64 r0_) ∧ Hp w0 (Γ) w) := by
  subst hn6
  unfold bucket_Register_Total at hm
  refine st_enter Try.func29 rfl Try.ntmps29 (Nat.le_of_ble_eq_true rfl) ?_
  refine st_seq ?_
  refine st_region ?_
  refine r_pure (.int .i64 0) rfl ?_
  refine r_seq ?_
  refine st_seq ?_
  refine st_region ?_
  refine r_pure (.int .i64 0) rfl ?_
  refine r_seq ?_
  refine st_seq ?_
  refine st_seq ?_
  refine st_region ?_
  refine r_pure (.pointer (some ⟨b1, 0, none⟩)) rfl ?_
  refine r_pure (.pointer (some ⟨b1, 0, none⟩)) rfl ?_
  refine r_fa FA89_0 ⟨b1, 0, none⟩ rfl rfl ?_
  refine r_ld1 (.slice A2 r_.f_l.length c3) LD51 rfl ((hv8 _ H).cell _ rfl) ?_
  refine r_len Try.underlying51 rfl ?_
  refine r_pure (.int .i64 0) rfl ?_
  refine r_seq ?_
  refine st_block ?_
  have hlim30 := (hv5 _ H).lim
  obtain ⟨tl13, hl14, hm12⟩ := bind_some hm
  refine st_loopL (bucket_Register_Total.l1) (fun ys19 s ρ w => ∃ i15 : Int, ∃ v10 : Int, ∃ dn16 : List api_Bucket, (i15, v10) = s ∧ r_.f_l = dn16 ++ ys19 ∧ i15 = (dn16.length : Int) ∧ (∃ base, ρ = updl base [(3, .int .i64 v10), (9, .slice A2 r_.f_l.length c3), (10, .int .i64 (r_.f_l.length : Int)), (11, .int .i64 i15)]) ∧ Hp w0 (Γ) w) hl14 ⟨0, 0, [], rfl, rfl, rfl, upk (ac rfl (ac rfl (ac rfl (ac rfl an)))), H⟩ ?_
  rintro m ys19 IH23 s ρ w ⟨i15, v10, dn16, rfl, hxs17, hi18, ⟨base, rfl⟩, H11⟩ hm
  rcases ys19 with _ | ⟨y20, ys19⟩
  · rw [bucket_Register_Total.l1] at hm
    have hb24 := range_end hxs17 hi18
    refine st_seq ?_
    refine st_region ?_
    refine r_pure (.bool (decide (i15 < (r_.f_l.length : Int)))) rfl ?_
    refine r_seq ?_
    refine st_seq ?_
    refine st_condf hb24 rfl ?_
    have hq_ := Option.some.inj hm
    refine st_exit rfl ?_
    subst hq_
    refine n_sq ?_
    refine st_seq ?_
    refine st_region ?_
    refine r_pure (.int .i64 v10) rfl ?_
    refine r_pure (.int .i64 v10) rfl ?_
    refine r_seq ?_
    have hq_ := Option.some.inj hm12
    subst hq_
    refine st_ret1 rfl rfl (Nat.le_of_ble_eq_true rfl) rfl ?_
    exact ⟨rfl, H11⟩
  · rw [bucket_Register_Total.l1] at hm
    have hb25 := range_in hxs17 hi18
    obtain ⟨h026, h127, hj28⟩ := range_ix hxs17 hi18
    have hnx29 := range_next hxs17 hi18 hlim30
    refine st_seq ?_
    refine st_region ?_
    refine r_pure (.bool (decide (i15 < (r_.f_l.length : Int)))) rfl ?_
    refine r_seq ?_
    refine st_seq ?_
    refine st_condt hb25 rfl ?_
    refine st_skip ?_
    refine n_sq ?_
    refine st_seq ?_
    refine st_block ?_
    refine st_seq ?_
    refine st_region ?_
    have hA31 := (hv5 _ H11).adO hj28
    refine r_ix IX51 rfl rfl hA31 h026 h127 ?_
    refine r_ldA [.int .i64 y20.Class, .int .i64 y20.Year, .int .i64 y20.Amount] LD54 rfl rfl ((hv5 _ H11).csA hA31 hj28) ?_
    refine r_alloc [.int .i64 0, .int .i64 0, .int .i64 0] Try.zeroValue54 H11 rfl ?_
    intro b32 wd34 H33
    refine r_stA [.int .i64 y20.Class, .int .i64 y20.Year, .int .i64 y20.Amount] LD54 rfl rfl rfl rfl H33 (Nat.le_of_ble_eq_true rfl) rfl ?_
    intro wd36 H35
    refine r_seq ?_
    refine st_region ?_
    refine r_pure (.int .i64 v10) rfl ?_
    refine r_fa FA54_2 ⟨b32, 2, none⟩ rfl rfl ?_
    refine r_ld1 (.int .i64 y20.Amount) LD3 rfl ((H35.g0).cell _ rfl) ?_
    refine r_pure (.int .i64 (w64 (v10 + y20.Amount))) rfl ?_
    refine r_pure (.int .i64 (w64 (v10 + y20.Amount))) rfl ?_
    refine r_nil ?_
    refine n_bl ?_
    refine n_sq ?_
    refine st_region ?_
    refine r_pure (.int .i64 (w64 (i15 + 1))) rfl ?_
    refine r_pure (.int .i64 (w64 (i15 + 1))) rfl ?_
    refine r_nil ?_
    refine n_round (IH23 _ _ rfl _ _ _ ⟨i15 + 1, w64 (v10 + y20.Amount), dn16 ++ [y20], rfl, range_more hxs17, range_len hi18, upk (ac rfl (ac rfl (ac rfl (ac hnx29 an)))), H35.d⟩ hm)

set_option maxHeartbeats 2000000 in
theorem bucket_right_ok {w0 w : World} {Γ : List (World → Prop)} (class_ : Int) (year : Int) (r0_ : Bool) (H : Hp w0 (Γ) w) (hm : bucket_right class_ year = some r0_) : Calls Try.prog 61 #[.int .i64 class_, .int .i64 year] w (fun e w => e = .returned (.bool r0_) ∧ Hp w0 (Γ) w) := by
  unfold bucket_right at hm
  refine st_enter Try.func61 rfl Try.ntmps61 (Nat.le_of_ble_eq_true rfl) ?_
  refine st_seq ?_
  refine st_region ?_
  refine r_pure (.bool false) rfl ?_
  refine r_seq ?_
  refine st_cut (fun ρ w => ∃ q1 : Bool, (∃ base, ρ = updl base [(4, .bool q1)]) ∧ Hp w0 (Γ) w ∧ bucket_right.j1 q1 = some r0_) ?_ ?_
  · refine st_region ?_
    refine r_pure (.int .i64 class_) rfl ?_
    refine r_pure (.bool (decide (class_ ≥ 1))) rfl ?_
    refine r_pure (.bool (decide (class_ ≥ 1))) rfl ?_
    rcases ite_some hm with ⟨hb3, hm⟩ | ⟨hb3, hm⟩
    · refine r_pure (.int .i64 class_) rfl ?_ (wn_t rfl rfl (by decide) rfl hb3)
      refine r_pure (.bool (decide (class_ ≤ 9))) rfl ?_ (wn_t rfl rfl (by decide) rfl hb3)
      refine r_pick_t (.bool (decide (class_ ≤ 9))) hb3 rfl rfl ?_
      refine r_pure (.bool (decide (class_ ≤ 9))) rfl ?_
      rcases ite_some hm with ⟨hb4, hm⟩ | ⟨hb4, hm⟩
      · refine r_pure (.int .i64 year) rfl ?_ (wn_t rfl rfl (by decide) rfl hb4)
        refine r_pure (.bool (decide (year ≥ 0))) rfl ?_ (wn_t rfl rfl (by decide) rfl hb4)
        refine r_pick_t (.bool (decide (year ≥ 0))) hb4 rfl rfl ?_
        refine r_pure (.bool (decide (year ≥ 0))) rfl ?_
        rcases ite_some hm with ⟨hb5, hm⟩ | ⟨hb5, hm⟩
        · refine r_pure (.int .i64 year) rfl ?_ (wn_t rfl rfl (by decide) rfl hb5)
          refine r_pure (.bool (decide (year ≤ 99))) rfl ?_ (wn_t rfl rfl (by decide) rfl hb5)
          refine r_pick_t (.bool (decide (year ≤ 99))) hb5 rfl rfl ?_
          refine r_pure (.bool (decide (year ≤ 99))) rfl ?_
          refine r_nil ?_
          refine n_cut ⟨decide (year ≤ 99), upk (ac rfl an), H, hm⟩
        · refine r_not (wn_f rfl rfl (by decide) rfl hb5) ?_
          refine r_not (wn_f rfl rfl (by decide) rfl hb5) ?_
          refine r_pick_f (.bool false) hb5 rfl rfl ?_
          refine r_pure (.bool false) rfl ?_
          refine r_nil ?_
          refine n_cut ⟨false, upk (ac rfl an), H, hm⟩
      · refine r_not (wn_f rfl rfl (by decide) rfl hb4) ?_
        refine r_not (wn_f rfl rfl (by decide) rfl hb4) ?_
        refine r_pick_f (.bool false) hb4 rfl rfl ?_
        refine r_pure (.bool false) rfl ?_
        refine r_not (wn_f rfl rfl (by decide) rfl rfl) ?_
        refine r_not (wn_f rfl rfl (by decide) rfl rfl) ?_
        refine r_pick_f (.bool false) rfl rfl rfl ?_
        refine r_pure (.bool false) rfl ?_
        refine r_nil ?_
        refine n_cut ⟨false, upk (ac rfl an), H, hm⟩
    · refine r_not (wn_f rfl rfl (by decide) rfl hb3) ?_
      refine r_not (wn_f rfl rfl (by decide) rfl hb3) ?_
      refine r_pick_f (.bool false) hb3 rfl rfl ?_
      refine r_pure (.bool false) rfl ?_
      refine r_not (wn_f rfl rfl (by decide) rfl rfl) ?_
      refine r_not (wn_f rfl rfl (by decide) rfl rfl) ?_
      refine r_pick_f (.bool false) rfl rfl rfl ?_
      refine r_pure (.bool false) rfl ?_
      refine r_not (wn_f rfl rfl (by decide) rfl rfl) ?_
      refine r_not (wn_f rfl rfl (by decide) rfl rfl) ?_
      refine r_pick_f (.bool false) rfl rfl rfl ?_
      refine r_pure (.bool false) rfl ?_
      refine r_nil ?_
      refine n_cut ⟨false, upk (ac rfl an), H, hm⟩
  · rintro ρ w ⟨q1, ⟨base, rfl⟩, H2, hm⟩
    unfold bucket_right.j1 at hm
    have hq_ := Option.some.inj hm
    subst hq_
    refine st_ret1 rfl rfl (Nat.le_of_ble_eq_true rfl) rfl ?_
    exact ⟨rfl, H2⟩

set_option maxHeartbeats 2000000 in
theorem rate_Money_ok {w0 w : World} {Γ : List (World → Prop)} (n_ : Int) (r0_ : Bool) (H : Hp w0 (Γ) w) (hm : rate_Money n_ = some r0_) : Calls Try.prog 46 #[.int .i64 n_] w (fun e w => e = .returned (.bool r0_) ∧ Hp w0 (Γ) w) := by
  unfold rate_Money at hm
  refine st_enter Try.func46 rfl Try.ntmps46 (Nat.le_of_ble_eq_true rfl) ?_
  refine st_seq ?_
  refine st_region ?_
  refine r_pure (.bool false) rfl ?_
  refine r_seq ?_
  refine st_cut (fun ρ w => ∃ q1 : Bool, (∃ base, ρ = updl base [(2, .bool q1)]) ∧ Hp w0 (Γ) w ∧ rate_Money.j1 q1 = some r0_) ?_ ?_
  · refine st_region ?_
    refine r_pure (.int .i64 n_) rfl ?_
    refine r_pure (.bool (decide (n_ ≥ (-100000000000)))) rfl ?_
    refine r_pure (.bool (decide (n_ ≥ (-100000000000)))) rfl ?_
    rcases ite_some hm with ⟨hb3, hm⟩ | ⟨hb3, hm⟩
    · refine r_pure (.int .i64 n_) rfl ?_ (wn_t rfl rfl (by decide) rfl hb3)
      refine r_pure (.bool (decide (n_ ≤ 100000000000))) rfl ?_ (wn_t rfl rfl (by decide) rfl hb3)
      refine r_pick_t (.bool (decide (n_ ≤ 100000000000))) hb3 rfl rfl ?_
      refine r_pure (.bool (decide (n_ ≤ 100000000000))) rfl ?_
      refine r_nil ?_
      refine n_cut ⟨decide (n_ ≤ 100000000000), upk (ac rfl an), H, hm⟩
    · refine r_not (wn_f rfl rfl (by decide) rfl hb3) ?_
      refine r_not (wn_f rfl rfl (by decide) rfl hb3) ?_
      refine r_pick_f (.bool false) hb3 rfl rfl ?_
      refine r_pure (.bool false) rfl ?_
      refine r_nil ?_
      refine n_cut ⟨false, upk (ac rfl an), H, hm⟩
  · rintro ρ w ⟨q1, ⟨base, rfl⟩, H2, hm⟩
    unfold rate_Money.j1 at hm
    have hq_ := Option.some.inj hm
    subst hq_
    refine st_ret1 rfl rfl (Nat.le_of_ble_eq_true rfl) rfl ?_
    exact ⟨rfl, H2⟩

set_option maxHeartbeats 2000000 in
theorem slices_IndexFunc_api_Bucket_ok {w0 w : World} {Γ : List (World → Prop)} (s_ : List api_Bucket) (A1 : Option Addr) (n6 c2 : Nat) (hn5 : n6 = s_.length) (hc3 : s_.length ≤ c2) (hv4 : ∀ u, Hp w0 Γ u → SlR K54 A1 s_ u) (fv7 : Value) (f_ : api_Bucket → Option Bool) (hp8 : FnOk Try.prog w0 Γ fv7 (fun x => [.agg #[.int .i64 x.Class, .int .i64 x.Year, .int .i64 x.Amount]]) (fun r => .bool r) f_) (r0_ : Int) (H : Hp w0 (Γ) w) (hm : slices_IndexFunc_api_Bucket s_ f_ = some r0_) : Calls Try.prog 89 #[.slice A1 n6 c2, fv7] w (fun e w => e = .returned (.int .i64 r0_) ∧ Hp w0 (Γ) w) := by
  subst hn5
  obtain ⟨gf9, gcap10, rfl, ge11, gp12⟩ := hp8
  unfold slices_IndexFunc_api_Bucket at hm
  refine st_enter Try.func89 rfl Try.ntmps89 (Nat.le_of_ble_eq_true rfl) ?_
  refine st_seq ?_
  refine st_region ?_
  refine r_pure (.int .i64 0) rfl ?_
  refine r_seq ?_
  refine st_seq ?_
  refine st_seq ?_
  refine st_region ?_
  refine r_pure (.slice A1 s_.length c2) rfl ?_
  refine r_len Try.underlying51 rfl ?_
  refine r_pure (.int .i64 0) rfl ?_
  refine r_seq ?_
  refine st_block ?_
  have hlim32 := (hv4 _ H).lim
  obtain ⟨tl15, hl16, hm14⟩ := bind_some hm
  refine st_loopL (slices_IndexFunc_api_Bucket.l1 f_) (fun ys21 s ρ w => ∃ i17 : Int, ∃ dn18 : List api_Bucket, i17 = s ∧ s_ = dn18 ++ ys21 ∧ i17 = (dn18.length : Int) ∧ (∃ base, ρ = updl base [(0, .slice A1 s_.length c2), (1, .func (.func gf9) #[] (List.toArray gcap10)), (7, .int .i64 (s_.length : Int)), (8, .int .i64 i17)]) ∧ Hp w0 (Γ) w) hl16 ⟨0, [], rfl, rfl, rfl, upk (ac rfl (ac rfl (ac rfl (ac rfl an)))), H⟩ ?_
  rintro m ys21 IH25 s ρ w ⟨i17, dn18, rfl, hxs19, hi20, ⟨base, rfl⟩, H13⟩ hm
  rcases ys21 with _ | ⟨y22, ys21⟩
  · rw [slices_IndexFunc_api_Bucket.l1] at hm
    have hb26 := range_end hxs19 hi20
    refine st_seq ?_
    refine st_region ?_
    refine r_pure (.bool (decide (i17 < (s_.length : Int)))) rfl ?_
    refine r_seq ?_
    refine st_seq ?_
    refine st_condf hb26 rfl ?_
    have hq_ := Option.some.inj hm
    refine st_exit rfl ?_
    subst hq_
    refine n_sq ?_
    refine st_seq ?_
    refine st_region ?_
    refine r_pure (.int .i64 (-1)) rfl ?_
    refine r_seq ?_
    have hq_ := Option.some.inj hm14
    subst hq_
    refine st_ret1 rfl rfl (Nat.le_of_ble_eq_true rfl) rfl ?_
    exact ⟨rfl, H13⟩
  · rw [slices_IndexFunc_api_Bucket.l1] at hm
    have hb27 := range_in hxs19 hi20
    obtain ⟨h028, h129, hj30⟩ := range_ix hxs19 hi20
    have hnx31 := range_next hxs19 hi20 hlim32
    refine st_seq ?_
    refine st_region ?_
    refine r_pure (.bool (decide (i17 < (s_.length : Int)))) rfl ?_
    refine r_seq ?_
    refine st_seq ?_
    refine st_condt hb27 rfl ?_
    refine st_skip ?_
    refine n_sq ?_
    refine st_seq ?_
    refine st_block ?_
    refine st_seq ?_
    refine st_region ?_
    refine r_pure (.int .i64 i17) rfl ?_
    refine r_pure (.int .i64 i17) rfl ?_
    refine r_seq ?_
    refine st_seq ?_
    refine st_region ?_
    refine r_pure (.func (.func gf9) #[] (List.toArray gcap10)) rfl ?_
    refine r_pure (.slice A1 s_.length c2) rfl ?_
    refine r_pure (.int .i64 i17) rfl ?_
    have hA33 := (hv4 _ H13).adO hj30
    refine r_ix IX51 rfl rfl hA33 h028 h129 ?_
    refine r_ldA [.int .i64 y22.Class, .int .i64 y22.Year, .int .i64 y22.Amount] LD54 rfl rfl ((hv4 _ H13).csA hA33 hj30) ?_
    obtain ⟨y34, hy35, hm⟩ := bind_some hm
    refine r_callv rfl ge11 (gp12 _ _ hy35 _ _ H13 (fun _ H => H)) ?_
    rintro e38 wd37 ⟨rfl, H36⟩
    refine ⟨_, rfl, ?_⟩
    refine r_seq ?_
    rcases ite_some hm with ⟨hb39, hm⟩ | ⟨hb39, hm⟩
    · refine st_condt hb39 rfl ?_
      refine st_seq ?_
      refine st_region ?_
      refine r_pure (.int .i64 i17) rfl ?_
      refine r_pure (.int .i64 i17) rfl ?_
      refine r_seq ?_
      have hq_ := Option.some.inj hm
      subst hq_
      have hq_ := Option.some.inj (show some (i17 : Int) = some r0_ from hm14)
      subst hq_
      refine st_ret1 rfl rfl (Nat.le_of_ble_eq_true rfl) rfl ?_
      exact ⟨rfl, H36⟩
    · refine st_condf hb39 rfl ?_
      refine st_skip ?_
      refine n_bl ?_
      refine n_sq ?_
      refine st_region ?_
      refine r_pure (.int .i64 (w64 (i17 + 1))) rfl ?_
      refine r_pure (.int .i64 (w64 (i17 + 1))) rfl ?_
      refine r_nil ?_
      refine n_round (IH25 _ _ rfl _ _ _ ⟨i17 + 1, dn18 ++ [y22], rfl, range_more hxs19, range_len hi20, upk (ac rfl (ac rfl (ac rfl (ac hnx31 an)))), H36⟩ hm)

set_option maxHeartbeats 2000000 in
theorem bucket_Register_at_c1_ok {w0 w : World} {Γ : List (World → Prop)} (b_ : api_Bucket) (b2 : Nat) (cap1 : Int) (hv3 : ∀ u, Hp w0 Γ u → Bx b2 3 [.int .i64 cap1] u) (b5 : Nat) (cap4 : Int) (hv6 : ∀ u, Hp w0 Γ u → Bx b5 3 [.int .i64 cap4] u) (r0_ : Bool) (H : Hp w0 (Γ) w) (hm : bucket_Register_at_c1 b_ cap1 cap4 = some r0_) : Calls Try.prog 90 #[.agg #[.int .i64 b_.Class, .int .i64 b_.Year, .int .i64 b_.Amount], .pointer (some ⟨b2, 0, none⟩), .pointer (some ⟨b5, 0, none⟩)] w (fun e w => e = .returned (.bool r0_) ∧ Hp w0 (Γ) w) := by
  unfold bucket_Register_at_c1 at hm
  refine st_enter Try.func90 rfl Try.ntmps90 (Nat.le_of_ble_eq_true rfl) ?_
  refine st_seq ?_
  refine st_region ?_
  refine r_box [.int .i64 b_.Class, .int .i64 b_.Year, .int .i64 b_.Amount] H rfl ?_
  intro b7 wd9 H8
  refine r_pure (.bool false) rfl ?_
  refine r_seq ?_
  refine st_cut (fun ρ w => ∃ q10 : Bool, (∃ base, ρ = updl base [(4, .bool q10)]) ∧ Hp w0 (Γ) w ∧ bucket_Register_at_c1.j1 q10 = some r0_) ?_ ?_
  · refine st_region ?_
    refine r_fa FA54_0 ⟨b7, 0, none⟩ rfl rfl ?_
    refine r_ld1 (.int .i64 b_.Class) LD3 rfl ((H8.g0).cell _ rfl) ?_
    refine r_ld1 (.int .i64 cap1) LD3 rfl ((hv3 _ H8.d).cell _ rfl) ?_
    refine r_pure (.bool (b_.Class == cap1)) rfl ?_
    refine r_pure (.bool (b_.Class == cap1)) rfl ?_
    rcases ite_some hm with ⟨hb12, hm⟩ | ⟨hb12, hm⟩
    · refine r_fa FA54_1 ⟨b7, 1, none⟩ rfl rfl ?_ (wn_t rfl rfl (by decide) rfl hb12)
      refine r_ld1 (.int .i64 b_.Year) LD3 rfl ((H8.g0).cell _ rfl) ?_ (wn_t rfl rfl (by decide) rfl hb12)
      refine r_ld1 (.int .i64 cap4) LD3 rfl ((hv6 _ H8.d).cell _ rfl) ?_ (wn_t rfl rfl (by decide) rfl hb12)
      refine r_pure (.bool (b_.Year == cap4)) rfl ?_ (wn_t rfl rfl (by decide) rfl hb12)
      refine r_pick_t (.bool (b_.Year == cap4)) hb12 rfl rfl ?_
      refine r_pure (.bool (b_.Year == cap4)) rfl ?_
      refine r_nil ?_
      refine n_cut ⟨b_.Year == cap4, upk (ac rfl an), H8.d, hm⟩
    · refine r_not (wn_f rfl rfl (by decide) rfl hb12) ?_
      refine r_not (wn_f rfl rfl (by decide) rfl hb12) ?_
      refine r_not (wn_f rfl rfl (by decide) rfl hb12) ?_
      refine r_not (wn_f rfl rfl (by decide) rfl hb12) ?_
      refine r_pick_f (.bool false) hb12 rfl rfl ?_
      refine r_pure (.bool false) rfl ?_
      refine r_nil ?_
      refine n_cut ⟨false, upk (ac rfl an), H8.d, hm⟩
  · rintro ρ w ⟨q10, ⟨base, rfl⟩, H11, hm⟩
    unfold bucket_Register_at_c1.j1 at hm
    have hq_ := Option.some.inj hm
    subst hq_
    refine st_ret1 rfl rfl (Nat.le_of_ble_eq_true rfl) rfl ?_
    exact ⟨rfl, H11⟩

set_option maxHeartbeats 2000000 in
theorem bucket_Register_at_ok {w0 w : World} {Γ : List (World → Prop)} (b1 : Nat) (r_ : bucket_Register) (A2 : Option Addr) (n7 c3 : Nat) (hn6 : n7 = r_.f_l.length) (hc4 : r_.f_l.length ≤ c3) (hv5 : ∀ u, Hp w0 Γ u → SlR K54 A2 r_.f_l u) (hv8 : ∀ u, Hp w0 Γ u → Bx b1 89 [.slice A2 n7 c3] u) (class_ : Int) (year : Int) (r0_ : Int) (H : Hp w0 (Γ) w) (hm : bucket_Register_at r_ class_ year = some r0_) : Calls Try.prog 60 #[.pointer (some ⟨b1, 0, none⟩), .int .i64 class_, .int .i64 year] w (fun e w => e = .returned (.int .i64 r0_) ∧ Hp w0 (Γ) w) := by
  subst hn6
  unfold bucket_Register_at at hm
  refine st_enter Try.func60 rfl Try.ntmps60 (Nat.le_of_ble_eq_true rfl) ?_
  refine st_seq ?_
  refine st_region ?_
  refine r_box [.int .i64 class_] H rfl ?_
  intro b9 wd11 H10
  refine r_box [.int .i64 year] H10 rfl ?_
  intro b12 wd14 H13
  refine r_pure (.int .i64 0) rfl ?_
  refine r_seq ?_
  refine st_seq ?_
  refine st_region ?_
  refine r_pure (.pointer (some ⟨b1, 0, none⟩)) rfl ?_
  refine r_pure (.pointer (some ⟨b1, 0, none⟩)) rfl ?_
  refine r_fa FA89_0 ⟨b1, 0, none⟩ rfl rfl ?_
  refine r_ld1 (.slice A2 r_.f_l.length c3) LD51 rfl ((hv8 _ H13.d.d).cell _ rfl) ?_
  refine r_func (.func (.func 90) #[] #[.pointer (some ⟨b9, 0, none⟩), .pointer (some ⟨b12, 0, none⟩)]) rfl ?_
  obtain ⟨y15, hy16, hm⟩ := bind_some hm
  refine r_callf Try.call89 (slices_IndexFunc_api_Bucket_ok r_.f_l A2 r_.f_l.length c3 rfl hc4 (fun _ H => (hv5 _ H.d.d)) (.func (.func 90) #[] #[.pointer (some ⟨b9, 0, none⟩), .pointer (some ⟨b12, 0, none⟩)]) (fun x => bucket_Register_at_c1 x class_ year) ⟨90, [.pointer (some ⟨b9, 0, none⟩), .pointer (some ⟨b12, 0, none⟩)], rfl, Try.call90, fun x y hy Δ w H hΔ => bucket_Register_at_c1_ok x b9 class_ (fun _ H => ((hΔ _ H).g1)) b12 year (fun _ H => ((hΔ _ H).g0)) y H hy⟩ y15 H13 hy16) ?_
  rintro e18 wd17 ⟨rfl, H20⟩
  refine ⟨_, rfl, ?_⟩
  refine r_pure (.int .i64 y15) rfl ?_
  refine r_seq ?_
  have hq_ := Option.some.inj hm
  subst hq_
  refine st_ret1 rfl rfl (Nat.le_of_ble_eq_true rfl) rfl ?_
  exact ⟨rfl, H20.d.d⟩

set_option maxHeartbeats 2000000 in
theorem bucket_Register_Get_ok {w0 w : World} {Γ : List (World → Prop)} (b1 : Nat) (r_ : bucket_Register) (A2 : Option Addr) (n7 c3 : Nat) (hn6 : n7 = r_.f_l.length) (hc4 : r_.f_l.length ≤ c3) (hv5 : ∀ u, Hp w0 Γ u → SlR K54 A2 r_.f_l u) (hv8 : ∀ u, Hp w0 Γ u → Bx b1 89 [.slice A2 n7 c3] u) (class_ : Int) (year : Int) (r0_ : Int) (H : Hp w0 (Γ) w) (hm : bucket_Register_Get r_ class_ year = some r0_) : Calls Try.prog 30 #[.pointer (some ⟨b1, 0, none⟩), .int .i64 class_, .int .i64 year] w (fun e w => e = .returned (.int .i64 r0_) ∧ Hp w0 (Γ) w) := by
  subst hn6
  unfold bucket_Register_Get at hm
  refine st_enter Try.func30 rfl Try.ntmps30 (Nat.le_of_ble_eq_true rfl) ?_
  refine st_seq ?_
  refine st_region ?_
  refine r_pure (.int .i64 0) rfl ?_
  refine r_seq ?_
  refine st_seq ?_
  refine st_region ?_
  refine r_pure (.pointer (some ⟨b1, 0, none⟩)) rfl ?_
  refine r_pure (.int .i64 class_) rfl ?_
  refine r_pure (.int .i64 year) rfl ?_
  obtain ⟨y9, hy10, hm⟩ := bind_some hm
  refine r_callf Try.call60 (bucket_Register_at_ok b1 (⟨r_.f_l⟩ : bucket_Register) A2 r_.f_l.length c3 rfl hc4 (fun _ H => (hv5 _ H)) (fun _ H => (hv8 _ H)) class_ year y9 H hy10) ?_
  rintro e12 wd11 ⟨rfl, H14⟩
  refine ⟨_, rfl, ?_⟩
  refine r_pure (.int .i64 y9) rfl ?_
  refine r_seq ?_
  refine st_seq ?_
  refine st_seq ?_
  refine st_region ?_
  refine r_pure (.int .i64 y9) rfl ?_
  refine r_pure (.bool (decide (y9 < 0))) rfl ?_
  refine r_seq ?_
  rcases ite_some hm with ⟨hb15, hm⟩ | ⟨hb15, hm⟩
  · refine st_condt hb15 rfl ?_
    refine st_seq ?_
    refine st_region ?_
    refine r_pure (.int .i64 0) rfl ?_
    refine r_seq ?_
    have hq_ := Option.some.inj hm
    subst hq_
    refine st_ret1 rfl rfl (Nat.le_of_ble_eq_true rfl) rfl ?_
    exact ⟨rfl, H14⟩
  · refine st_condf hb15 rfl ?_
    refine st_skip ?_
    refine n_sq ?_
    refine st_seq ?_
    refine st_region ?_
    refine r_pure (.pointer (some ⟨b1, 0, none⟩)) rfl ?_
    refine r_pure (.pointer (some ⟨b1, 0, none⟩)) rfl ?_
    refine r_fa FA89_0 ⟨b1, 0, none⟩ rfl rfl ?_
    refine r_ld1 (.slice A2 r_.f_l.length c3) LD51 rfl ((hv8 _ H14).cell _ rfl) ?_
    refine r_pure (.int .i64 y9) rfl ?_
    obtain ⟨⟨h016, h117⟩, hm⟩ := gd_some hm
    have hj18 := rd_get h016 h117
    have hA19 := (hv5 _ H14).adO hj18
    refine r_ix IX51 rfl rfl hA19 h016 h117 ?_
    refine r_fa FA54_2 (((oA A2).add (Int.toNat y9 * 3)).add 2) rfl rfl ?_
    refine r_ld1 (.int .i64 ((rd r_.f_l y9).Amount)) LD3 rfl ((hv5 _ H14).cA hA19 hj18 2 _ rfl) ?_
    refine r_pure (.int .i64 ((rd r_.f_l y9).Amount)) rfl ?_
    refine r_seq ?_
    have hq_ := Option.some.inj hm
    subst hq_
    refine st_ret1 rfl rfl (Nat.le_of_ble_eq_true rfl) rfl ?_
    exact ⟨rfl, H14⟩

set_option maxHeartbeats 2000000 in
theorem slices_Clone_api_Bucket_ok {w0 w : World} {Γ : List (World → Prop)} (s_ : List api_Bucket) (A1 : Option Addr) (n6 c2 : Nat) (hn5 : n6 = s_.length) (hc3 : s_.length ≤ c2) (hv4 : ∀ u, Hp w0 Γ u → SlR K54 A1 s_ u) (r0_ : List api_Bucket) (H : Hp w0 (Γ) w) (hm : slices_Clone_api_Bucket s_ = some r0_) : Calls Try.prog 57 #[.slice A1 n6 c2] w (fun e w => ∃ (Ax1 : Option Addr) (nx2 cx3 : Nat), e = .returned (.slice Ax1 nx2 cx3) ∧ Hp w0 (Row K54 (.slice Ax1 nx2 cx3) r0_ :: Γ) w) := by
  subst hn5
  unfold slices_Clone_api_Bucket at hm
  refine st_enter Try.func57 rfl Try.ntmps57 (Nat.le_of_ble_eq_true rfl) ?_
  refine st_seq ?_
  refine st_region ?_
  refine r_pure (.slice none 0 0) rfl ?_
  refine r_seq ?_
  refine st_seq ?_
  refine st_seq ?_
  refine st_region ?_
  refine r_pure (.slice A1 s_.length c2) rfl ?_
  rcases A1 with _ | ad7
  · obtain rfl := (hv4 _ H).none_nil
    have hm : some ([] : List api_Bucket) = some r0_ := hm
    refine r_eqsn Try.underlying51 rfl rfl rfl ?_
    refine r_seq ?_
    refine st_condt rfl rfl ?_
    refine st_seq ?_
    refine st_region ?_
    refine r_pure (.slice none 0 0) rfl ?_
    refine r_seq ?_
    have H8 := H.add (A := Row K54 (.slice none 0 0) []) Row.nil
    have hq_ := Option.some.inj hm
    subst hq_
    refine st_ret1 rfl rfl (Nat.le_of_ble_eq_true rfl) rfl ?_
    exact ⟨none, 0, 0, rfl, H8⟩
  · refine r_eqsn Try.underlying51 rfl rfl rfl ?_
    refine r_seq ?_
    refine st_condf rfl rfl ?_
    refine st_skip ?_
    refine n_sq ?_
    refine st_seq ?_
    refine st_region ?_
    refine r_buildSlice (K := K54) ([] : List api_Bucket) EL51 rfl rfl rfl (by decide) (by decide) rfl H ?_
    intro b9 wd11 H10
    refine r_pure (.slice (some ad7) s_.length c2) rfl ?_
    obtain ⟨hf12, hm⟩ := gd_some hm
    refine r_append (K := K54) (ys := s_) AP51 rfl rfl rfl rfl H10 ((hv4 _ H10.d).src) (fit_le hf12 (by decide)) ?_
    intro A13 c14 wd15 H16
    refine r_pure (.slice A13 ((([] : List api_Bucket) ++ s_).length) c14) rfl ?_
    refine r_seq ?_
    have hq_ := Option.some.inj hm
    subst hq_
    refine st_ret1 rfl rfl (Nat.le_of_ble_eq_true rfl) rfl ?_
    exact ⟨A13, (([] : List api_Bucket) ++ s_).length, c14, rfl, H16⟩

set_option maxHeartbeats 2000000 in
theorem bucket_Register_Clone_ok {w0 w : World} {Γ : List (World → Prop)} (b1 : Nat) (r_ : bucket_Register) (A2 : Option Addr) (n7 c3 : Nat) (hn6 : n7 = r_.f_l.length) (hc4 : r_.f_l.length ≤ c3) (hv5 : ∀ u, Hp w0 Γ u → SlR K54 A2 r_.f_l u) (hv8 : ∀ u, Hp w0 Γ u → Bx b1 89 [.slice A2 n7 c3] u) (r0_ : bucket_Register) (H : Hp w0 (Γ) w) (hm : bucket_Register_Clone r_ = some r0_) : Calls Try.prog 62 #[.pointer (some ⟨b1, 0, none⟩)] w (fun e w => ∃ (bx1 : Nat), ∃ (Ax2 : Option Addr) (nx3 cx4 : Nat), e = .returned (.pointer (some ⟨bx1, 0, none⟩)) ∧ Hp w0 (Bx bx1 89 [.slice Ax2 nx3 cx4] :: Row K54 (.slice Ax2 nx3 cx4) r0_.f_l :: Γ) w) := by
  subst hn6
  unfold bucket_Register_Clone at hm
  refine st_enter Try.func62 rfl Try.ntmps62 (Nat.le_of_ble_eq_true rfl) ?_
  refine st_seq ?_
  refine st_region ?_
  refine r_pure (.pointer none) rfl ?_
  refine r_seq ?_
  refine st_seq ?_
  refine st_region ?_
  refine r_pure (.pointer (some ⟨b1, 0, none⟩)) rfl ?_
  refine r_pure (.pointer (some ⟨b1, 0, none⟩)) rfl ?_
  refine r_fa FA89_0 ⟨b1, 0, none⟩ rfl rfl ?_
  refine r_ld1 (.slice A2 r_.f_l.length c3) LD51 rfl ((hv8 _ H).cell _ rfl) ?_
  obtain ⟨y9, hy10, hm⟩ := bind_some hm
  refine r_callf Try.call57 (slices_Clone_api_Bucket_ok r_.f_l A2 r_.f_l.length c3 rfl hc4 (fun _ H => (hv5 _ H)) y9 H hy10) ?_
  rintro e12 wd11 ⟨A15, n16, c17, rfl, H14⟩
  obtain rfl := (H14.g0).leneq
  refine ⟨_, rfl, ?_⟩
  refine r_build [.slice A15 y9.length c17] FL89 rfl ?_
  refine r_box [.slice A15 y9.length c17] H14 rfl ?_
  intro b18 wd20 H19
  refine r_pure (.pointer (some ⟨b18, 0, none⟩)) rfl ?_
  refine r_seq ?_
  have hq_ := Option.some.inj hm
  subst hq_
  refine st_ret1 rfl rfl (Nat.le_of_ble_eq_true rfl) rfl ?_
  exact ⟨b18, A15, y9.length, c17, rfl, H19.u1.u1⟩

set_option maxHeartbeats 2000000 in
theorem slices_DeleteFunc_api_Bucket_ok {w0 w : World} {Γ : List (World → Prop)} (s_ : List api_Bucket) (A1 : Option Addr) (n3 c2 : Nat) (fv4 : Value) (del : api_Bucket → Option Bool) (hp5 : FnOk Try.prog w0 Γ fv4 (fun x => [.agg #[.int .i64 x.Class, .int .i64 x.Year, .int .i64 x.Amount]]) (fun r => .bool r) del) (r0_ : List api_Bucket) (H : Hp w0 (Row K54 (.slice A1 n3 c2) s_ :: Γ) w) (hm : slices_DeleteFunc_api_Bucket s_ del = some r0_) : Calls Try.prog 91 #[.slice A1 n3 c2, fv4] w (fun e w => ∃ (Ax1 : Option Addr) (nx2 cx3 : Nat), e = .returned (.slice Ax1 nx2 cx3) ∧ Hp w0 (Row K54 (.slice Ax1 nx2 cx3) r0_ :: Γ) w) := by
  obtain ⟨gf6, gcap7, rfl, ge8, gp9⟩ := hp5
  obtain rfl := (H.g0).leneq
  unfold slices_DeleteFunc_api_Bucket at hm
  refine st_enter Try.func91 rfl Try.ntmps91 (Nat.le_of_ble_eq_true rfl) ?_
  refine st_seq ?_
  refine st_region ?_
  refine r_pure (.slice none 0 0) rfl ?_
  refine r_seq ?_
  refine st_seq ?_
  refine st_region ?_
  refine r_pure (.slice A1 s_.length c2) rfl ?_
  refine r_pure (.func (.func gf6) #[] (List.toArray gcap7)) rfl ?_
  obtain ⟨y10, hy11, hm⟩ := bind_some hm
  refine r_callf Try.call89 (slices_IndexFunc_api_Bucket_ok s_ A1 s_.length c2 rfl (((H).g0).cap) (fun _ H => (H.g0.rd)) (.func (.func gf6) #[] (List.toArray gcap7)) del ⟨gf6, gcap7, rfl, ge8, fun x y hy Δ w H hΔ => gp9 x y hy Δ w H (fun u hu => (hΔ u hu).d)⟩ y10 H hy11) ?_
  rintro e13 wd12 ⟨rfl, H15⟩
  refine ⟨_, rfl, ?_⟩
  refine r_pure (.int .i64 y10) rfl ?_
  refine r_seq ?_
  refine st_seq ?_
  refine st_seq ?_
  refine st_region ?_
  refine r_pure (.int .i64 y10) rfl ?_
  refine r_pure (.bool (y10 == (-1))) rfl ?_
  refine r_seq ?_
  rcases ite_some hm with ⟨hb16, hm⟩ | ⟨hb16, hm⟩
  · refine st_condt hb16 rfl ?_
    refine st_seq ?_
    refine st_region ?_
    refine r_pure (.slice A1 s_.length c2) rfl ?_
    refine r_pure (.slice A1 s_.length c2) rfl ?_
    refine r_seq ?_
    have hq_ := Option.some.inj hm
    subst hq_
    refine st_ret1 rfl rfl (Nat.le_of_ble_eq_true rfl) rfl ?_
    exact ⟨A1, s_.length, c2, rfl, H15⟩
  · refine st_condf hb16 rfl ?_
    refine st_skip ?_
    refine n_sq ?_
    refine st_seq ?_
    refine st_seq ?_
    refine st_region ?_
    refine r_pure (.int .i64 y10) rfl ?_
    refine r_pure (.int .i64 (w64 (y10 + 1))) rfl ?_
    refine r_pure (.int .i64 (w64 (y10 + 1))) rfl ?_
    refine r_seq ?_
    refine st_block ?_
    obtain ⟨tl25, hl26, hm24⟩ := bind_some hm
    refine st_loopF (slices_DeleteFunc_api_Bucket.l1 s_ del) (fun s ρ w => ∃ xs20 : List api_Bucket, ∃ v21 : Int, ∃ v22 : Int, (xs20, v21, v22) = s ∧ (∃ base, ρ = updl base [(0, .slice A1 s_.length c2), (1, .func (.func gf6) #[] (List.toArray gcap7)), (5, .int .i64 v21), (6, .int .i64 v22)]) ∧ Hp w0 (Row K54 (.slice A1 s_.length c2) xs20 :: Γ) w) hl26 (fun _ => rfl) ⟨s_, y10, w64 (y10 + 1), rfl, upk (ac rfl (ac rfl (ac rfl (ac rfl an)))), H15⟩ ?_
    rintro fuel32 IH34 s ρ w ⟨xs20, v21, v22, rfl, ⟨base, rfl⟩, H23⟩ hm
    rw [slices_DeleteFunc_api_Bucket.l1] at hm
    refine st_seq ?_
    refine st_seq ?_
    refine st_region ?_
    refine r_pure (.int .i64 v22) rfl ?_
    refine r_pure (.slice A1 s_.length c2) rfl ?_
    refine r_len Try.underlying51 rfl ?_
    refine r_pure (.bool (decide (v22 < (s_.length : Int)))) rfl ?_
    refine r_seq ?_
    rcases ite_some hm with ⟨hb35, hm⟩ | ⟨hb35, hm⟩
    · refine st_condt hb35 rfl ?_
      refine st_skip ?_
      refine n_sq ?_
      refine st_cut (fun ρ w => ∃ xs36 : List api_Bucket, ∃ v37 : Int, (∃ base, ρ = updl base [(0, .slice A1 s_.length c2), (1, .func (.func gf6) #[] (List.toArray gcap7)), (5, .int .i64 v37), (6, .int .i64 v22)]) ∧ Hp w0 (Row K54 (.slice A1 s_.length c2) xs36 :: Γ) w ∧ slices_DeleteFunc_api_Bucket.j1 (slices_DeleteFunc_api_Bucket.l1 s_ del fuel32) v22 xs36 v37 = some tl25) ?_ ?_
      · refine st_block ?_
        refine st_seq ?_
        refine st_region ?_
        refine r_pure (.slice A1 s_.length c2) rfl ?_
        refine r_pure (.int .i64 v22) rfl ?_
        obtain ⟨⟨h039, h140⟩, hm⟩ := gd_some hm
        have hj41 := rd_get h039 h140
        have hA42 := (H23.g0.rd).adO hj41
        refine r_ix IX51 rfl rfl hA42 h039 (by have h1_ := (H23.g0).leneq; have h2_ := h140; rw [← h1_] at h2_; exact h2_) ?_
        refine r_ldA [.int .i64 ((rd xs20 v22).Class), .int .i64 ((rd xs20 v22).Year), .int .i64 ((rd xs20 v22).Amount)] LD54 rfl rfl ((H23.g0.rd).csA hA42 hj41) ?_
        refine r_alloc [.int .i64 0, .int .i64 0, .int .i64 0] Try.zeroValue54 H23 rfl ?_
        intro b43 wd45 H44
        refine r_stA [.int .i64 ((rd xs20 v22).Class), .int .i64 ((rd xs20 v22).Year), .int .i64 ((rd xs20 v22).Amount)] LD54 rfl rfl rfl rfl H44 (Nat.le_of_ble_eq_true rfl) rfl ?_
        intro wd47 H46
        refine r_seq ?_
        refine st_seq ?_
        refine st_region ?_
        refine r_pure (.func (.func gf6) #[] (List.toArray gcap7)) rfl ?_
        refine r_ldA [.int .i64 ((rd xs20 v22).Class), .int .i64 ((rd xs20 v22).Year), .int .i64 ((rd xs20 v22).Amount)] LD54 rfl rfl ((H46.g0).cells rfl) ?_
        obtain ⟨y48, hy49, hm⟩ := bind_some hm
        refine r_callv rfl ge8 (gp9 _ _ hy49 _ _ H46 (fun _ H => H.d.d)) ?_
        rintro e52 wd51 ⟨rfl, H50⟩
        refine ⟨_, rfl, ?_⟩
        refine r_pure (.bool (!y48)) rfl ?_
        refine r_seq ?_
        rcases ite_some hm with ⟨hb53, hm⟩ | ⟨hb53, hm⟩
        · refine st_condt hb53 rfl ?_
          refine st_seq ?_
          refine st_region ?_
          refine r_pure (.slice A1 s_.length c2) rfl ?_
          refine r_pure (.int .i64 v21) rfl ?_
          refine r_ldA [.int .i64 ((rd xs20 v22).Class), .int .i64 ((rd xs20 v22).Year), .int .i64 ((rd xs20 v22).Amount)] LD54 rfl rfl ((H50.g0).cells rfl) ?_
          obtain ⟨⟨h054, h155⟩, hm⟩ := gd_some hm
          have hj56 := rd_get h054 h155
          refine r_ix IX51 rfl rfl hA42 h054 (by have h1_ := (H50.g1).leneq; have h2_ := h155; rw [← h1_] at h2_; exact h2_) ?_
          refine r_stxA (K := K54) ((rd xs20 v22)) hA42 LD54 rfl rfl rfl rfl H50.u1 (by have h1_ := h054; have h2_ := h155; first | omega | (simp only [List.length_set] at h1_ h2_ ⊢; omega)) ?_
          intro wd58 H57
          refine r_seq ?_
          refine st_region ?_
          refine r_pure (.int .i64 v21) rfl ?_
          refine r_pure (.int .i64 (w64 (v21 + 1))) rfl ?_
          refine r_pure (.int .i64 (w64 (v21 + 1))) rfl ?_
          refine r_nil ?_
          refine n_bl ?_
          refine n_cut ⟨xs20.set (Int.toNat v21) (rd xs20 v22), w64 (v21 + 1), upk (ac rfl (ac rfl (ac rfl (ac rfl an)))), H57.u1.d, hm⟩
        · refine st_condf hb53 rfl ?_
          refine st_skip ?_
          refine n_bl ?_
          refine n_cut ⟨xs20, v21, upk (ac rfl (ac rfl (ac rfl (ac rfl an)))), H50.d, hm⟩
      · rintro ρ w ⟨xs36, v37, ⟨base, rfl⟩, H38, hm⟩
        unfold slices_DeleteFunc_api_Bucket.j1 at hm
        refine st_region ?_
        refine r_pure (.int .i64 v22) rfl ?_
        refine r_pure (.int .i64 (w64 (v22 + 1))) rfl ?_
        refine r_pure (.int .i64 (w64 (v22 + 1))) rfl ?_
        refine r_nil ?_
        refine n_round (IH34 _ _ _ ⟨xs36, v37, w64 (v22 + 1), rfl, upk (ac rfl (ac rfl (ac rfl (ac rfl an)))), H38⟩ hm)
    · refine st_condf hb35 rfl ?_
      have hq_ := Option.some.inj hm
      refine st_exit rfl ?_
      subst hq_
      refine n_sq ?_
      refine st_seq ?_
      refine st_region ?_
      refine r_pure (.slice A1 s_.length c2) rfl ?_
      refine r_pure (.int .i64 v21) rfl ?_
      obtain ⟨hs59, hm⟩ := gd_some hm24
      refine r_cut2 (xs := xs20) (lo := v21) (hi := (xs20.length : Int)) IX51 rfl (H23.g0).leneq (H23.g0.cap) (by have h_ := (H23.g0).leneq; simp only [BI]; omega) ⟨_, rfl⟩ hs59 ?_
      refine r_clear (K := K54) (lo := v21) (z := (⟨0, 0, 0⟩ : api_Bucket)) Try.underlying51 rfl rfl ZV54 rfl hs59.1 hs59.2.1 H23 ?_
      intro wd61 H60
      refine r_seq ?_
      refine st_seq ?_
      refine st_region ?_
      refine r_pure (.slice A1 s_.length c2) rfl ?_
      refine r_pure (.int .i64 v21) rfl ?_
      obtain ⟨hs62, hm⟩ := gd_some hm
      refine r_cut2 (xs := clr xs20 v21 (⟨0, 0, 0⟩ : api_Bucket)) (lo := (0 : Int)) (hi := v21) IX51 rfl (H60.g0).leneq (H60.g0.cap) ⟨_, rfl⟩ rfl hs62 ?_
      refine r_pure (.slice (cutA A1 (0 : Int) (c2 : Int) 3) ((sb (clr xs20 v21 (⟨0, 0, 0⟩ : api_Bucket)) (0 : Int) v21).length) (c2 - Int.toNat (0 : Int))) rfl ?_
      refine r_seq ?_
      have H63 : Hp w0 (Row K54 (.slice (cutA A1 (0 : Int) (c2 : Int) 3) ((sb (clr xs20 v21 (⟨0, 0, 0⟩ : api_Bucket)) (0 : Int) v21).length) (c2 - Int.toNat (0 : Int))) (sb (clr xs20 v21 (⟨0, 0, 0⟩ : api_Bucket)) (0 : Int) v21) :: _) _ := H60.imp fun _ h_ => h_.sb hs62.1 hs62.2.1 (by have := (H60.g0.cap); have := hs62; omega) (Int.le_refl _) hs62.2.2
      have hq_ := Option.some.inj hm
      subst hq_
      refine st_ret1 rfl rfl (Nat.le_of_ble_eq_true rfl) rfl ?_
      exact ⟨(cutA A1 (0 : Int) (c2 : Int) 3), (sb (clr xs20 v21 (⟨0, 0, 0⟩ : api_Bucket)) (0 : Int) v21).length, (c2 - Int.toNat (0 : Int)), rfl, H63⟩

set_option maxHeartbeats 2000000 in
theorem bucket_Register_set_c1_ok {w0 w : World} {Γ : List (World → Prop)} (b_ : api_Bucket) (r0_ : Bool) (H : Hp w0 (Γ) w) (hm : bucket_Register_set_c1 b_ = some r0_) : Calls Try.prog 92 #[.agg #[.int .i64 b_.Class, .int .i64 b_.Year, .int .i64 b_.Amount]] w (fun e w => e = .returned (.bool r0_) ∧ Hp w0 (Γ) w) := by
  unfold bucket_Register_set_c1 at hm
  refine st_enter Try.func92 rfl Try.ntmps92 (Nat.le_of_ble_eq_true rfl) ?_
  refine st_seq ?_
  refine st_region ?_
  refine r_box [.int .i64 b_.Class, .int .i64 b_.Year, .int .i64 b_.Amount] H rfl ?_
  intro b1 wd3 H2
  refine r_pure (.bool false) rfl ?_
  refine r_seq ?_
  refine st_seq ?_
  refine st_region ?_
  refine r_fa FA54_2 ⟨b1, 2, none⟩ rfl rfl ?_
  refine r_ld1 (.int .i64 b_.Amount) LD3 rfl ((H2.g0).cell _ rfl) ?_
  refine r_pure (.bool (b_.Amount == 0)) rfl ?_
  refine r_pure (.bool (b_.Amount == 0)) rfl ?_
  refine r_seq ?_
  have hq_ := Option.some.inj hm
  subst hq_
  refine st_ret1 rfl rfl (Nat.le_of_ble_eq_true rfl) rfl ?_
  exact ⟨rfl, H2.d⟩

set_option maxHeartbeats 2000000 in
theorem bucket_Register_set_ok {w0 w : World} {Γ : List (World → Prop)} (b1 : Nat) (r_ : bucket_Register) (A2 : Option Addr) (c3 : Nat) (class_ : Int) (year : Int) (n_ : Int) (r0_ : bucket_Register) (H : Hp w0 (Bx b1 89 [.slice A2 r_.f_l.length c3] :: Row K54 (.slice A2 r_.f_l.length c3) r_.f_l :: Γ) w) (hm : bucket_Register_set r_ class_ year n_ = some r0_) : Calls Try.prog 63 #[.pointer (some ⟨b1, 0, none⟩), .int .i64 class_, .int .i64 year, .int .i64 n_] w (fun e w => ∃ (Ax1 : Option Addr) (nx2 cx3 : Nat), e = .returned (.tuple #[]) ∧ Hp w0 (Bx b1 89 [.slice Ax1 nx2 cx3] :: Row K54 (.slice Ax1 nx2 cx3) r0_.f_l :: Γ) w) := by
  unfold bucket_Register_set at hm
  refine st_enter Try.func63 rfl Try.ntmps63 (Nat.le_of_ble_eq_true rfl) ?_
  refine st_seq ?_
  refine st_region ?_
  refine r_pure (.pointer (some ⟨b1, 0, none⟩)) rfl ?_
  refine r_pure (.int .i64 class_) rfl ?_
  refine r_pure (.int .i64 year) rfl ?_
  obtain ⟨y4, hy5, hm⟩ := bind_some hm
  refine r_callf Try.call60 (bucket_Register_at_ok b1 (⟨r_.f_l⟩ : bucket_Register) A2 r_.f_l.length c3 rfl (((H).g1).cap) (fun _ H => (H.g1.rd)) (fun _ H => (H.g0)) class_ year y4 H hy5) ?_
  rintro e7 wd6 ⟨rfl, H9⟩
  refine ⟨_, rfl, ?_⟩
  refine r_pure (.int .i64 y4) rfl ?_
  refine r_seq ?_
  refine st_cut (fun ρ w => ∃ A10 : Option Addr, ∃ n11 : Nat, ∃ c12 : Nat, ∃ xs13 : List api_Bucket, (∃ base, ρ = updl base [(0, .pointer (some ⟨b1, 0, none⟩))]) ∧ Hp w0 (Row K54 (.slice A10 n11 c12) xs13 :: Bx b1 89 [.slice A10 n11 c12] :: Γ) w ∧ bucket_Register_set.j1 xs13 = some r0_) ?_ ?_
  · refine st_block ?_
    refine st_seq ?_
    refine st_region ?_
    refine r_pure (.int .i64 y4) rfl ?_
    refine r_pure (.bool (decide (y4 ≥ 0))) rfl ?_
    refine r_pure (.bool (decide (y4 ≥ 0))) rfl ?_
    refine r_seq ?_
    rcases ite_some hm with ⟨hb26, hm⟩ | ⟨hb26, hm⟩
    · refine st_condt hb26 rfl ?_
      refine st_region ?_
      refine r_pure (.pointer (some ⟨b1, 0, none⟩)) rfl ?_
      refine r_pure (.pointer (some ⟨b1, 0, none⟩)) rfl ?_
      refine r_fa FA89_0 ⟨b1, 0, none⟩ rfl rfl ?_
      refine r_ld1 (.slice A2 r_.f_l.length c3) LD51 rfl ((H9.g0).cell _ rfl) ?_
      refine r_pure (.int .i64 y4) rfl ?_
      refine r_pure (.int .i64 n_) rfl ?_
      obtain ⟨⟨h027, h128⟩, hm⟩ := gd_some hm
      have hj29 := rd_get h027 h128
      have hA30 := (H9.g1.rd).adO hj29
      refine r_ix IX51 rfl rfl hA30 h027 h128 ?_
      refine r_fa FA54_2 (((oA A2).add (Int.toNat y4 * 3)).add 2) rfl rfl ?_
      refine r_stx1 (K := K54) ((⟨(rd r_.f_l y4).Class, (rd r_.f_l y4).Year, n_⟩ : api_Bucket)) hA30 LD3 rfl rfl rfl H9.u1 hj29 (by decide) rfl ?_
      intro wd32 H31
      refine r_nil ?_
      refine n_bl ?_
      refine n_cut ⟨A2, r_.f_l.length, c3, r_.f_l.set (Int.toNat y4) (⟨(rd r_.f_l y4).Class, (rd r_.f_l y4).Year, n_⟩ : api_Bucket), upk (ac rfl an), H31.u1.u1, hm⟩
    · refine st_condf hb26 rfl ?_
      refine st_seq ?_
      refine st_region ?_
      refine r_pure (.int .i64 n_) rfl ?_
      refine r_pure (.bool (n_ != 0)) rfl ?_
      refine r_pure (.bool (n_ != 0)) rfl ?_
      refine r_seq ?_
      rcases ite_some hm with ⟨hb33, hm⟩ | ⟨hb33, hm⟩
      · refine st_condt hb33 rfl ?_
        refine st_region ?_
        refine r_pure (.pointer (some ⟨b1, 0, none⟩)) rfl ?_
        refine r_pure (.pointer (some ⟨b1, 0, none⟩)) rfl ?_
        refine r_pure (.pointer (some ⟨b1, 0, none⟩)) rfl ?_
        refine r_fa FA89_0 ⟨b1, 0, none⟩ rfl rfl ?_
        refine r_ld1 (.slice A2 r_.f_l.length c3) LD51 rfl ((H9.g0).cell _ rfl) ?_
        refine r_pure (.int .i64 class_) rfl ?_
        refine r_pure (.int .i64 year) rfl ?_
        refine r_pure (.int .i64 n_) rfl ?_
        refine r_build [.int .i64 class_, .int .i64 year, .int .i64 n_] FL54 rfl ?_
        refine r_buildSlice (K := K54) [(⟨class_, year, n_⟩ : api_Bucket)] EL51 rfl rfl rfl (by decide) (by decide) rfl H9 ?_
        intro b34 wd36 H35
        obtain ⟨hf37, hm⟩ := gd_some hm
        refine r_append (K := K54) (ys := [(⟨class_, year, n_⟩ : api_Bucket)]) AP51 rfl rfl rfl rfl H35.u2 (((H35.u2).g1).src) (fit_le hf37 (by decide)) ?_
        intro A38 c39 wd40 H41
        refine r_pure (.pointer (some ⟨b1, 0, none⟩)) rfl ?_
        refine r_fa FA89_0 ⟨b1, 0, none⟩ rfl rfl ?_
        refine r_st1 LD51 rfl rfl rfl H41.u2 rfl ?_
        intro wd43 H42
        refine r_nil ?_
        refine n_bl ?_
        refine n_cut ⟨A38, (r_.f_l ++ [(⟨class_, year, n_⟩ : api_Bucket)]).length, c39, r_.f_l ++ [(⟨class_, year, n_⟩ : api_Bucket)], upk (ac rfl an), H42.u2.d.u1, hm⟩
      · refine st_condf hb33 rfl ?_
        refine st_skip ?_
        refine n_bl ?_
        refine n_cut ⟨A2, r_.f_l.length, c3, r_.f_l, upk (ac rfl an), H9.u1, hm⟩
  · rintro ρ w ⟨A10, n11, c12, xs13, ⟨base, rfl⟩, H14, hm⟩
    obtain rfl := (H14.g0).leneq
    unfold bucket_Register_set.j1 at hm
    refine st_region ?_
    refine r_pure (.pointer (some ⟨b1, 0, none⟩)) rfl ?_
    refine r_pure (.pointer (some ⟨b1, 0, none⟩)) rfl ?_
    refine r_pure (.pointer (some ⟨b1, 0, none⟩)) rfl ?_
    refine r_fa FA89_0 ⟨b1, 0, none⟩ rfl rfl ?_
    refine r_ld1 (.slice A10 xs13.length c12) LD51 rfl ((H14.g1).cell _ rfl) ?_
    obtain ⟨y15, hy16, hm⟩ := bind_some hm
    refine r_callf Try.call91 (slices_DeleteFunc_api_Bucket_ok xs13 A10 xs13.length c12 (.func (.func 92) #[] #[]) (fun x => bucket_Register_set_c1 x) ⟨92, [], rfl, Try.call92, fun x y hy Δ w H hΔ => bucket_Register_set_c1_ok x y H hy⟩ y15 H14 hy16) ?_
    rintro e18 wd17 ⟨A21, n22, c23, rfl, H20⟩
    obtain rfl := (H20.g0).leneq
    refine ⟨_, rfl, ?_⟩
    refine r_pure (.pointer (some ⟨b1, 0, none⟩)) rfl ?_
    refine r_fa FA89_0 ⟨b1, 0, none⟩ rfl rfl ?_
    refine r_st1 LD51 rfl rfl rfl H20.u1 rfl ?_
    intro wd25 H24
    refine r_nil ?_
    have hq_ := Option.some.inj hm
    subst hq_
    refine n_fin0 rfl ?_
    exact ⟨A21, y15.length, c23, rfl, H24.u1.u1⟩

set_option maxHeartbeats 2000000 in
theorem bucket_Register_take_ok {w0 w : World} {Γ : List (World → Prop)} (b1 : Nat) (r_ : bucket_Register) (A2 : Option Addr) (c3 : Nat) (b4 : Nat) (next : bucket_Register) (A5 : Option Addr) (c6 : Nat) (r0_ : Int) (r1_ : bucket_Register) (H : Hp w0 (Bx b1 89 [.slice A2 r_.f_l.length c3] :: Row K54 (.slice A2 r_.f_l.length c3) r_.f_l :: Bx b4 89 [.slice A5 next.f_l.length c6] :: Row K54 (.slice A5 next.f_l.length c6) next.f_l :: Γ) w) (hm : bucket_Register_take r_ next = some (r0_, r1_)) : Calls Try.prog 64 #[.pointer (some ⟨b1, 0, none⟩), .pointer (some ⟨b4, 0, none⟩)] w (fun e w => ∃ (Ax1 : Option Addr) (nx2 cx3 : Nat), e = .returned (.int .i64 r0_) ∧ Hp w0 (Bx b1 89 [.slice Ax1 nx2 cx3] :: Row K54 (.slice Ax1 nx2 cx3) r1_.f_l :: Γ) w) := by
  unfold bucket_Register_take at hm
  refine st_enter Try.func64 rfl Try.ntmps64 (Nat.le_of_ble_eq_true rfl) ?_
  refine st_seq ?_
  refine st_region ?_
  refine r_pure (.int .i64 0) rfl ?_
  refine r_seq ?_
  refine st_seq ?_
  refine st_seq ?_
  refine st_region ?_
  refine r_pure (.pointer (some ⟨b4, 0, none⟩)) rfl ?_
  refine r_pure (.pointer (some ⟨b4, 0, none⟩)) rfl ?_
  refine r_fa FA89_0 ⟨b4, 0, none⟩ rfl rfl ?_
  refine r_ld1 (.slice A5 next.f_l.length c6) LD51 rfl ((H.g2).cell _ rfl) ?_
  refine r_len Try.underlying51 rfl ?_
  refine r_pure (.bool (decide ((next.f_l.length : Int) > 12))) rfl ?_
  refine r_seq ?_
  rcases ite_some hm with ⟨hb7, hm⟩ | ⟨hb7, hm⟩
  · refine st_condt hb7 rfl ?_
    refine st_seq ?_
    refine st_region ?_
    refine r_pure (.int .i64 5) rfl ?_
    refine r_seq ?_
    obtain ⟨rfl, rfl⟩ := some_inj2 hm
    refine st_ret1 rfl rfl (Nat.le_of_ble_eq_true rfl) rfl ?_
    exact ⟨A2, r_.f_l.length, c3, rfl, H.u2.d.u2.d.u1.u1⟩
  · refine st_condf hb7 rfl ?_
    refine st_skip ?_
    refine n_sq ?_
    refine st_seq ?_
    refine st_region ?_
    refine r_pure (.pointer (some ⟨b1, 0, none⟩)) rfl ?_
    refine r_pure (.pointer (some ⟨b4, 0, none⟩)) rfl ?_
    refine r_pure (.pointer (some ⟨b4, 0, none⟩)) rfl ?_
    refine r_ldA [.slice A5 next.f_l.length c6] LD89 rfl rfl ((H.g2).cells rfl) ?_
    refine r_pure (.pointer (some ⟨b1, 0, none⟩)) rfl ?_
    refine r_stA [.slice A5 next.f_l.length c6] LD89 rfl rfl rfl rfl H (Nat.le_of_ble_eq_true rfl) rfl ?_
    intro wd9 H8
    refine r_seq ?_
    refine st_seq ?_
    refine st_region ?_
    refine r_pure (.int .i64 0) rfl ?_
    refine r_seq ?_
    obtain ⟨rfl, rfl⟩ := some_inj2 hm
    refine st_ret1 rfl rfl (Nat.le_of_ble_eq_true rfl) rfl ?_
    exact ⟨A5, next.f_l.length, c6, rfl, H8.u1.d.u1.d.u1.u1⟩

set_option maxHeartbeats 2000000 in
theorem bucket_Register_Move_ok {w0 w : World} {Γ : List (World → Prop)} (b1 : Nat) (r_ : bucket_Register) (A2 : Option Addr) (c3 : Nat) (class_ : Int) (year : Int) (n_ : Int) (r0_ : Int) (r1_ : bucket_Register) (H : Hp w0 (Bx b1 89 [.slice A2 r_.f_l.length c3] :: Row K54 (.slice A2 r_.f_l.length c3) r_.f_l :: Γ) w) (hm : bucket_Register_Move r_ class_ year n_ = some (r0_, r1_)) : Calls Try.prog 33 #[.pointer (some ⟨b1, 0, none⟩), .int .i64 class_, .int .i64 year, .int .i64 n_] w (fun e w => ∃ (Ax1 : Option Addr) (nx2 cx3 : Nat), e = .returned (.int .i64 r0_) ∧ Hp w0 (Bx b1 89 [.slice Ax1 nx2 cx3] :: Row K54 (.slice Ax1 nx2 cx3) r1_.f_l :: Γ) w) := by
  unfold bucket_Register_Move at hm
  refine st_enter Try.func33 rfl Try.ntmps33 (Nat.le_of_ble_eq_true rfl) ?_
  refine st_seq ?_
  refine st_region ?_
  refine r_pure (.int .i64 0) rfl ?_
  refine r_seq ?_
  refine st_seq ?_
  refine st_cut (fun ρ w => ∃ q4 : Bool, (∃ base, ρ = updl base [(0, .pointer (some ⟨b1, 0, none⟩)), (1, .int .i64 class_), (2, .int .i64 year), (3, .int .i64 n_), (19, .bool q4)]) ∧ Hp w0 (Row K54 (.slice A2 r_.f_l.length c3) r_.f_l :: Bx b1 89 [.slice A2 r_.f_l.length c3] :: Γ) w ∧ bucket_Register_Move.j1 r_ class_ year n_ q4 = some (r0_, r1_)) ?_ ?_
  · refine st_region ?_
    refine r_pure (.int .i64 class_) rfl ?_
    refine r_pure (.int .i64 year) rfl ?_
    obtain ⟨y64, hy65, hm⟩ := bind_some hm
    refine r_callf Try.call61 (bucket_right_ok class_ year y64 H hy65) ?_
    rintro e67 wd66 ⟨rfl, H69⟩
    refine ⟨_, rfl, ?_⟩
    refine r_pure (.bool (!y64)) rfl ?_
    refine r_pure (.bool (!y64)) rfl ?_
    rcases ite_some hm with ⟨hb70, hm⟩ | ⟨hb70, hm⟩
    · refine r_not (wn_f rfl rfl (by decide) rfl hb70) ?_
      refine r_not (wn_f rfl rfl (by decide) rfl hb70) ?_
      refine r_not (wn_f rfl rfl (by decide) rfl hb70) ?_
      refine r_pick_t (.bool true) hb70 rfl rfl ?_
      refine r_nil ?_
      refine n_cut ⟨true, upk (ac rfl (ac rfl (ac rfl (ac rfl (ac rfl an))))), H69.u1, hm⟩
    · refine r_pure (.int .i64 n_) rfl ?_ (wn_t rfl rfl (by decide) rfl hb70)
      obtain ⟨y71, hy72, hm⟩ := bind_some hm
      refine r_callf Try.call46 (rate_Money_ok n_ y71 H69 hy72) ?_ (wn_t rfl rfl (by decide) rfl hb70)
      rintro e74 wd73 ⟨rfl, H76⟩
      refine ⟨_, rfl, ?_⟩
      refine r_pure (.bool (!y71)) rfl ?_ (wn_t rfl rfl (by decide) rfl hb70)
      refine r_pick_f (.bool (!y71)) hb70 rfl rfl ?_
      refine r_nil ?_
      refine n_cut ⟨!y71, upk (ac rfl (ac rfl (ac rfl (ac rfl (ac rfl an))))), H76.u1, hm⟩
  · rintro ρ w ⟨q4, ⟨base, rfl⟩, H5, hm⟩
    unfold bucket_Register_Move.j1 at hm
    rcases ite_some hm with ⟨hb6, hm⟩ | ⟨hb6, hm⟩
    · refine st_condt hb6 rfl ?_
      refine st_seq ?_
      refine st_region ?_
      refine r_pure (.int .i64 1) rfl ?_
      refine r_seq ?_
      obtain ⟨rfl, rfl⟩ := some_inj2 hm
      refine st_ret1 rfl rfl (Nat.le_of_ble_eq_true rfl) rfl ?_
      exact ⟨A2, r_.f_l.length, c3, rfl, H5.u1⟩
    · refine st_condf hb6 rfl ?_
      refine st_skip ?_
      refine n_sq ?_
      refine st_seq ?_
      refine st_region ?_
      refine r_pure (.pointer (some ⟨b1, 0, none⟩)) rfl ?_
      refine r_pure (.int .i64 class_) rfl ?_
      refine r_pure (.int .i64 year) rfl ?_
      obtain ⟨y7, hy8, hm⟩ := bind_some hm
      refine r_callf Try.call30 (bucket_Register_Get_ok b1 (⟨r_.f_l⟩ : bucket_Register) A2 r_.f_l.length c3 rfl (((H5).g0).cap) (fun _ H => (H.g0.rd)) (fun _ H => (H.g1)) class_ year y7 H5 hy8) ?_
      rintro e10 wd9 ⟨rfl, H12⟩
      refine ⟨_, rfl, ?_⟩
      refine r_pure (.int .i64 n_) rfl ?_
      refine r_pure (.int .i64 (w64 (y7 + n_))) rfl ?_
      refine r_pure (.int .i64 (w64 (y7 + n_))) rfl ?_
      refine r_seq ?_
      refine st_seq ?_
      refine st_cut (fun ρ w => ∃ q13 : Bool, (∃ base, ρ = updl base [(0, .pointer (some ⟨b1, 0, none⟩)), (1, .int .i64 class_), (2, .int .i64 year), (9, .int .i64 (w64 (y7 + n_))), (36, .bool q13)]) ∧ Hp w0 (Row K54 (.slice A2 r_.f_l.length c3) r_.f_l :: Bx b1 89 [.slice A2 r_.f_l.length c3] :: Γ) w ∧ bucket_Register_Move.j2 r_ class_ year y7 n_ q13 = some (r0_, r1_)) ?_ ?_
      · refine st_region ?_
        refine r_pure (.int .i64 (w64 (y7 + n_))) rfl ?_
        obtain ⟨y45, hy46, hm⟩ := bind_some hm
        refine r_callf Try.call46 (rate_Money_ok (w64 (y7 + n_)) y45 H12 hy46) ?_
        rintro e48 wd47 ⟨rfl, H50⟩
        refine ⟨_, rfl, ?_⟩
        refine r_pure (.bool (!y45)) rfl ?_
        refine r_pure (.bool (!y45)) rfl ?_
        rcases ite_some hm with ⟨hb51, hm⟩ | ⟨hb51, hm⟩
        · refine r_not (wn_f rfl rfl (by decide) rfl hb51) ?_
          refine r_not (wn_f rfl rfl (by decide) rfl hb51) ?_
          refine r_not (wn_f rfl rfl (by decide) rfl hb51) ?_
          refine r_not (wn_f rfl rfl (by decide) rfl hb51) ?_
          refine r_not (wn_f rfl rfl (by decide) rfl hb51) ?_
          refine r_not (wn_f rfl rfl (by decide) rfl hb51) ?_
          refine r_pick_t (.bool true) hb51 rfl rfl ?_
          refine r_nil ?_
          refine n_cut ⟨true, upk (ac rfl (ac rfl (ac rfl (ac rfl (ac rfl an))))), H50.u1.u1, hm⟩
        · refine r_pure (.pointer (some ⟨b1, 0, none⟩)) rfl ?_ (wn_t rfl rfl (by decide) rfl hb51)
          obtain ⟨y52, hy53, hm⟩ := bind_some hm
          refine r_callf Try.call29 (bucket_Register_Total_ok b1 (⟨r_.f_l⟩ : bucket_Register) A2 r_.f_l.length c3 rfl (((H50).g0).cap) (fun _ H => (H.g0.rd)) (fun _ H => (H.g1)) y52 H50 hy53) ?_ (wn_t rfl rfl (by decide) rfl hb51)
          rintro e55 wd54 ⟨rfl, H57⟩
          refine ⟨_, rfl, ?_⟩
          refine r_pure (.int .i64 n_) rfl ?_ (wn_t rfl rfl (by decide) rfl hb51)
          refine r_pure (.int .i64 (w64 (y52 + n_))) rfl ?_ (wn_t rfl rfl (by decide) rfl hb51)
          obtain ⟨y58, hy59, hm⟩ := bind_some hm
          refine r_callf Try.call46 (rate_Money_ok (w64 (y52 + n_)) y58 H57 hy59) ?_ (wn_t rfl rfl (by decide) rfl hb51)
          rintro e61 wd60 ⟨rfl, H63⟩
          refine ⟨_, rfl, ?_⟩
          refine r_pure (.bool (!y58)) rfl ?_ (wn_t rfl rfl (by decide) rfl hb51)
          refine r_pick_f (.bool (!y58)) hb51 rfl rfl ?_
          refine r_nil ?_
          refine n_cut ⟨!y58, upk (ac rfl (ac rfl (ac rfl (ac rfl (ac rfl an))))), H63.u1.u1, hm⟩
      · rintro ρ w ⟨q13, ⟨base, rfl⟩, H14, hm⟩
        unfold bucket_Register_Move.j2 at hm
        rcases ite_some hm with ⟨hb15, hm⟩ | ⟨hb15, hm⟩
        · refine st_condt hb15 rfl ?_
          refine st_seq ?_
          refine st_region ?_
          refine r_pure (.int .i64 6) rfl ?_
          refine r_seq ?_
          obtain ⟨rfl, rfl⟩ := some_inj2 hm
          refine st_ret1 rfl rfl (Nat.le_of_ble_eq_true rfl) rfl ?_
          exact ⟨A2, r_.f_l.length, c3, rfl, H14.u1⟩
        · refine st_condf hb15 rfl ?_
          refine st_skip ?_
          refine n_sq ?_
          refine st_seq ?_
          refine st_region ?_
          refine r_pure (.pointer (some ⟨b1, 0, none⟩)) rfl ?_
          obtain ⟨y16, hy17, hm⟩ := bind_some hm
          refine r_callf Try.call62 (bucket_Register_Clone_ok b1 (⟨r_.f_l⟩ : bucket_Register) A2 r_.f_l.length c3 rfl (((H14).g0).cap) (fun _ H => (H.g0.rd)) (fun _ H => (H.g1)) y16 H14 hy17) ?_
          rintro e19 wd18 ⟨b22, A23, n24, c25, rfl, H21⟩
          obtain rfl := (H21.g1).leneq
          refine ⟨_, rfl, ?_⟩
          refine r_pure (.pointer (some ⟨b22, 0, none⟩)) rfl ?_
          refine r_seq ?_
          refine st_seq ?_
          refine st_region ?_
          refine r_pure (.pointer (some ⟨b22, 0, none⟩)) rfl ?_
          refine r_pure (.int .i64 class_) rfl ?_
          refine r_pure (.int .i64 year) rfl ?_
          refine r_pure (.int .i64 (w64 (y7 + n_))) rfl ?_
          obtain ⟨y26, hy27, hm⟩ := bind_some hm
          refine r_callf Try.call63 (bucket_Register_set_ok b22 (⟨y16.f_l⟩ : bucket_Register) A23 c25 class_ year (w64 (y7 + n_)) y26 H21.u1.u1 hy27) ?_
          rintro e29 wd28 ⟨A32, n33, c34, rfl, H31⟩
          obtain rfl := (H31.g1).leneq
          refine ⟨_, rfl, ?_⟩
          refine r_seq ?_
          refine st_seq ?_
          refine st_region ?_
          refine r_pure (.pointer (some ⟨b1, 0, none⟩)) rfl ?_
          refine r_pure (.pointer (some ⟨b22, 0, none⟩)) rfl ?_
          obtain ⟨⟨y35, y36⟩, hy37, hm⟩ := bind_some hm
          refine r_callf Try.call64 (bucket_Register_take_ok b1 (⟨r_.f_l⟩ : bucket_Register) A2 c3 b22 (⟨y26.f_l⟩ : bucket_Register) A32 c34 y35 y36 H31.u1.u1.u2.u3 hy37) ?_
          rintro e39 wd38 ⟨A42, n43, c44, rfl, H41⟩
          obtain rfl := (H41.g1).leneq
          refine ⟨_, rfl, ?_⟩
          refine r_pure (.int .i64 y35) rfl ?_
          refine r_seq ?_
          obtain ⟨rfl, rfl⟩ := some_inj2 hm
          refine st_ret1 rfl rfl (Nat.le_of_ble_eq_true rfl) rfl ?_
          exact ⟨A42, y36.f_l.length, c44, rfl, H41.u1.u1⟩

set_option maxHeartbeats 2000000 in
theorem scutagelaw10_Of_ok {w0 w : World} {Γ : List (World → Prop)} (b1 : Nat) (x_ : scutageref09_Register) (A2 : Option Addr) (n7 c3 : Nat) (hn6 : n7 = x_.B.length) (hc4 : x_.B.length ≤ c3) (hv5 : ∀ u, Hp w0 Γ u → SlR K54 A2 x_.B u) (hv8 : ∀ u, Hp w0 Γ u → Bx b1 86 [.slice A2 n7 c3] u) (r0_ : Option bucket_Register) (H : Hp w0 (Γ) w) (hm : scutagelaw10_Of x_ = some r0_) : Calls Try.prog 26 #[.pointer (some ⟨b1, 0, none⟩)] w (fun e w => (r0_ = none ∧ e = .returned (.pointer none) ∧ Hp w0 (Γ) w) ∨ (∃ o_ : bucket_Register, r0_ = some o_ ∧ ∃ (bx1 : Nat), ∃ (Ax2 : Option Addr) (nx3 cx4 : Nat), e = .returned (.pointer (some ⟨bx1, 0, none⟩)) ∧ Hp w0 (Bx bx1 89 [.slice Ax2 nx3 cx4] :: Row K54 (.slice Ax2 nx3 cx4) o_.f_l :: Γ) w)) := by
  subst hn6
  unfold scutagelaw10_Of at hm
  refine st_enter Try.func26 rfl Try.ntmps26 (Nat.le_of_ble_eq_true rfl) ?_
  refine st_seq ?_
  refine st_region ?_
  refine r_pure (.pointer none) rfl ?_
  refine r_seq ?_
  refine st_seq ?_
  refine st_region ?_
  obtain ⟨y9, hy10, hm⟩ := bind_some hm
  refine r_callf Try.call55 (bucket_New_ok  y9 H hy10) ?_
  rintro e12 wd11 ⟨b15, A16, n17, c18, rfl, H14⟩
  obtain rfl := (H14.g1).leneq
  refine ⟨_, rfl, ?_⟩
  refine r_pure (.pointer (some ⟨b15, 0, none⟩)) rfl ?_
  refine r_seq ?_
  refine st_seq ?_
  refine st_seq ?_
  refine st_region ?_
  refine r_pure (.pointer (some ⟨b15, 0, none⟩)) rfl ?_
  refine r_eqn Try.underlying47 rfl rfl ?_
  refine r_seq ?_
  refine st_condf rfl rfl ?_
  refine st_skip ?_
  refine n_sq ?_
  refine st_seq ?_
  refine st_region ?_
  refine r_pure (.pointer (some ⟨b1, 0, none⟩)) rfl ?_
  refine r_pure (.pointer (some ⟨b1, 0, none⟩)) rfl ?_
  refine r_fa FA86_0 ⟨b1, 0, none⟩ rfl rfl ?_
  refine r_ld1 (.slice A2 x_.B.length c3) LD51 rfl ((hv8 _ H14.d.d).cell _ rfl) ?_
  obtain ⟨hf20, hm⟩ := gd_some hm
  have H19 := H14.add (A := Row K54 (.slice none 0 0) []) Row.nil
  refine r_append (K := K54) (ys := x_.B) AP51 rfl rfl rfl rfl H19 ((hv5 _ H19.d.d.d).src) (fit_le hf20 (by decide)) ?_
  intro A21 c22 wd23 H24
  refine r_pure (.slice A21 ((([] : List api_Bucket) ++ x_.B).length) c22) rfl ?_
  refine r_seq ?_
  refine st_seq ?_
  refine st_block ?_
  obtain ⟨tl43, hl44, hm42⟩ := bind_some hm
  refine st_loopF (scutagelaw10_Of.l1) (fun s ρ w => ∃ xs36 : List api_Bucket, ∃ xs40 : List api_Bucket, ∃ A33 : Option Addr, ∃ n34 : Nat, ∃ c35 : Nat, ∃ A37 : Option Addr, ∃ n38 : Nat, ∃ c39 : Nat, (xs36, xs40) = s ∧ (∃ base, ρ = updl base [(3, .pointer (some ⟨b15, 0, none⟩)), (4, .slice A37 n38 c39)]) ∧ Hp w0 (Row K54 (.slice A33 n34 c35) xs36 :: Bx b15 89 [.slice A33 n34 c35] :: Row K54 (.slice A37 n38 c39) xs40 :: Γ) w) hl44 (fun _ => rfl) ⟨y9.f_l, ([] : List api_Bucket) ++ x_.B, A16, y9.f_l.length, c18, A21, (([] : List api_Bucket) ++ x_.B).length, c22, rfl, upk (ac rfl (ac rfl an)), H24.u1.u2⟩ ?_
  rintro fuel50 IH52 s ρ w ⟨xs36, xs40, A33, n34, c35, A37, n38, c39, rfl, ⟨base, rfl⟩, H41⟩ hm
  obtain rfl := (H41.g0).leneq
  obtain rfl := (H41.g2).leneq
  rw [scutagelaw10_Of.l1] at hm
  refine st_seq ?_
  refine st_seq ?_
  refine st_region ?_
  refine r_pure (.slice A37 xs40.length c39) rfl ?_
  refine r_len Try.underlying51 rfl ?_
  refine r_pure (.bool (decide ((xs40.length : Int) > 0))) rfl ?_
  refine r_seq ?_
  rcases ite_some hm with ⟨hb53, hm⟩ | ⟨hb53, hm⟩
  · refine st_condt hb53 rfl ?_
    refine st_skip ?_
    refine n_sq ?_
    refine st_block ?_
    refine st_seq ?_
    refine st_region ?_
    refine r_pure (.int .i64 0) rfl ?_
    refine r_seq ?_
    refine st_seq ?_
    refine st_seq ?_
    refine st_region ?_
    refine r_pure (.slice A37 xs40.length c39) rfl ?_
    refine r_len Try.underlying51 rfl ?_
    refine r_pure (.int .i64 0) rfl ?_
    refine r_seq ?_
    refine st_block ?_
    have hlim75 := (H41.g2.rd).lim
    obtain ⟨tl58, hl59, hm57⟩ := bind_some hm
    refine st_loopL (scutagelaw10_Of.l2 xs36) (fun ys64 s ρ w => ∃ i60 : Int, ∃ v55 : Int, ∃ dn61 : List api_Bucket, (i60, v55) = s ∧ xs40 = dn61 ++ ys64 ∧ i60 = (dn61.length : Int) ∧ (∃ base, ρ = updl base [(3, .pointer (some ⟨b15, 0, none⟩)), (4, .slice A37 xs40.length c39), (5, .int .i64 v55), (19, .slice A37 xs40.length c39), (20, .int .i64 (xs40.length : Int)), (21, .int .i64 i60)]) ∧ Hp w0 (Row K54 (.slice A33 xs36.length c35) xs36 :: Bx b15 89 [.slice A33 xs36.length c35] :: Row K54 (.slice A37 xs40.length c39) xs40 :: Γ) w) hl59 ⟨0, 0, [], rfl, rfl, rfl, upk (ac rfl (ac rfl (ac rfl (ac rfl (ac rfl (ac rfl an)))))), H41.u2.u2.u2⟩ ?_
    rintro m ys64 IH68 s ρ w ⟨i60, v55, dn61, rfl, hxs62, hi63, ⟨base, rfl⟩, H56⟩ hm
    rcases ys64 with _ | ⟨y65, ys64⟩
    · rw [scutagelaw10_Of.l2] at hm
      have hb69 := range_end hxs62 hi63
      refine st_seq ?_
      refine st_region ?_
      refine r_pure (.bool (decide (i60 < (xs40.length : Int)))) rfl ?_
      refine r_seq ?_
      refine st_seq ?_
      refine st_condf hb69 rfl ?_
      have hq_ := Option.some.inj hm
      refine st_exit rfl ?_
      subst hq_
      refine n_sq ?_
      refine st_seq ?_
      refine st_seq ?_
      obtain ⟨⟨h077, h178⟩, hm⟩ := gd_some hm57
      have hj79 := rd_get h077 h178
      obtain ⟨⟨y81, y82⟩, hy83, hm⟩ := bind_some hm
      refine Flow.run' [[], [], [], [1, 2], [1, 2, 3], [1, 2, 3, 4], [], [], [6, 7], [6, 7, 8], [6, 7, 8, 9], [], [], [11, 12], [11, 12, 13], [11, 12, 13, 14], [0, 1, 2, 3, 4, 5, 6, 7, 8, 9, 10, 11, 12, 13, 14, 15], [0, 1, 2, 3, 4, 5, 6, 7, 8, 9, 10, 11, 12, 13, 14, 15, 16]] [(35, 0), (36, 1), (37, 2), (38, 3), (39, 4), (40, 5), (41, 6), (42, 7), (43, 8), (44, 9), (45, 10), (46, 11), (47, 12), (48, 13), (49, 14), (50, 15), (51, 16), (52, 17)] [(fun η76 v => v.1 = .pointer (some ⟨b15, 0, none⟩)), (fun η76 v => v.1 = .slice A37 xs40.length c39), (fun η76 v => v.1 = .int .i64 v55), (fun η76 v => v.1 = .pointer (some ((oA A37).add (Int.toNat v55 * 3)))), (fun η76 v => v.1 = .pointer (some (((oA A37).add (Int.toNat v55 * 3)).add 0))), (fun η76 v => v.1 = .int .i64 ((rd xs40 v55).Class)), (fun η76 v => v.1 = .slice A37 xs40.length c39), (fun η76 v => v.1 = .int .i64 v55), (fun η76 v => v.1 = .pointer (some ((oA A37).add (Int.toNat v55 * 3)))), (fun η76 v => v.1 = .pointer (some (((oA A37).add (Int.toNat v55 * 3)).add 1))), (fun η76 v => v.1 = .int .i64 ((rd xs40 v55).Year)), (fun η76 v => v.1 = .slice A37 xs40.length c39), (fun η76 v => v.1 = .int .i64 v55), (fun η76 v => v.1 = .pointer (some ((oA A37).add (Int.toNat v55 * 3)))), (fun η76 v => v.1 = .pointer (some (((oA A37).add (Int.toNat v55 * 3)).add 2))), (fun η76 v => v.1 = .int .i64 ((rd xs40 v55).Amount)), (fun η76 v => v.1 = .int .i64 y81), (fun η76 v => v.1 = .bool (y81 != 0))] [⟨none, (some 16), fun η76 => Row K54 (.slice A33 xs36.length c35) xs36⟩, ⟨none, (some 16), fun η76 => Bx b15 89 [.slice A33 xs36.length c35]⟩, ⟨(some 16), none, fun η76 => Bx b15 89 [.slice (vA (vT 1 ((η76 16).2))) y82.f_l.length (vC (vT 1 ((η76 16).2)))]⟩, ⟨(some 16), none, fun η76 => Row K54 (.slice (vA (vT 1 ((η76 16).2))) y82.f_l.length (vC (vT 1 ((η76 16).2)))) y82.f_l⟩] rfl (by kernel_rfl) (by kernel_rfl) H56.u1.u1 ⟨?_, ?_, ?_, ?_, ?_, ?_, ?_, ?_, ?_, ?_, ?_, ?_, ?_, ?_, ?_, ?_, ?_, ?_, trivial⟩ ?_
      · intro η76 wd94 Δ95 hE91 hR92 H93
        have H93 : Hp w0 ((Δ95 ++ (Row K54 (.slice A37 xs40.length c39) xs40 :: Γ))) wd94 := H93
        refine sp_op [(3, .pointer (some ⟨b15, 0, none⟩))] (ac rfl an) ?_
        refine r_pure (.pointer (some ⟨b15, 0, none⟩)) rfl ?_
        exact r_nil (n_lp ⟨_, rfl, undef, rfl, H93⟩)
      · intro η76 wd99 Δ100 hE96 hR97 H98
        have H98 : Hp w0 ((Δ100 ++ (Row K54 (.slice A37 xs40.length c39) xs40 :: Γ))) wd99 := H98
        refine sp_op [(4, .slice A37 xs40.length c39)] (ac rfl an) ?_
        refine r_pure (.slice A37 xs40.length c39) rfl ?_
        exact r_nil (n_lp ⟨_, rfl, undef, rfl, H98⟩)
      · intro η76 wd104 Δ105 hE101 hR102 H103
        have H103 : Hp w0 ((Δ105 ++ (Row K54 (.slice A37 xs40.length c39) xs40 :: Γ))) wd104 := H103
        refine sp_op [(5, .int .i64 v55)] (ac rfl an) ?_
        refine r_pure (.int .i64 v55) rfl ?_
        exact r_nil (n_lp ⟨_, rfl, undef, rfl, H103⟩)
      · intro η76 wd109 Δ110 hE106 hR107 H108
        have H108 : Hp w0 ((Δ110 ++ (Row K54 (.slice A37 xs40.length c39) xs40 :: Γ))) wd109 := H108
        refine sp_op [(36, .slice A37 xs40.length c39), (37, .int .i64 v55)] (ac (hE106 1 (by decide)) (ac (hE106 2 (by decide)) an)) ?_
        have hA114 := ((H108).tl.g0.rd).adO hj79
        refine r_ix IX51 rfl rfl hA114 h077 h178 ?_
        exact r_nil (n_lp ⟨_, rfl, undef, rfl, H108⟩)
      · intro η76 wd118 Δ119 hE115 hR116 H117
        have H117 : Hp w0 ((Δ119 ++ (Row K54 (.slice A37 xs40.length c39) xs40 :: Γ))) wd118 := H117
        refine sp_op [(38, .pointer (some ((oA A37).add (Int.toNat v55 * 3))))] (ac (hE115 3 (by decide)) an) ?_
        refine r_fa FA54_0 (((oA A37).add (Int.toNat v55 * 3)).add 0) rfl rfl ?_
        exact r_nil (n_lp ⟨_, rfl, undef, rfl, H117⟩)
      · intro η76 wd123 Δ124 hE120 hR121 H122
        have H122 : Hp w0 ((Δ124 ++ (Row K54 (.slice A37 xs40.length c39) xs40 :: Γ))) wd123 := H122
        refine sp_op [(39, .pointer (some (((oA A37).add (Int.toNat v55 * 3)).add 0)))] (ac (hE120 4 (by decide)) an) ?_
        have hA125 := ((H122).tl.g0.rd).adO hj79
        refine r_ld1 (.int .i64 ((rd xs40 v55).Class)) LD3 rfl (((H122).tl.g0.rd).cA hA125 hj79 0 _ rfl) ?_
        exact r_nil (n_lp ⟨_, rfl, undef, rfl, H122⟩)
      · intro η76 wd129 Δ130 hE126 hR127 H128
        have H128 : Hp w0 ((Δ130 ++ (Row K54 (.slice A37 xs40.length c39) xs40 :: Γ))) wd129 := H128
        refine sp_op [(4, .slice A37 xs40.length c39)] (ac rfl an) ?_
        refine r_pure (.slice A37 xs40.length c39) rfl ?_
        exact r_nil (n_lp ⟨_, rfl, undef, rfl, H128⟩)
      · intro η76 wd134 Δ135 hE131 hR132 H133
        have H133 : Hp w0 ((Δ135 ++ (Row K54 (.slice A37 xs40.length c39) xs40 :: Γ))) wd134 := H133
        refine sp_op [(5, .int .i64 v55)] (ac rfl an) ?_
        refine r_pure (.int .i64 v55) rfl ?_
        exact r_nil (n_lp ⟨_, rfl, undef, rfl, H133⟩)
      · intro η76 wd139 Δ140 hE136 hR137 H138
        have H138 : Hp w0 ((Δ140 ++ (Row K54 (.slice A37 xs40.length c39) xs40 :: Γ))) wd139 := H138
        refine sp_op [(41, .slice A37 xs40.length c39), (42, .int .i64 v55)] (ac (hE136 6 (by decide)) (ac (hE136 7 (by decide)) an)) ?_
        have hA141 := ((H138).tl.g0.rd).adO hj79
        refine r_ix IX51 rfl rfl hA141 h077 h178 ?_
        exact r_nil (n_lp ⟨_, rfl, undef, rfl, H138⟩)
      · intro η76 wd145 Δ146 hE142 hR143 H144
        have H144 : Hp w0 ((Δ146 ++ (Row K54 (.slice A37 xs40.length c39) xs40 :: Γ))) wd145 := H144
        refine sp_op [(43, .pointer (some ((oA A37).add (Int.toNat v55 * 3))))] (ac (hE142 8 (by decide)) an) ?_
        refine r_fa FA54_1 (((oA A37).add (Int.toNat v55 * 3)).add 1) rfl rfl ?_
        exact r_nil (n_lp ⟨_, rfl, undef, rfl, H144⟩)
      · intro η76 wd150 Δ151 hE147 hR148 H149
        have H149 : Hp w0 ((Δ151 ++ (Row K54 (.slice A37 xs40.length c39) xs40 :: Γ))) wd150 := H149
        refine sp_op [(44, .pointer (some (((oA A37).add (Int.toNat v55 * 3)).add 1)))] (ac (hE147 9 (by decide)) an) ?_
        have hA152 := ((H149).tl.g0.rd).adO hj79
        refine r_ld1 (.int .i64 ((rd xs40 v55).Year)) LD3 rfl (((H149).tl.g0.rd).cA hA152 hj79 1 _ rfl) ?_
        exact r_nil (n_lp ⟨_, rfl, undef, rfl, H149⟩)
      · intro η76 wd156 Δ157 hE153 hR154 H155
        have H155 : Hp w0 ((Δ157 ++ (Row K54 (.slice A37 xs40.length c39) xs40 :: Γ))) wd156 := H155
        refine sp_op [(4, .slice A37 xs40.length c39)] (ac rfl an) ?_
        refine r_pure (.slice A37 xs40.length c39) rfl ?_
        exact r_nil (n_lp ⟨_, rfl, undef, rfl, H155⟩)
      · intro η76 wd161 Δ162 hE158 hR159 H160
        have H160 : Hp w0 ((Δ162 ++ (Row K54 (.slice A37 xs40.length c39) xs40 :: Γ))) wd161 := H160
        refine sp_op [(5, .int .i64 v55)] (ac rfl an) ?_
        refine r_pure (.int .i64 v55) rfl ?_
        exact r_nil (n_lp ⟨_, rfl, undef, rfl, H160⟩)
      · intro η76 wd166 Δ167 hE163 hR164 H165
        have H165 : Hp w0 ((Δ167 ++ (Row K54 (.slice A37 xs40.length c39) xs40 :: Γ))) wd166 := H165
        refine sp_op [(46, .slice A37 xs40.length c39), (47, .int .i64 v55)] (ac (hE163 11 (by decide)) (ac (hE163 12 (by decide)) an)) ?_
        have hA168 := ((H165).tl.g0.rd).adO hj79
        refine r_ix IX51 rfl rfl hA168 h077 h178 ?_
        exact r_nil (n_lp ⟨_, rfl, undef, rfl, H165⟩)
      · intro η76 wd172 Δ173 hE169 hR170 H171
        have H171 : Hp w0 ((Δ173 ++ (Row K54 (.slice A37 xs40.length c39) xs40 :: Γ))) wd172 := H171
        refine sp_op [(48, .pointer (some ((oA A37).add (Int.toNat v55 * 3))))] (ac (hE169 13 (by decide)) an) ?_
        refine r_fa FA54_2 (((oA A37).add (Int.toNat v55 * 3)).add 2) rfl rfl ?_
        exact r_nil (n_lp ⟨_, rfl, undef, rfl, H171⟩)
      · intro η76 wd177 Δ178 hE174 hR175 H176
        have H176 : Hp w0 ((Δ178 ++ (Row K54 (.slice A37 xs40.length c39) xs40 :: Γ))) wd177 := H176
        refine sp_op [(49, .pointer (some (((oA A37).add (Int.toNat v55 * 3)).add 2)))] (ac (hE174 14 (by decide)) an) ?_
        have hA179 := ((H176).tl.g0.rd).adO hj79
        refine r_ld1 (.int .i64 ((rd xs40 v55).Amount)) LD3 rfl (((H176).tl.g0.rd).cA hA179 hj79 2 _ rfl) ?_
        exact r_nil (n_lp ⟨_, rfl, undef, rfl, H176⟩)
      · intro η76 wd183 Δ184 hE180 hR181 H182
        have H182 : Hp w0 (Row K54 (.slice A33 xs36.length c35) xs36 :: Bx b15 89 [.slice A33 xs36.length c35] :: (Δ184 ++ (Row K54 (.slice A37 xs40.length c39) xs40 :: Γ))) wd183 := H182
        refine sp_op [(35, .pointer (some ⟨b15, 0, none⟩)), (40, .int .i64 ((rd xs40 v55).Class)), (45, .int .i64 ((rd xs40 v55).Year)), (50, .int .i64 ((rd xs40 v55).Amount))] (ac (hE180 0 (by decide)) (ac (hE180 5 (by decide)) (ac (hE180 10 (by decide)) (ac (hE180 15 (by decide)) an)))) ?_
        refine r_callf Try.call33 (bucket_Register_Move_ok b15 (⟨xs36⟩ : bucket_Register) A33 c35 ((rd xs40 v55).Class) ((rd xs40 v55).Year) ((rd xs40 v55).Amount) y81 y82 H182.u1 hy83) ?_
        rintro e189 wd188 ⟨A192, n193, c194, rfl, H191⟩
        obtain rfl := (H191.g1).leneq
        refine ⟨_, rfl, ?_⟩
        exact r_nil (n_lp ⟨_, rfl, (.tuple #[.pointer (some ⟨b15, 0, none⟩), .slice A192 y82.f_l.length c194, .slice A192 y82.f_l.length c194]), rfl, H191.u1.u1⟩)
      · intro η76 wd198 Δ199 hE195 hR196 H197
        have H197 : Hp w0 ((Δ199 ++ (Row K54 (.slice A37 xs40.length c39) xs40 :: Γ))) wd198 := H197
        refine sp_op [(51, .int .i64 y81)] (ac (hE195 16 (by decide)) an) ?_
        refine r_pure (.bool (y81 != 0)) rfl ?_
        exact r_nil (n_lp ⟨_, rfl, undef, rfl, H197⟩)
      · intro η76 wd201 hV202 H200
        have H203 : Hp w0 (Bx b15 89 [.slice (vA (vT 1 ((η76 16).2))) y82.f_l.length (vC (vT 1 ((η76 16).2)))] :: Row K54 (.slice (vA (vT 1 ((η76 16).2))) y82.f_l.length (vC (vT 1 ((η76 16).2)))) y82.f_l :: Row K54 (.slice A37 xs40.length c39) xs40 :: Γ) wd201 := H200
        refine n_frame [(3, .pointer (some ⟨b15, 0, none⟩)), (4, .slice A37 xs40.length c39), (5, .int .i64 v55), (52, .bool (y81 != 0))] (ac rfl (ac rfl (ac rfl (ac (hV202 17 rfl) an)))) ?_
        refine n_sq ?_
        rcases ite_some hm with ⟨hb204, hm⟩ | ⟨hb204, hm⟩
        · refine st_condt hb204 rfl ?_
          refine st_seq ?_
          refine st_region ?_
          refine r_pure (.pointer none) rfl ?_
          refine r_seq ?_
          have hq_ := Option.some.inj hm
          subst hq_
          have hq_ := Option.some.inj (show some (none : (Option bucket_Register)) = some r0_ from hm42)
          subst hq_
          refine st_ret1 rfl rfl (Nat.le_of_ble_eq_true rfl) rfl ?_
          exact .inl ⟨rfl, rfl, H203.d.d.d⟩
        · refine st_condf hb204 rfl ?_
          refine st_skip ?_
          refine n_sq ?_
          obtain ⟨hs206, hm⟩ := gd_some hm
          obtain ⟨hs207, hm⟩ := gd_some hm
          obtain ⟨hf210, hm⟩ := gd_some hm
          refine Flow.run' [[], [], [0, 1], [], [], [4], [3, 4, 5], [0, 1, 2, 3, 4, 5, 6], [0, 1, 2, 3, 4, 5, 6, 7]] [(53, 0), (54, 1), (55, 2), (56, 3), (57, 4), (58, 5), (59, 6), (60, 7), (4, 8)] [(fun η205 v => v.1 = .slice A37 xs40.length c39), (fun η205 v => v.1 = .int .i64 v55), (fun η205 v => v.1 = .slice (cutA A37 (0 : Int) (c39 : Int) 3) ((sb xs40 (0 : Int) v55).length) (c39 - Int.toNat (0 : Int))), (fun η205 v => v.1 = .slice A37 xs40.length c39), (fun η205 v => v.1 = .int .i64 v55), (fun η205 v => v.1 = .int .i64 (w64 (v55 + 1))), (fun η205 v => v.1 = .slice (cutA A37 (w64 (v55 + 1)) (c39 : Int) 3) ((sb xs40 (w64 (v55 + 1)) (xs40.length : Int)).length) (c39 - Int.toNat (w64 (v55 + 1)))), (fun η205 v => v.1 = .slice (vA (v.1)) (((sb xs40 (0 : Int) v55) ++ (sb xs40 (w64 (v55 + 1)) (xs40.length : Int))).length) (vC (v.1))), (fun η205 v => v.1 = .slice (vA ((η205 7).1)) (((sb xs40 (0 : Int) v55) ++ (sb xs40 (w64 (v55 + 1)) (xs40.length : Int))).length) (vC ((η205 7).1)))] [⟨none, (some 7), fun η205 => Row K54 (.slice A37 xs40.length c39) xs40⟩, ⟨(some 7), none, fun η205 => Row K54 (.slice (vA ((η205 7).1)) (((sb xs40 (0 : Int) v55) ++ (sb xs40 (w64 (v55 + 1)) (xs40.length : Int))).length) (vC ((η205 7).1))) ((sb xs40 (0 : Int) v55) ++ (sb xs40 (w64 (v55 + 1)) (xs40.length : Int)))⟩] rfl (by kernel_rfl) (by kernel_rfl) H203.u2 ⟨?_, ?_, ?_, ?_, ?_, ?_, ?_, ?_, ?_, trivial⟩ ?_
          · intro η205 wd218 Δ219 hE215 hR216 H217
            have H217 : Hp w0 ((Δ219 ++ (Bx b15 89 [.slice (vA (vT 1 ((η76 16).2))) y82.f_l.length (vC (vT 1 ((η76 16).2)))] :: Row K54 (.slice (vA (vT 1 ((η76 16).2))) y82.f_l.length (vC (vT 1 ((η76 16).2)))) y82.f_l :: Γ))) wd218 := H217
            refine sp_op [(4, .slice A37 xs40.length c39)] (ac rfl an) ?_
            refine r_pure (.slice A37 xs40.length c39) rfl ?_
            exact r_nil (n_lp ⟨_, rfl, undef, rfl, H217⟩)
          · intro η205 wd223 Δ224 hE220 hR221 H222
            have H222 : Hp w0 ((Δ224 ++ (Bx b15 89 [.slice (vA (vT 1 ((η76 16).2))) y82.f_l.length (vC (vT 1 ((η76 16).2)))] :: Row K54 (.slice (vA (vT 1 ((η76 16).2))) y82.f_l.length (vC (vT 1 ((η76 16).2)))) y82.f_l :: Γ))) wd223 := H222
            refine sp_op [(5, .int .i64 v55)] (ac rfl an) ?_
            refine r_pure (.int .i64 v55) rfl ?_
            exact r_nil (n_lp ⟨_, rfl, undef, rfl, H222⟩)
          · intro η205 wd228 Δ229 hE225 hR226 H227
            have H227 : Hp w0 ((Δ229 ++ (Bx b15 89 [.slice (vA (vT 1 ((η76 16).2))) y82.f_l.length (vC (vT 1 ((η76 16).2)))] :: Row K54 (.slice (vA (vT 1 ((η76 16).2))) y82.f_l.length (vC (vT 1 ((η76 16).2)))) y82.f_l :: Γ))) wd228 := H227
            refine sp_op [(53, .slice A37 xs40.length c39), (54, .int .i64 v55)] (ac (hE225 0 (by decide)) (ac (hE225 1 (by decide)) an)) ?_
            refine r_cut2 (xs := xs40) (lo := (0 : Int)) (hi := v55) IX51 rfl rfl ((show (Row K54 (.slice A37 xs40.length c39) xs40) _ from (H227).memr (hR226 _ (List.mem_of_getElem? (i := 0) rfl) rfl)).cap) ⟨_, rfl⟩ rfl hs206 ?_
            exact r_nil (n_lp ⟨_, rfl, undef, rfl, H227⟩)
          · intro η205 wd234 Δ235 hE231 hR232 H233
            have H233 : Hp w0 ((Δ235 ++ (Bx b15 89 [.slice (vA (vT 1 ((η76 16).2))) y82.f_l.length (vC (vT 1 ((η76 16).2)))] :: Row K54 (.slice (vA (vT 1 ((η76 16).2))) y82.f_l.length (vC (vT 1 ((η76 16).2)))) y82.f_l :: Γ))) wd234 := H233
            refine sp_op [(4, .slice A37 xs40.length c39)] (ac rfl an) ?_
            refine r_pure (.slice A37 xs40.length c39) rfl ?_
            exact r_nil (n_lp ⟨_, rfl, undef, rfl, H233⟩)
          · intro η205 wd239 Δ240 hE236 hR237 H238
            have H238 : Hp w0 ((Δ240 ++ (Bx b15 89 [.slice (vA (vT 1 ((η76 16).2))) y82.f_l.length (vC (vT 1 ((η76 16).2)))] :: Row K54 (.slice (vA (vT 1 ((η76 16).2))) y82.f_l.length (vC (vT 1 ((η76 16).2)))) y82.f_l :: Γ))) wd239 := H238
            refine sp_op [(5, .int .i64 v55)] (ac rfl an) ?_
            refine r_pure (.int .i64 v55) rfl ?_
            exact r_nil (n_lp ⟨_, rfl, undef, rfl, H238⟩)
          · intro η205 wd244 Δ245 hE241 hR242 H243
            have H243 : Hp w0 ((Δ245 ++ (Bx b15 89 [.slice (vA (vT 1 ((η76 16).2))) y82.f_l.length (vC (vT 1 ((η76 16).2)))] :: Row K54 (.slice (vA (vT 1 ((η76 16).2))) y82.f_l.length (vC (vT 1 ((η76 16).2)))) y82.f_l :: Γ))) wd244 := H243
            refine sp_op [(57, .int .i64 v55)] (ac (hE241 4 (by decide)) an) ?_
            refine r_pure (.int .i64 (w64 (v55 + 1))) rfl ?_
            exact r_nil (n_lp ⟨_, rfl, undef, rfl, H243⟩)
          · intro η205 wd249 Δ250 hE246 hR247 H248
            have H248 : Hp w0 ((Δ250 ++ (Bx b15 89 [.slice (vA (vT 1 ((η76 16).2))) y82.f_l.length (vC (vT 1 ((η76 16).2)))] :: Row K54 (.slice (vA (vT 1 ((η76 16).2))) y82.f_l.length (vC (vT 1 ((η76 16).2)))) y82.f_l :: Γ))) wd249 := H248
            refine sp_op [(56, .slice A37 xs40.length c39), (58, .int .i64 (w64 (v55 + 1)))] (ac (hE246 3 (by decide)) (ac (hE246 5 (by decide)) an)) ?_
            refine r_cut2 (xs := xs40) (lo := w64 (v55 + 1)) (hi := (xs40.length : Int)) IX51 rfl rfl ((show (Row K54 (.slice A37 xs40.length c39) xs40) _ from (H248).memr (hR247 _ (List.mem_of_getElem? (i := 0) rfl) rfl)).cap) rfl ⟨_, rfl⟩ hs207 ?_
            exact r_nil (n_lp ⟨_, rfl, undef, rfl, H248⟩)
          · intro η205 wd255 Δ256 hE252 hR253 H254
            have H254 : Hp w0 (Row K54 (.slice A37 xs40.length c39) xs40 :: (Δ256 ++ (Bx b15 89 [.slice (vA (vT 1 ((η76 16).2))) y82.f_l.length (vC (vT 1 ((η76 16).2)))] :: Row K54 (.slice (vA (vT 1 ((η76 16).2))) y82.f_l.length (vC (vT 1 ((η76 16).2)))) y82.f_l :: Γ))) wd255 := H254
            refine sp_op [(55, .slice (cutA A37 (0 : Int) (c39 : Int) 3) ((sb xs40 (0 : Int) v55).length) (c39 - Int.toNat (0 : Int))), (59, .slice (cutA A37 (w64 (v55 + 1)) (c39 : Int) 3) ((sb xs40 (w64 (v55 + 1)) (xs40.length : Int)).length) (c39 - Int.toNat (w64 (v55 + 1))))] (ac (hE252 2 (by decide)) (ac (hE252 6 (by decide)) an)) ?_
            have hsrc257 := SlR.src (c := (c39 - Int.toNat (w64 (v55 + 1)))) ((H254.g0.rd).sb (K := K54) (lo := w64 (v55 + 1)) (hi := (xs40.length : Int)) (mx := (c39 : Int)) hs207.2.1 (by have := (H254.g0.cap); have := hs207; omega))
            have H258 : Hp w0 (Row K54 (.slice (cutA A37 (0 : Int) (c39 : Int) 3) ((sb xs40 (0 : Int) v55).length) (c39 - Int.toNat (0 : Int))) (sb xs40 (0 : Int) v55) :: _) _ := H254.imp fun _ h_ => h_.sb hs206.1 hs206.2.1 (by have := (H254.g0.cap); have := hs206; omega) (Int.le_refl _) hs206.2.2
            refine r_append (K := K54) (ys := sb xs40 (w64 (v55 + 1)) (xs40.length : Int)) AP51 rfl rfl rfl rfl H258 hsrc257 (fit_le hf210 (by decide)) ?_
            intro A260 c261 wd262 H263
            exact r_nil (n_lp ⟨_, rfl, (.tuple #[.slice A260 (((sb xs40 (0 : Int) v55) ++ (sb xs40 (w64 (v55 + 1)) (xs40.length : Int))).length) c261]), rfl, H263⟩)
          · intro η205 wd267 Δ268 hE264 hR265 H266
            have H266 : Hp w0 ((Δ268 ++ (Bx b15 89 [.slice (vA (vT 1 ((η76 16).2))) y82.f_l.length (vC (vT 1 ((η76 16).2)))] :: Row K54 (.slice (vA (vT 1 ((η76 16).2))) y82.f_l.length (vC (vT 1 ((η76 16).2)))) y82.f_l :: Γ))) wd267 := H266
            refine sp_op [(60, .slice (vA ((η205 7).1)) (((sb xs40 (0 : Int) v55) ++ (sb xs40 (w64 (v55 + 1)) (xs40.length : Int))).length) (vC ((η205 7).1)))] (ac (hE264 7 (by decide)) an) ?_
            refine r_pure (.slice (vA ((η205 7).1)) (((sb xs40 (0 : Int) v55) ++ (sb xs40 (w64 (v55 + 1)) (xs40.length : Int))).length) (vC ((η205 7).1))) rfl ?_
            exact r_nil (n_lp ⟨_, rfl, undef, rfl, H266⟩)
          · intro η205 wd270 hV271 H269
            have H272 : Hp w0 (Row K54 (.slice (vA ((η205 7).1)) (((sb xs40 (0 : Int) v55) ++ (sb xs40 (w64 (v55 + 1)) (xs40.length : Int))).length) (vC ((η205 7).1))) ((sb xs40 (0 : Int) v55) ++ (sb xs40 (w64 (v55 + 1)) (xs40.length : Int))) :: Bx b15 89 [.slice (vA (vT 1 ((η76 16).2))) y82.f_l.length (vC (vT 1 ((η76 16).2)))] :: Row K54 (.slice (vA (vT 1 ((η76 16).2))) y82.f_l.length (vC (vT 1 ((η76 16).2)))) y82.f_l :: Γ) wd270 := H269
            refine n_frame [(3, .pointer (some ⟨b15, 0, none⟩)), (4, .slice (vA ((η205 7).1)) (((sb xs40 (0 : Int) v55) ++ (sb xs40 (w64 (v55 + 1)) (xs40.length : Int))).length) (vC ((η205 7).1)))] (ac rfl (ac (hV271 8 rfl) an)) ?_
            refine n_bl ?_
            refine n_round (IH52 _ _ _ ⟨y82.f_l, (sb xs40 (0 : Int) v55) ++ (sb xs40 (w64 (v55 + 1)) (xs40.length : Int)), (vA (vT 1 ((η76 16).2))), y82.f_l.length, (vC (vT 1 ((η76 16).2))), (vA ((η205 7).1)), ((sb xs40 (0 : Int) v55) ++ (sb xs40 (w64 (v55 + 1)) (xs40.length : Int))).length, (vC ((η205 7).1)), rfl, upk (ac rfl (ac rfl an)), H272.u1.u2⟩ hm)
    · rw [scutagelaw10_Of.l2] at hm
      have hb70 := range_in hxs62 hi63
      obtain ⟨h071, h172, hj73⟩ := range_ix hxs62 hi63
      have hnx74 := range_next hxs62 hi63 hlim75
      refine st_seq ?_
      refine st_region ?_
      refine r_pure (.bool (decide (i60 < (xs40.length : Int)))) rfl ?_
      refine r_seq ?_
      refine st_seq ?_
      refine st_condt hb70 rfl ?_
      refine st_skip ?_
      refine n_sq ?_
      refine st_cut (fun ρ w => ∃ v273 : Int, (∃ base, ρ = updl base [(3, .pointer (some ⟨b15, 0, none⟩)), (4, .slice A37 xs40.length c39), (5, .int .i64 v273), (19, .slice A37 xs40.length c39), (20, .int .i64 (xs40.length : Int)), (21, .int .i64 i60)]) ∧ Hp w0 (Row K54 (.slice A33 xs36.length c35) xs36 :: Bx b15 89 [.slice A33 xs36.length c35] :: Row K54 (.slice A37 xs40.length c39) xs40 :: Γ) w ∧ scutagelaw10_Of.j1 (scutagelaw10_Of.l2 xs36 ys64) i60 v273 = some tl58) ?_ ?_
      · refine st_block ?_
        refine st_seq ?_
        refine st_region ?_
        refine r_pure (.int .i64 i60) rfl ?_
        have hA275 := (H56.g2.rd).adO hj73
        refine r_ix IX51 rfl rfl hA275 h071 h172 ?_
        refine r_ldA [.int .i64 y65.Class, .int .i64 y65.Year, .int .i64 y65.Amount] LD54 rfl rfl ((H56.g2.rd).csA hA275 hj73) ?_
        refine r_alloc [.int .i64 0, .int .i64 0, .int .i64 0] Try.zeroValue54 H56 rfl ?_
        intro b276 wd278 H277
        refine r_pure (.int .i64 i60) rfl ?_
        refine r_stA [.int .i64 y65.Class, .int .i64 y65.Year, .int .i64 y65.Amount] LD54 rfl rfl rfl rfl H277 (Nat.le_of_ble_eq_true rfl) rfl ?_
        intro wd280 H279
        refine r_seq ?_
        refine st_seq ?_
        obtain ⟨y282, hy283, hm⟩ := bind_some hm
        refine Flow.run' [[], [0], [0, 1], [], [3], [3, 4], [0, 1, 2, 3, 4, 5]] [(26, 0), (27, 1), (28, 2), (29, 3), (30, 4), (31, 5), (32, 6)] [(fun η281 v => v.1 = .pointer (some ⟨b15, 0, none⟩)), (fun η281 v => v.1 = .int .i64 y282), (fun η281 v => v.1 = .bool (decide (y282 > 0))), (fun η281 v => v.1 = .pointer (some ⟨b276, 2, none⟩)), (fun η281 v => v.1 = .int .i64 y65.Amount), (fun η281 v => v.1 = .bool (decide (y65.Amount < 0))), (fun η281 v => v.1 = .bool ((decide (y282 > 0)) == (decide (y65.Amount < 0))))] [] rfl (by kernel_rfl) (by kernel_rfl) H279 ⟨?_, ?_, ?_, ?_, ?_, ?_, ?_, trivial⟩ ?_
        · intro η281 wd291 Δ292 hE288 hR289 H290
          have H290 : Hp w0 ((Δ292 ++ (Bx b276 54 [.int .i64 y65.Class, .int .i64 y65.Year, .int .i64 y65.Amount] :: Row K54 (.slice A33 xs36.length c35) xs36 :: Bx b15 89 [.slice A33 xs36.length c35] :: Row K54 (.slice A37 xs40.length c39) xs40 :: Γ))) wd291 := H290
          refine sp_op [(3, .pointer (some ⟨b15, 0, none⟩))] (ac rfl an) ?_
          refine r_pure (.pointer (some ⟨b15, 0, none⟩)) rfl ?_
          exact r_nil (n_lp ⟨_, rfl, undef, rfl, H290⟩)
        · intro η281 wd296 Δ297 hE293 hR294 H295
          have H295 : Hp w0 ((Δ297 ++ (Bx b276 54 [.int .i64 y65.Class, .int .i64 y65.Year, .int .i64 y65.Amount] :: Row K54 (.slice A33 xs36.length c35) xs36 :: Bx b15 89 [.slice A33 xs36.length c35] :: Row K54 (.slice A37 xs40.length c39) xs40 :: Γ))) wd296 := H295
          refine sp_op [(26, .pointer (some ⟨b15, 0, none⟩))] (ac (hE293 0 (by decide)) an) ?_
          refine r_callf Try.call29 (bucket_Register_Total_ok b15 (⟨xs36⟩ : bucket_Register) A33 xs36.length c35 rfl ((((H295)).tl.g1).cap) (fun _ H => ((H).tl.g1.rd)) (fun _ H => ((H).tl.g2)) y282 H295 hy283) ?_
          rintro e301 wd300 ⟨rfl, H303⟩
          refine ⟨_, rfl, ?_⟩
          exact r_nil (n_lp ⟨_, rfl, undef, rfl, H303⟩)
        · intro η281 wd307 Δ308 hE304 hR305 H306
          have H306 : Hp w0 ((Δ308 ++ (Bx b276 54 [.int .i64 y65.Class, .int .i64 y65.Year, .int .i64 y65.Amount] :: Row K54 (.slice A33 xs36.length c35) xs36 :: Bx b15 89 [.slice A33 xs36.length c35] :: Row K54 (.slice A37 xs40.length c39) xs40 :: Γ))) wd307 := H306
          refine sp_op [(27, .int .i64 y282)] (ac (hE304 1 (by decide)) an) ?_
          refine r_pure (.bool (decide (y282 > 0))) rfl ?_
          exact r_nil (n_lp ⟨_, rfl, undef, rfl, H306⟩)
        · intro η281 wd312 Δ313 hE309 hR310 H311
          have H311 : Hp w0 ((Δ313 ++ (Bx b276 54 [.int .i64 y65.Class, .int .i64 y65.Year, .int .i64 y65.Amount] :: Row K54 (.slice A33 xs36.length c35) xs36 :: Bx b15 89 [.slice A33 xs36.length c35] :: Row K54 (.slice A37 xs40.length c39) xs40 :: Γ))) wd312 := H311
          refine sp_op [(7, .pointer (some ⟨b276, 0, none⟩))] (ac rfl an) ?_
          refine r_fa FA54_2 ⟨b276, 2, none⟩ rfl rfl ?_
          exact r_nil (n_lp ⟨_, rfl, undef, rfl, H311⟩)
        · intro η281 wd317 Δ318 hE314 hR315 H316
          have H316 : Hp w0 ((Δ318 ++ (Bx b276 54 [.int .i64 y65.Class, .int .i64 y65.Year, .int .i64 y65.Amount] :: Row K54 (.slice A33 xs36.length c35) xs36 :: Bx b15 89 [.slice A33 xs36.length c35] :: Row K54 (.slice A37 xs40.length c39) xs40 :: Γ))) wd317 := H316
          refine sp_op [(29, .pointer (some ⟨b276, 2, none⟩))] (ac (hE314 3 (by decide)) an) ?_
          refine r_ld1 (.int .i64 y65.Amount) LD3 rfl (((H316).tl.g0).cell _ rfl) ?_
          exact r_nil (n_lp ⟨_, rfl, undef, rfl, H316⟩)
        · intro η281 wd322 Δ323 hE319 hR320 H321
          have H321 : Hp w0 ((Δ323 ++ (Bx b276 54 [.int .i64 y65.Class, .int .i64 y65.Year, .int .i64 y65.Amount] :: Row K54 (.slice A33 xs36.length c35) xs36 :: Bx b15 89 [.slice A33 xs36.length c35] :: Row K54 (.slice A37 xs40.length c39) xs40 :: Γ))) wd322 := H321
          refine sp_op [(30, .int .i64 y65.Amount)] (ac (hE319 4 (by decide)) an) ?_
          refine r_pure (.bool (decide (y65.Amount < 0))) rfl ?_
          exact r_nil (n_lp ⟨_, rfl, undef, rfl, H321⟩)
        · intro η281 wd327 Δ328 hE324 hR325 H326
          have H326 : Hp w0 ((Δ328 ++ (Bx b276 54 [.int .i64 y65.Class, .int .i64 y65.Year, .int .i64 y65.Amount] :: Row K54 (.slice A33 xs36.length c35) xs36 :: Bx b15 89 [.slice A33 xs36.length c35] :: Row K54 (.slice A37 xs40.length c39) xs40 :: Γ))) wd327 := H326
          refine sp_op [(28, .bool (decide (y282 > 0))), (31, .bool (decide (y65.Amount < 0)))] (ac (hE324 2 (by decide)) (ac (hE324 5 (by decide)) an)) ?_
          refine r_eqb Try.underlying4 rfl rfl ?_
          exact r_nil (n_lp ⟨_, rfl, undef, rfl, H326⟩)
        · intro η281 wd330 hV331 H329
          have H332 : Hp w0 (Bx b276 54 [.int .i64 y65.Class, .int .i64 y65.Year, .int .i64 y65.Amount] :: Row K54 (.slice A33 xs36.length c35) xs36 :: Bx b15 89 [.slice A33 xs36.length c35] :: Row K54 (.slice A37 xs40.length c39) xs40 :: Γ) wd330 := H329
          refine n_frame [(3, .pointer (some ⟨b15, 0, none⟩)), (4, .slice A37 xs40.length c39), (5, .int .i64 v55), (6, .int .i64 i60), (19, .slice A37 xs40.length c39), (20, .int .i64 (xs40.length : Int)), (21, .int .i64 i60), (32, .bool ((decide (y282 > 0)) == (decide (y65.Amount < 0))))] (ac rfl (ac rfl (ac rfl (ac rfl (ac rfl (ac rfl (ac rfl (ac (hV331 6 rfl) an)))))))) ?_
          refine n_sq ?_
          rcases ite_some hm with ⟨hb333, hm⟩ | ⟨hb333, hm⟩
          · refine st_condt hb333 rfl ?_
            refine st_region ?_
            refine r_pure (.int .i64 i60) rfl ?_
            refine r_pure (.int .i64 i60) rfl ?_
            refine r_nil ?_
            refine n_bl ?_
            refine n_cut ⟨i60, upk (ac rfl (ac rfl (ac rfl (ac rfl (ac rfl (ac rfl an)))))), H332.d.u2.u2.u2, hm⟩
          · refine st_condf hb333 rfl ?_
            refine st_skip ?_
            refine n_bl ?_
            refine n_cut ⟨v55, upk (ac rfl (ac rfl (ac rfl (ac rfl (ac rfl (ac rfl an)))))), H332.d.u2.u2.u2, hm⟩
      · rintro ρ w ⟨v273, ⟨base, rfl⟩, H274, hm⟩
        unfold scutagelaw10_Of.j1 at hm
        refine st_region ?_
        refine r_pure (.int .i64 (w64 (i60 + 1))) rfl ?_
        refine r_pure (.int .i64 (w64 (i60 + 1))) rfl ?_
        refine r_nil ?_
        refine n_round (IH68 _ _ rfl _ _ _ ⟨i60 + 1, v273, dn61 ++ [y65], rfl, range_more hxs62, range_len hi63, upk (ac rfl (ac rfl (ac rfl (ac rfl (ac rfl (ac hnx74 an)))))), H274.u2.u2.u2⟩ hm)
  · refine st_condf hb53 rfl ?_
    have hq_ := Option.some.inj hm
    refine st_exit rfl ?_
    subst hq_
    refine n_sq ?_
    refine st_seq ?_
    refine st_region ?_
    refine r_pure (.pointer (some ⟨b15, 0, none⟩)) rfl ?_
    refine r_pure (.pointer (some ⟨b15, 0, none⟩)) rfl ?_
    refine r_seq ?_
    have hq_ := Option.some.inj hm42
    subst hq_
    refine st_ret1 rfl rfl (Nat.le_of_ble_eq_true rfl) rfl ?_
    exact .inr ⟨(⟨xs36⟩ : bucket_Register), rfl, b15, A33, xs36.length, c35, rfl, H41.u2.d.u1⟩

set_option maxHeartbeats 2000000 in
theorem math_bits_Len64_ok {w0 w : World} {Γ : List (World → Prop)} (x_ : Int) (r0_ : Int) (H : Hp w0 (Γ) w) (hm : math_bits_Len64 x_ = some r0_) : Calls Try.prog 106 #[.int .u64 x_] w (fun e w => e = .returned (.int .i64 r0_) ∧ Hp w0 (Γ) w) := by
  unfold math_bits_Len64 at hm
  refine st_enter Try.func106 rfl Try.ntmps106 (Nat.le_of_ble_eq_true rfl) ?_
  refine st_seq ?_
  refine st_region ?_
  refine r_pure (.int .i64 0) rfl ?_
  refine r_seq ?_
  refine st_seq ?_
  refine st_seq ?_
  refine st_region ?_
  refine r_pure (.int .u64 x_) rfl ?_
  refine r_pure (.bool (decide (x_ ≥ 4294967296))) rfl ?_
  refine r_seq ?_
  rcases ite_some hm with ⟨hb1, hm⟩ | ⟨hb1, hm⟩
  · cases hm
  · refine st_condf hb1 rfl ?_
    refine st_skip ?_
    refine n_sq ?_
    refine st_seq ?_
    refine st_seq ?_
    refine st_region ?_
    refine r_pure (.int .u64 x_) rfl ?_
    refine r_pure (.bool (decide (x_ ≥ 65536))) rfl ?_
    refine r_seq ?_
    rcases ite_some hm with ⟨hb2, hm⟩ | ⟨hb2, hm⟩
    · cases hm
    · refine st_condf hb2 rfl ?_
      refine st_skip ?_
      refine n_sq ?_
      refine st_seq ?_
      refine st_seq ?_
      refine st_region ?_
      refine r_pure (.int .u64 x_) rfl ?_
      refine r_pure (.bool (decide (x_ ≥ 256))) rfl ?_
      refine r_seq ?_
      rcases ite_some hm with ⟨hb3, hm⟩ | ⟨hb3, hm⟩
      · cases hm
      · refine st_condf hb3 rfl ?_
        refine st_skip ?_
        refine n_sq ?_
        refine st_seq ?_
        refine st_region ?_
        refine r_pure (.int .i64 0) rfl ?_
        refine r_pure (.int .u64 x_) rfl ?_
        refine r_conv Try.underlying119 Try.underlying5 rfl ?_
        obtain ⟨h4, hm⟩ := gd_some hm
        refine r_byte Try.underlying9 rfl rfl h4 ?_
        refine r_conv Try.underlying5 Try.underlying3 rfl ?_
        refine r_pure (.int .i64 (w64 (0 + w64 (byteAt (⟨#[0, 1, 2, 2, 3, 3, 3, 3, 4, 4, 4, 4, 4, 4, 4, 4, 5, 5, 5, 5, 5, 5, 5, 5, 5, 5, 5, 5, 5, 5, 5, 5, 6, 6, 6, 6, 6, 6, 6, 6, 6, 6, 6, 6, 6, 6, 6, 6, 6, 6, 6, 6, 6, 6, 6, 6, 6, 6, 6, 6, 6, 6, 6, 6, 7, 7, 7, 7, 7, 7, 7, 7, 7, 7, 7, 7, 7, 7, 7, 7, 7, 7, 7, 7, 7, 7, 7, 7, 7, 7, 7, 7, 7, 7, 7, 7, 7, 7, 7, 7, 7, 7, 7, 7, 7, 7, 7, 7, 7, 7, 7, 7, 7, 7, 7, 7, 7, 7, 7, 7, 7, 7, 7, 7, 7, 7, 7, 7, 8, 8, 8, 8, 8, 8, 8, 8, 8, 8, 8, 8, 8, 8, 8, 8, 8, 8, 8, 8, 8, 8, 8, 8, 8, 8, 8, 8, 8, 8, 8, 8, 8, 8, 8, 8, 8, 8, 8, 8, 8, 8, 8, 8, 8, 8, 8, 8, 8, 8, 8, 8, 8, 8, 8, 8, 8, 8, 8, 8, 8, 8, 8, 8, 8, 8, 8, 8, 8, 8, 8, 8, 8, 8, 8, 8, 8, 8, 8, 8, 8, 8, 8, 8, 8, 8, 8, 8, 8, 8, 8, 8, 8, 8, 8, 8, 8, 8, 8, 8, 8, 8, 8, 8, 8, 8, 8, 8, 8, 8, 8, 8, 8, 8, 8, 8, 8, 8, 8, 8, 8, 8, 8, 8, 8, 8, 8, 8]⟩ : ByteArray) (IntKind.u8.wrap x_))))) rfl ?_
        refine r_pure (.int .i64 (w64 (0 + w64 (byteAt (⟨#[0, 1, 2, 2, 3, 3, 3, 3, 4, 4, 4, 4, 4, 4, 4, 4, 5, 5, 5, 5, 5, 5, 5, 5, 5, 5, 5, 5, 5, 5, 5, 5, 6, 6, 6, 6, 6, 6, 6, 6, 6, 6, 6, 6, 6, 6, 6, 6, 6, 6, 6, 6, 6, 6, 6, 6, 6, 6, 6, 6, 6, 6, 6, 6, 7, 7, 7, 7, 7, 7, 7, 7, 7, 7, 7, 7, 7, 7, 7, 7, 7, 7, 7, 7, 7, 7, 7, 7, 7, 7, 7, 7, 7, 7, 7, 7, 7, 7, 7, 7, 7, 7, 7, 7, 7, 7, 7, 7, 7, 7, 7, 7, 7, 7, 7, 7, 7, 7, 7, 7, 7, 7, 7, 7, 7, 7, 7, 7, 8, 8, 8, 8, 8, 8, 8, 8, 8, 8, 8, 8, 8, 8, 8, 8, 8, 8, 8, 8, 8, 8, 8, 8, 8, 8, 8, 8, 8, 8, 8, 8, 8, 8, 8, 8, 8, 8, 8, 8, 8, 8, 8, 8, 8, 8, 8, 8, 8, 8, 8, 8, 8, 8, 8, 8, 8, 8, 8, 8, 8, 8, 8, 8, 8, 8, 8, 8, 8, 8, 8, 8, 8, 8, 8, 8, 8, 8, 8, 8, 8, 8, 8, 8, 8, 8, 8, 8, 8, 8, 8, 8, 8, 8, 8, 8, 8, 8, 8, 8, 8, 8, 8, 8, 8, 8, 8, 8, 8, 8, 8, 8, 8, 8, 8, 8, 8, 8, 8, 8, 8, 8, 8, 8, 8, 8, 8, 8]⟩ : ByteArray) (IntKind.u8.wrap x_))))) rfl ?_
        refine r_seq ?_
        have hq_ := Option.some.inj hm
        subst hq_
        refine st_ret1 rfl rfl (Nat.le_of_ble_eq_true rfl) rfl ?_
        exact ⟨rfl, H⟩

set_option maxHeartbeats 2000000 in
theorem math_bits_Len_ok {w0 w : World} {Γ : List (World → Prop)} (x_ : Int) (r0_ : Int) (H : Hp w0 (Γ) w) (hm : math_bits_Len x_ = some r0_) : Calls Try.prog 80 #[.int .u64 x_] w (fun e w => e = .returned (.int .i64 r0_) ∧ Hp w0 (Γ) w) := by
  unfold math_bits_Len at hm
  refine st_enter Try.func80 rfl Try.ntmps80 (Nat.le_of_ble_eq_true rfl) ?_
  refine st_seq ?_
  refine st_region ?_
  refine r_pure (.int .i64 0) rfl ?_
  refine r_seq ?_
  refine st_seq ?_
  refine st_condf rfl rfl ?_
  refine st_skip ?_
  refine n_sq ?_
  refine st_seq ?_
  refine st_region ?_
  refine r_pure (.int .u64 x_) rfl ?_
  obtain ⟨y1, hy2, hm⟩ := bind_some hm
  refine r_callf Try.call106 (math_bits_Len64_ok x_ y1 H hy2) ?_
  rintro e4 wd3 ⟨rfl, H6⟩
  refine ⟨_, rfl, ?_⟩
  refine r_pure (.int .i64 y1) rfl ?_
  refine r_seq ?_
  have hq_ := Option.some.inj hm
  subst hq_
  refine st_ret1 rfl rfl (Nat.le_of_ble_eq_true rfl) rfl ?_
  exact ⟨rfl, H6⟩

set_option maxHeartbeats 2000000 in
theorem slices_insertionSortCmpFunc_api_Bucket_ok {w0 w : World} {Γ : List (World → Prop)} (data : List api_Bucket) (A1 : Option Addr) (n3 c2 : Nat) (a_ : Int) (b_ : Int) (fv4 : Value) (cmp : (api_Bucket × api_Bucket) → Option Int) (hp5 : FnOk Try.prog w0 Γ fv4 (fun x => [.agg #[.int .i64 x.1.Class, .int .i64 x.1.Year, .int .i64 x.1.Amount], .agg #[.int .i64 x.2.Class, .int .i64 x.2.Year, .int .i64 x.2.Amount]]) (fun r => .int .i64 r) cmp) (r0_ : List api_Bucket) (H : Hp w0 (Row K54 (.slice A1 n3 c2) data :: Γ) w) (hm : slices_insertionSortCmpFunc_api_Bucket data a_ b_ cmp = some r0_) : Calls Try.prog 107 #[.slice A1 n3 c2, .int .i64 a_, .int .i64 b_, fv4] w (fun e w => e = .returned (.tuple #[]) ∧ Hp w0 (Row K54 (.slice A1 n3 c2) r0_ :: Γ) w) := by
  obtain ⟨gf6, gcap7, rfl, ge8, gp9⟩ := hp5
  obtain rfl := (H.g0).leneq
  unfold slices_insertionSortCmpFunc_api_Bucket at hm
  refine st_enter Try.func107 rfl Try.ntmps107 (Nat.le_of_ble_eq_true rfl) ?_
  refine st_seq ?_
  refine st_region ?_
  refine r_pure (.int .i64 a_) rfl ?_
  refine r_pure (.int .i64 (w64 (a_ + 1))) rfl ?_
  refine r_pure (.int .i64 (w64 (a_ + 1))) rfl ?_
  refine r_seq ?_
  refine st_block ?_
  obtain ⟨tl16, hl17, hm15⟩ := bind_some hm
  refine st_loopF (slices_insertionSortCmpFunc_api_Bucket.l1 b_ a_ cmp) (fun s ρ w => ∃ xs12 : List api_Bucket, ∃ v13 : Int, (xs12, v13) = s ∧ (∃ base, ρ = updl base [(0, .slice A1 data.length c2), (1, .int .i64 a_), (2, .int .i64 b_), (3, .func (.func gf6) #[] (List.toArray gcap7)), (8, .int .i64 v13)]) ∧ Hp w0 (Row K54 (.slice A1 data.length c2) xs12 :: Γ) w) hl17 (fun _ => rfl) ⟨data, w64 (a_ + 1), rfl, upk (ac rfl (ac rfl (ac rfl (ac rfl (ac rfl an))))), H⟩ ?_
  rintro fuel23 IH25 s ρ w ⟨xs12, v13, rfl, ⟨base, rfl⟩, H14⟩ hm
  rw [slices_insertionSortCmpFunc_api_Bucket.l1] at hm
  refine st_seq ?_
  refine st_seq ?_
  refine st_region ?_
  refine r_pure (.int .i64 v13) rfl ?_
  refine r_pure (.int .i64 b_) rfl ?_
  refine r_pure (.bool (decide (v13 < b_))) rfl ?_
  refine r_seq ?_
  rcases ite_some hm with ⟨hb26, hm⟩ | ⟨hb26, hm⟩
  · refine st_condt hb26 rfl ?_
    refine st_skip ?_
    refine n_sq ?_
    refine st_seq ?_
    refine st_block ?_
    refine st_seq ?_
    refine st_region ?_
    refine r_pure (.int .i64 v13) rfl ?_
    refine r_pure (.int .i64 v13) rfl ?_
    refine r_seq ?_
    refine st_block ?_
    obtain ⟨tl33, hl34, hm32⟩ := bind_some hm
    refine st_loopF (slices_insertionSortCmpFunc_api_Bucket.l2 a_ cmp) (fun s ρ w => ∃ xs29 : List api_Bucket, ∃ v30 : Int, (xs29, v30) = s ∧ (∃ base, ρ = updl base [(0, .slice A1 data.length c2), (1, .int .i64 a_), (2, .int .i64 b_), (3, .func (.func gf6) #[] (List.toArray gcap7)), (8, .int .i64 v13), (9, .int .i64 v30)]) ∧ Hp w0 (Row K54 (.slice A1 data.length c2) xs29 :: Γ) w) hl34 (fun _ => rfl) ⟨xs12, v13, rfl, upk (ac rfl (ac rfl (ac rfl (ac rfl (ac rfl (ac rfl an)))))), H14⟩ ?_
    rintro fuel40 IH42 s ρ w ⟨xs29, v30, rfl, ⟨base, rfl⟩, H31⟩ hm
    rw [slices_insertionSortCmpFunc_api_Bucket.l2] at hm
    refine st_seq ?_
    refine st_cut (fun ρ w => ∃ q43 : Bool, (∃ base, ρ = updl base [(0, .slice A1 data.length c2), (1, .int .i64 a_), (2, .int .i64 b_), (3, .func (.func gf6) #[] (List.toArray gcap7)), (8, .int .i64 v13), (9, .int .i64 v30), (34, .bool q43)]) ∧ Hp w0 (Row K54 (.slice A1 data.length c2) xs29 :: Γ) w ∧ slices_insertionSortCmpFunc_api_Bucket.j1 v30 xs29 (slices_insertionSortCmpFunc_api_Bucket.l2 a_ cmp fuel40) q43 = some tl33) ?_ ?_
    · rcases ite_some hm with ⟨hb177, hm⟩ | ⟨hb177, hm⟩
      · obtain ⟨⟨h0178, h1179⟩, hm⟩ := gd_some hm
        have hj180 := rd_get h0178 h1179
        obtain ⟨⟨h0182, h1183⟩, hm⟩ := gd_some hm
        have hj184 := rd_get h0182 h1183
        obtain ⟨y185, hy186, hm⟩ := bind_some hm
        refine Flow.run' [[], [], [0, 1], [0, 1, 2], [0, 1, 2, 3], [0, 1, 2, 3], [0, 1, 2, 3], [0, 1, 2, 3, 5, 6], [0, 1, 2, 3, 5, 6, 7], [0, 1, 2, 3], [0, 1, 2, 3], [0, 1, 2, 3, 10], [0, 1, 2, 3, 9, 10, 11], [0, 1, 2, 3, 9, 10, 11, 12], [0, 1, 2, 3, 4, 5, 6, 7, 8, 9, 10, 11, 12, 13], [0, 1, 2, 3, 4, 5, 6, 7, 8, 9, 10, 11, 12, 13, 14], [0, 1, 2, 3, 4, 5, 6, 7, 8, 9, 10, 11, 12, 13, 14, 15]] [(18, 0), (19, 1), (20, 2), (21, 3), (22, 4), (23, 5), (24, 6), (25, 7), (26, 8), (27, 9), (28, 10), (29, 11), (30, 12), (31, 13), (32, 14), (33, 15), (34, 16)] [(fun η176 v => v.1 = .int .i64 v30), (fun η176 v => v.1 = .int .i64 a_), (fun η176 v => v.1 = .bool (decide (v30 > a_))), (fun η176 v => v.1 = .bool (decide (v30 > a_))), (fun η176 v => v.1 = .func (.func gf6) #[] (List.toArray gcap7)), (fun η176 v => v.1 = .slice A1 data.length c2), (fun η176 v => v.1 = .int .i64 v30), (fun η176 v => v.1 = .pointer (some ((oA A1).add (Int.toNat v30 * 3)))), (fun η176 v => v.1 = .agg #[.int .i64 ((rd xs29 v30).Class), .int .i64 ((rd xs29 v30).Year), .int .i64 ((rd xs29 v30).Amount)]), (fun η176 v => v.1 = .slice A1 data.length c2), (fun η176 v => v.1 = .int .i64 v30), (fun η176 v => v.1 = .int .i64 (w64 (v30 - 1))), (fun η176 v => v.1 = .pointer (some ((oA A1).add (Int.toNat (w64 (v30 - 1)) * 3)))), (fun η176 v => v.1 = .agg #[.int .i64 ((rd xs29 (w64 (v30 - 1))).Class), .int .i64 ((rd xs29 (w64 (v30 - 1))).Year), .int .i64 ((rd xs29 (w64 (v30 - 1))).Amount)]), (fun η176 v => v.1 = .int .i64 y185), (fun η176 v => v.1 = .bool (decide (y185 < 0))), (fun η176 v => v.1 = .bool (decide (y185 < 0)))] [] rfl (by kernel_rfl) (by kernel_rfl) H31 ⟨?_, ?_, ?_, ?_, ?_, ?_, ?_, ?_, ?_, ?_, ?_, ?_, ?_, ?_, ?_, ?_, ?_, trivial⟩ ?_
        · intro η176 wd193 Δ194 hE190 hR191 H192
          have H192 : Hp w0 ((Δ194 ++ (Row K54 (.slice A1 data.length c2) xs29 :: Γ))) wd193 := H192
          refine sp_op [(9, .int .i64 v30)] (ac rfl an) ?_
          refine r_pure (.int .i64 v30) rfl ?_
          exact r_nil (n_lp ⟨_, rfl, undef, rfl, H192⟩)
        · intro η176 wd198 Δ199 hE195 hR196 H197
          have H197 : Hp w0 ((Δ199 ++ (Row K54 (.slice A1 data.length c2) xs29 :: Γ))) wd198 := H197
          refine sp_op [(1, .int .i64 a_)] (ac rfl an) ?_
          refine r_pure (.int .i64 a_) rfl ?_
          exact r_nil (n_lp ⟨_, rfl, undef, rfl, H197⟩)
        · intro η176 wd203 Δ204 hE200 hR201 H202
          have H202 : Hp w0 ((Δ204 ++ (Row K54 (.slice A1 data.length c2) xs29 :: Γ))) wd203 := H202
          refine sp_op [(18, .int .i64 v30), (19, .int .i64 a_)] (ac (hE200 0 (by decide)) (ac (hE200 1 (by decide)) an)) ?_
          refine r_pure (.bool (decide (v30 > a_))) rfl ?_
          exact r_nil (n_lp ⟨_, rfl, undef, rfl, H202⟩)
        · intro η176 wd208 Δ209 hE205 hR206 H207
          have H207 : Hp w0 ((Δ209 ++ (Row K54 (.slice A1 data.length c2) xs29 :: Γ))) wd208 := H207
          refine sp_op [(20, .bool (decide (v30 > a_)))] (ac (hE205 2 (by decide)) an) ?_
          refine r_pure (.bool (decide (v30 > a_))) rfl ?_
          exact r_nil (n_lp ⟨_, rfl, undef, rfl, H207⟩)
        · intro η176 wd213 Δ214 hE210 hR211 H212
          have H212 : Hp w0 ((Δ214 ++ (Row K54 (.slice A1 data.length c2) xs29 :: Γ))) wd213 := H212
          refine sp_op [(3, .func (.func gf6) #[] (List.toArray gcap7)), (21, .bool (decide (v30 > a_)))] (ac rfl (ac (hE210 3 (by decide)) an)) ?_
          refine r_pure (.func (.func gf6) #[] (List.toArray gcap7)) rfl ?_ (wn_t rfl rfl (by decide) rfl hb177)
          exact r_nil (n_lp ⟨_, rfl, undef, rfl, H212⟩)
        · intro η176 wd218 Δ219 hE215 hR216 H217
          have H217 : Hp w0 ((Δ219 ++ (Row K54 (.slice A1 data.length c2) xs29 :: Γ))) wd218 := H217
          refine sp_op [(0, .slice A1 data.length c2), (21, .bool (decide (v30 > a_)))] (ac rfl (ac (hE215 3 (by decide)) an)) ?_
          refine r_pure (.slice A1 data.length c2) rfl ?_ (wn_t rfl rfl (by decide) rfl hb177)
          exact r_nil (n_lp ⟨_, rfl, undef, rfl, H217⟩)
        · intro η176 wd223 Δ224 hE220 hR221 H222
          have H222 : Hp w0 ((Δ224 ++ (Row K54 (.slice A1 data.length c2) xs29 :: Γ))) wd223 := H222
          refine sp_op [(9, .int .i64 v30), (21, .bool (decide (v30 > a_)))] (ac rfl (ac (hE220 3 (by decide)) an)) ?_
          refine r_pure (.int .i64 v30) rfl ?_ (wn_t rfl rfl (by decide) rfl hb177)
          exact r_nil (n_lp ⟨_, rfl, undef, rfl, H222⟩)
        · intro η176 wd228 Δ229 hE225 hR226 H227
          have H227 : Hp w0 ((Δ229 ++ (Row K54 (.slice A1 data.length c2) xs29 :: Γ))) wd228 := H227
          refine sp_op [(21, .bool (decide (v30 > a_))), (23, .slice A1 data.length c2), (24, .int .i64 v30)] (ac (hE225 3 (by decide)) (ac (hE225 5 (by decide)) (ac (hE225 6 (by decide)) an))) ?_
          have hA233 := ((H227).tl.g0.rd).adO hj180
          refine r_ix IX51 rfl rfl hA233 h0178 (by have h1_ := ((H227).tl.g0).leneq; have h2_ := h1179; rw [← h1_] at h2_; exact h2_) ?_ (wn_t rfl rfl (by decide) rfl hb177)
          exact r_nil (n_lp ⟨_, rfl, undef, rfl, H227⟩)
        · intro η176 wd237 Δ238 hE234 hR235 H236
          have H236 : Hp w0 ((Δ238 ++ (Row K54 (.slice A1 data.length c2) xs29 :: Γ))) wd237 := H236
          refine sp_op [(21, .bool (decide (v30 > a_))), (25, .pointer (some ((oA A1).add (Int.toNat v30 * 3))))] (ac (hE234 3 (by decide)) (ac (hE234 7 (by decide)) an)) ?_
          have hA239 := ((H236).tl.g0.rd).adO hj180
          refine r_ldA [.int .i64 ((rd xs29 v30).Class), .int .i64 ((rd xs29 v30).Year), .int .i64 ((rd xs29 v30).Amount)] LD54 rfl rfl (((H236).tl.g0.rd).csA hA239 hj180) ?_ (wn_t rfl rfl (by decide) rfl hb177)
          exact r_nil (n_lp ⟨_, rfl, undef, rfl, H236⟩)
        · intro η176 wd243 Δ244 hE240 hR241 H242
          have H242 : Hp w0 ((Δ244 ++ (Row K54 (.slice A1 data.length c2) xs29 :: Γ))) wd243 := H242
          refine sp_op [(0, .slice A1 data.length c2), (21, .bool (decide (v30 > a_)))] (ac rfl (ac (hE240 3 (by decide)) an)) ?_
          refine r_pure (.slice A1 data.length c2) rfl ?_ (wn_t rfl rfl (by decide) rfl hb177)
          exact r_nil (n_lp ⟨_, rfl, undef, rfl, H242⟩)
        · intro η176 wd248 Δ249 hE245 hR246 H247
          have H247 : Hp w0 ((Δ249 ++ (Row K54 (.slice A1 data.length c2) xs29 :: Γ))) wd248 := H247
          refine sp_op [(9, .int .i64 v30), (21, .bool (decide (v30 > a_)))] (ac rfl (ac (hE245 3 (by decide)) an)) ?_
          refine r_pure (.int .i64 v30) rfl ?_ (wn_t rfl rfl (by decide) rfl hb177)
          exact r_nil (n_lp ⟨_, rfl, undef, rfl, H247⟩)
        · intro η176 wd253 Δ254 hE250 hR251 H252
          have H252 : Hp w0 ((Δ254 ++ (Row K54 (.slice A1 data.length c2) xs29 :: Γ))) wd253 := H252
          refine sp_op [(21, .bool (decide (v30 > a_))), (28, .int .i64 v30)] (ac (hE250 3 (by decide)) (ac (hE250 10 (by decide)) an)) ?_
          refine r_pure (.int .i64 (w64 (v30 - 1))) rfl ?_ (wn_t rfl rfl (by decide) rfl hb177)
          exact r_nil (n_lp ⟨_, rfl, undef, rfl, H252⟩)
        · intro η176 wd258 Δ259 hE255 hR256 H257
          have H257 : Hp w0 ((Δ259 ++ (Row K54 (.slice A1 data.length c2) xs29 :: Γ))) wd258 := H257
          refine sp_op [(21, .bool (decide (v30 > a_))), (27, .slice A1 data.length c2), (29, .int .i64 (w64 (v30 - 1)))] (ac (hE255 3 (by decide)) (ac (hE255 9 (by decide)) (ac (hE255 11 (by decide)) an))) ?_
          have hA263 := ((H257).tl.g0.rd).adO hj184
          refine r_ix IX51 rfl rfl hA263 h0182 (by have h1_ := ((H257).tl.g0).leneq; have h2_ := h1183; rw [← h1_] at h2_; exact h2_) ?_ (wn_t rfl rfl (by decide) rfl hb177)
          exact r_nil (n_lp ⟨_, rfl, undef, rfl, H257⟩)
        · intro η176 wd267 Δ268 hE264 hR265 H266
          have H266 : Hp w0 ((Δ268 ++ (Row K54 (.slice A1 data.length c2) xs29 :: Γ))) wd267 := H266
          refine sp_op [(21, .bool (decide (v30 > a_))), (30, .pointer (some ((oA A1).add (Int.toNat (w64 (v30 - 1)) * 3))))] (ac (hE264 3 (by decide)) (ac (hE264 12 (by decide)) an)) ?_
          have hA269 := ((H266).tl.g0.rd).adO hj184
          refine r_ldA [.int .i64 ((rd xs29 (w64 (v30 - 1))).Class), .int .i64 ((rd xs29 (w64 (v30 - 1))).Year), .int .i64 ((rd xs29 (w64 (v30 - 1))).Amount)] LD54 rfl rfl (((H266).tl.g0.rd).csA hA269 hj184) ?_ (wn_t rfl rfl (by decide) rfl hb177)
          exact r_nil (n_lp ⟨_, rfl, undef, rfl, H266⟩)
        · intro η176 wd273 Δ274 hE270 hR271 H272
          have H272 : Hp w0 ((Δ274 ++ (Row K54 (.slice A1 data.length c2) xs29 :: Γ))) wd273 := H272
          refine sp_op [(21, .bool (decide (v30 > a_))), (22, .func (.func gf6) #[] (List.toArray gcap7)), (26, .agg #[.int .i64 ((rd xs29 v30).Class), .int .i64 ((rd xs29 v30).Year), .int .i64 ((rd xs29 v30).Amount)]), (31, .agg #[.int .i64 ((rd xs29 (w64 (v30 - 1))).Class), .int .i64 ((rd xs29 (w64 (v30 - 1))).Year), .int .i64 ((rd xs29 (w64 (v30 - 1))).Amount)])] (ac (hE270 3 (by decide)) (ac (hE270 4 (by decide)) (ac (hE270 8 (by decide)) (ac (hE270 13 (by decide)) an)))) ?_
          refine r_callv rfl ge8 (gp9 _ _ hy186 _ _ H272 (fun _ H => (H).tl.d)) ?_ (wn_t rfl rfl (by decide) rfl hb177)
          rintro e279 wd278 ⟨rfl, H277⟩
          refine ⟨_, rfl, ?_⟩
          exact r_nil (n_lp ⟨_, rfl, undef, rfl, H277⟩)
        · intro η176 wd283 Δ284 hE280 hR281 H282
          have H282 : Hp w0 ((Δ284 ++ (Row K54 (.slice A1 data.length c2) xs29 :: Γ))) wd283 := H282
          refine sp_op [(21, .bool (decide (v30 > a_))), (32, .int .i64 y185)] (ac (hE280 3 (by decide)) (ac (hE280 14 (by decide)) an)) ?_
          refine r_pure (.bool (decide (y185 < 0))) rfl ?_ (wn_t rfl rfl (by decide) rfl hb177)
          exact r_nil (n_lp ⟨_, rfl, undef, rfl, H282⟩)
        · intro η176 wd288 Δ289 hE285 hR286 H287
          have H287 : Hp w0 ((Δ289 ++ (Row K54 (.slice A1 data.length c2) xs29 :: Γ))) wd288 := H287
          refine sp_op [(21, .bool (decide (v30 > a_))), (33, .bool (decide (y185 < 0)))] (ac (hE285 3 (by decide)) (ac (hE285 15 (by decide)) an)) ?_
          refine r_pick_t (.bool (decide (y185 < 0))) hb177 rfl rfl ?_
          exact r_nil (n_lp ⟨_, rfl, undef, rfl, H287⟩)
        · intro η176 wd291 hV292 H290
          have H293 : Hp w0 (Row K54 (.slice A1 data.length c2) xs29 :: Γ) wd291 := H290
          refine n_frame [(0, .slice A1 data.length c2), (1, .int .i64 a_), (2, .int .i64 b_), (3, .func (.func gf6) #[] (List.toArray gcap7)), (8, .int .i64 v13), (9, .int .i64 v30), (22, .func (.func gf6) #[] (List.toArray gcap7)), (23, .slice A1 data.length c2), (24, .int .i64 v30), (25, .pointer (some ((oA A1).add (Int.toNat v30 * 3)))), (26, .agg #[.int .i64 ((rd xs29 v30).Class), .int .i64 ((rd xs29 v30).Year), .int .i64 ((rd xs29 v30).Amount)]), (27, .slice A1 data.length c2), (28, .int .i64 v30), (29, .int .i64 (w64 (v30 - 1))), (30, .pointer (some ((oA A1).add (Int.toNat (w64 (v30 - 1)) * 3)))), (31, .agg #[.int .i64 ((rd xs29 (w64 (v30 - 1))).Class), .int .i64 ((rd xs29 (w64 (v30 - 1))).Year), .int .i64 ((rd xs29 (w64 (v30 - 1))).Amount)]), (32, .int .i64 y185), (33, .bool (decide (y185 < 0))), (34, .bool (decide (y185 < 0)))] (ac rfl (ac rfl (ac rfl (ac rfl (ac rfl (ac rfl (ac (hV292 4 rfl) (ac (hV292 5 rfl) (ac (hV292 6 rfl) (ac (hV292 7 rfl) (ac (hV292 8 rfl) (ac (hV292 9 rfl) (ac (hV292 10 rfl) (ac (hV292 11 rfl) (ac (hV292 12 rfl) (ac (hV292 13 rfl) (ac (hV292 14 rfl) (ac (hV292 15 rfl) (ac (hV292 16 rfl) an))))))))))))))))))) ?_
          refine n_cut ⟨decide (y185 < 0), upk (ac rfl (ac rfl (ac rfl (ac rfl (ac rfl (ac rfl (ac rfl an))))))), H293, hm⟩
      · refine Flow.run' [[], [], [0, 1], [0, 1, 2], [0, 1, 2, 3], [0, 1, 2, 3], [0, 1, 2, 3], [0, 1, 2, 3, 5, 6], [0, 1, 2, 3, 5, 6, 7], [0, 1, 2, 3], [0, 1, 2, 3], [0, 1, 2, 3, 10], [0, 1, 2, 3, 9, 10, 11], [0, 1, 2, 3, 9, 10, 11, 12], [0, 1, 2, 3, 4, 5, 6, 7, 8, 9, 10, 11, 12, 13], [0, 1, 2, 3, 4, 5, 6, 7, 8, 9, 10, 11, 12, 13, 14], [0, 1, 2, 3, 4, 5, 6, 7, 8, 9, 10, 11, 12, 13, 14, 15]] [(18, 0), (19, 1), (20, 2), (21, 3), (22, 4), (23, 5), (24, 6), (25, 7), (26, 8), (27, 9), (28, 10), (29, 11), (30, 12), (31, 13), (32, 14), (33, 15), (34, 16)] [(fun η176 v => v.1 = .int .i64 v30), (fun η176 v => v.1 = .int .i64 a_), (fun η176 v => v.1 = .bool (decide (v30 > a_))), (fun η176 v => v.1 = .bool (decide (v30 > a_))), (fun η176 v => v.1 = undef), (fun η176 v => v.1 = undef), (fun η176 v => v.1 = undef), (fun η176 v => v.1 = undef), (fun η176 v => v.1 = undef), (fun η176 v => v.1 = undef), (fun η176 v => v.1 = undef), (fun η176 v => v.1 = undef), (fun η176 v => v.1 = undef), (fun η176 v => v.1 = undef), (fun η176 v => v.1 = undef), (fun η176 v => v.1 = undef), (fun η176 v => v.1 = .bool false)] [] rfl (by kernel_rfl) (by kernel_rfl) H31 ⟨?_, ?_, ?_, ?_, ?_, ?_, ?_, ?_, ?_, ?_, ?_, ?_, ?_, ?_, ?_, ?_, ?_, trivial⟩ ?_
        · intro η176 wd297 Δ298 hE294 hR295 H296
          have H296 : Hp w0 ((Δ298 ++ (Row K54 (.slice A1 data.length c2) xs29 :: Γ))) wd297 := H296
          refine sp_op [(9, .int .i64 v30)] (ac rfl an) ?_
          refine r_pure (.int .i64 v30) rfl ?_
          exact r_nil (n_lp ⟨_, rfl, undef, rfl, H296⟩)
        · intro η176 wd302 Δ303 hE299 hR300 H301
          have H301 : Hp w0 ((Δ303 ++ (Row K54 (.slice A1 data.length c2) xs29 :: Γ))) wd302 := H301
          refine sp_op [(1, .int .i64 a_)] (ac rfl an) ?_
          refine r_pure (.int .i64 a_) rfl ?_
          exact r_nil (n_lp ⟨_, rfl, undef, rfl, H301⟩)
        · intro η176 wd307 Δ308 hE304 hR305 H306
          have H306 : Hp w0 ((Δ308 ++ (Row K54 (.slice A1 data.length c2) xs29 :: Γ))) wd307 := H306
          refine sp_op [(18, .int .i64 v30), (19, .int .i64 a_)] (ac (hE304 0 (by decide)) (ac (hE304 1 (by decide)) an)) ?_
          refine r_pure (.bool (decide (v30 > a_))) rfl ?_
          exact r_nil (n_lp ⟨_, rfl, undef, rfl, H306⟩)
        · intro η176 wd312 Δ313 hE309 hR310 H311
          have H311 : Hp w0 ((Δ313 ++ (Row K54 (.slice A1 data.length c2) xs29 :: Γ))) wd312 := H311
          refine sp_op [(20, .bool (decide (v30 > a_)))] (ac (hE309 2 (by decide)) an) ?_
          refine r_pure (.bool (decide (v30 > a_))) rfl ?_
          exact r_nil (n_lp ⟨_, rfl, undef, rfl, H311⟩)
        · intro η176 wd317 Δ318 hE314 hR315 H316
          have H316 : Hp w0 ((Δ318 ++ (Row K54 (.slice A1 data.length c2) xs29 :: Γ))) wd317 := H316
          refine sp_op [(3, .func (.func gf6) #[] (List.toArray gcap7)), (21, .bool (decide (v30 > a_)))] (ac rfl (ac (hE314 3 (by decide)) an)) ?_
          refine r_not (wn_f rfl rfl (by decide) rfl hb177) ?_
          exact r_nil (n_lp ⟨_, rfl, undef, rfl, H316⟩)
        · intro η176 wd322 Δ323 hE319 hR320 H321
          have H321 : Hp w0 ((Δ323 ++ (Row K54 (.slice A1 data.length c2) xs29 :: Γ))) wd322 := H321
          refine sp_op [(0, .slice A1 data.length c2), (21, .bool (decide (v30 > a_)))] (ac rfl (ac (hE319 3 (by decide)) an)) ?_
          refine r_not (wn_f rfl rfl (by decide) rfl hb177) ?_
          exact r_nil (n_lp ⟨_, rfl, undef, rfl, H321⟩)
        · intro η176 wd327 Δ328 hE324 hR325 H326
          have H326 : Hp w0 ((Δ328 ++ (Row K54 (.slice A1 data.length c2) xs29 :: Γ))) wd327 := H326
          refine sp_op [(9, .int .i64 v30), (21, .bool (decide (v30 > a_)))] (ac rfl (ac (hE324 3 (by decide)) an)) ?_
          refine r_not (wn_f rfl rfl (by decide) rfl hb177) ?_
          exact r_nil (n_lp ⟨_, rfl, undef, rfl, H326⟩)
        · intro η176 wd332 Δ333 hE329 hR330 H331
          have H331 : Hp w0 ((Δ333 ++ (Row K54 (.slice A1 data.length c2) xs29 :: Γ))) wd332 := H331
          refine sp_op [(21, .bool (decide (v30 > a_))), (23, undef), (24, undef)] (ac (hE329 3 (by decide)) (ac (hE329 5 (by decide)) (ac (hE329 6 (by decide)) an))) ?_
          refine r_not (wn_f rfl rfl (by decide) rfl hb177) ?_
          exact r_nil (n_lp ⟨_, rfl, undef, rfl, H331⟩)
        · intro η176 wd337 Δ338 hE334 hR335 H336
          have H336 : Hp w0 ((Δ338 ++ (Row K54 (.slice A1 data.length c2) xs29 :: Γ))) wd337 := H336
          refine sp_op [(21, .bool (decide (v30 > a_))), (25, undef)] (ac (hE334 3 (by decide)) (ac (hE334 7 (by decide)) an)) ?_
          refine r_not (wn_f rfl rfl (by decide) rfl hb177) ?_
          exact r_nil (n_lp ⟨_, rfl, undef, rfl, H336⟩)
        · intro η176 wd342 Δ343 hE339 hR340 H341
          have H341 : Hp w0 ((Δ343 ++ (Row K54 (.slice A1 data.length c2) xs29 :: Γ))) wd342 := H341
          refine sp_op [(0, .slice A1 data.length c2), (21, .bool (decide (v30 > a_)))] (ac rfl (ac (hE339 3 (by decide)) an)) ?_
          refine r_not (wn_f rfl rfl (by decide) rfl hb177) ?_
          exact r_nil (n_lp ⟨_, rfl, undef, rfl, H341⟩)
        · intro η176 wd347 Δ348 hE344 hR345 H346
          have H346 : Hp w0 ((Δ348 ++ (Row K54 (.slice A1 data.length c2) xs29 :: Γ))) wd347 := H346
          refine sp_op [(9, .int .i64 v30), (21, .bool (decide (v30 > a_)))] (ac rfl (ac (hE344 3 (by decide)) an)) ?_
          refine r_not (wn_f rfl rfl (by decide) rfl hb177) ?_
          exact r_nil (n_lp ⟨_, rfl, undef, rfl, H346⟩)
        · intro η176 wd352 Δ353 hE349 hR350 H351
          have H351 : Hp w0 ((Δ353 ++ (Row K54 (.slice A1 data.length c2) xs29 :: Γ))) wd352 := H351
          refine sp_op [(21, .bool (decide (v30 > a_))), (28, undef)] (ac (hE349 3 (by decide)) (ac (hE349 10 (by decide)) an)) ?_
          refine r_not (wn_f rfl rfl (by decide) rfl hb177) ?_
          exact r_nil (n_lp ⟨_, rfl, undef, rfl, H351⟩)
        · intro η176 wd357 Δ358 hE354 hR355 H356
          have H356 : Hp w0 ((Δ358 ++ (Row K54 (.slice A1 data.length c2) xs29 :: Γ))) wd357 := H356
          refine sp_op [(21, .bool (decide (v30 > a_))), (27, undef), (29, undef)] (ac (hE354 3 (by decide)) (ac (hE354 9 (by decide)) (ac (hE354 11 (by decide)) an))) ?_
          refine r_not (wn_f rfl rfl (by decide) rfl hb177) ?_
          exact r_nil (n_lp ⟨_, rfl, undef, rfl, H356⟩)
        · intro η176 wd362 Δ363 hE359 hR360 H361
          have H361 : Hp w0 ((Δ363 ++ (Row K54 (.slice A1 data.length c2) xs29 :: Γ))) wd362 := H361
          refine sp_op [(21, .bool (decide (v30 > a_))), (30, undef)] (ac (hE359 3 (by decide)) (ac (hE359 12 (by decide)) an)) ?_
          refine r_not (wn_f rfl rfl (by decide) rfl hb177) ?_
          exact r_nil (n_lp ⟨_, rfl, undef, rfl, H361⟩)
        · intro η176 wd367 Δ368 hE364 hR365 H366
          have H366 : Hp w0 ((Δ368 ++ (Row K54 (.slice A1 data.length c2) xs29 :: Γ))) wd367 := H366
          refine sp_op [(21, .bool (decide (v30 > a_))), (22, undef), (26, undef), (31, undef)] (ac (hE364 3 (by decide)) (ac (hE364 4 (by decide)) (ac (hE364 8 (by decide)) (ac (hE364 13 (by decide)) an)))) ?_
          refine r_not (wn_f rfl rfl (by decide) rfl hb177) ?_
          exact r_nil (n_lp ⟨_, rfl, undef, rfl, H366⟩)
        · intro η176 wd372 Δ373 hE369 hR370 H371
          have H371 : Hp w0 ((Δ373 ++ (Row K54 (.slice A1 data.length c2) xs29 :: Γ))) wd372 := H371
          refine sp_op [(21, .bool (decide (v30 > a_))), (32, undef)] (ac (hE369 3 (by decide)) (ac (hE369 14 (by decide)) an)) ?_
          refine r_not (wn_f rfl rfl (by decide) rfl hb177) ?_
          exact r_nil (n_lp ⟨_, rfl, undef, rfl, H371⟩)
        · intro η176 wd377 Δ378 hE374 hR375 H376
          have H376 : Hp w0 ((Δ378 ++ (Row K54 (.slice A1 data.length c2) xs29 :: Γ))) wd377 := H376
          refine sp_op [(21, .bool (decide (v30 > a_))), (33, undef)] (ac (hE374 3 (by decide)) (ac (hE374 15 (by decide)) an)) ?_
          refine r_pick_f (.bool false) hb177 rfl rfl ?_
          exact r_nil (n_lp ⟨_, rfl, undef, rfl, H376⟩)
        · intro η176 wd380 hV381 H379
          have H382 : Hp w0 (Row K54 (.slice A1 data.length c2) xs29 :: Γ) wd380 := H379
          refine n_frame [(0, .slice A1 data.length c2), (1, .int .i64 a_), (2, .int .i64 b_), (3, .func (.func gf6) #[] (List.toArray gcap7)), (8, .int .i64 v13), (9, .int .i64 v30), (34, .bool false)] (ac rfl (ac rfl (ac rfl (ac rfl (ac rfl (ac rfl (ac (hV381 16 rfl) an))))))) ?_
          refine n_cut ⟨false, upk (ac rfl (ac rfl (ac rfl (ac rfl (ac rfl (ac rfl (ac rfl an))))))), H382, hm⟩
    · rintro ρ w ⟨q43, ⟨base, rfl⟩, H44, hm⟩
      unfold slices_insertionSortCmpFunc_api_Bucket.j1 at hm
      rcases ite_some hm with ⟨hb45, hm⟩ | ⟨hb45, hm⟩
      · refine st_condt hb45 rfl ?_
        refine st_skip ?_
        refine n_sq ?_
        refine st_seq ?_
        refine st_block ?_
        obtain ⟨⟨h047, h148⟩, hm⟩ := gd_some hm
        have hj49 := rd_get h047 h148
        obtain ⟨⟨h051, h152⟩, hm⟩ := gd_some hm
        have hj53 := rd_get h051 h152
        obtain ⟨⟨h056, h157⟩, hm⟩ := gd_some hm
        have hj58 := rd_get h056 h157
        refine Flow.run' [[], [], [], [], [3], [], [], [6], [5, 6, 7], [5, 6, 7, 8], [], [], [10, 11], [10, 11, 12], [0, 1, 5, 6, 7, 8, 9, 10, 11, 12, 13], [0, 1, 5, 6, 7, 8, 9, 10, 11, 12, 13, 14], [0, 1, 2, 3, 4, 5, 6, 7, 8, 9, 10, 11, 12, 13, 14, 15], [0, 1, 2, 3, 4, 5, 6, 7, 8, 9, 10, 11, 12, 13, 14, 15, 16]] [(37, 0), (38, 1), (39, 2), (40, 3), (41, 4), (42, 5), (43, 6), (44, 7), (45, 8), (46, 9), (47, 10), (48, 11), (49, 12), (50, 13), (51, 14), (52, 16)] [(fun η46 v => v.1 = .slice A1 data.length c2), (fun η46 v => v.1 = .int .i64 v30), (fun η46 v => v.1 = .slice A1 data.length c2), (fun η46 v => v.1 = .int .i64 v30), (fun η46 v => v.1 = .int .i64 (w64 (v30 - 1))), (fun η46 v => v.1 = .slice A1 data.length c2), (fun η46 v => v.1 = .int .i64 v30), (fun η46 v => v.1 = .int .i64 (w64 (v30 - 1))), (fun η46 v => v.1 = .pointer (some ((oA A1).add (Int.toNat (w64 (v30 - 1)) * 3)))), (fun η46 v => v.1 = .agg #[.int .i64 ((rd xs29 (w64 (v30 - 1))).Class), .int .i64 ((rd xs29 (w64 (v30 - 1))).Year), .int .i64 ((rd xs29 (w64 (v30 - 1))).Amount)]), (fun η46 v => v.1 = .slice A1 data.length c2), (fun η46 v => v.1 = .int .i64 v30), (fun η46 v => v.1 = .pointer (some ((oA A1).add (Int.toNat v30 * 3)))), (fun η46 v => v.1 = .agg #[.int .i64 ((rd xs29 v30).Class), .int .i64 ((rd xs29 v30).Year), .int .i64 ((rd xs29 v30).Amount)]), (fun η46 v => v.1 = .pointer (some ((oA A1).add (Int.toNat v30 * 3)))), (fun _ _ => True), (fun η46 v => v.1 = .pointer (some ((oA A1).add (Int.toNat (w64 (v30 - 1)) * 3)))), (fun _ _ => True)] [⟨none, (some 15), fun η46 => Row K54 (.slice A1 data.length c2) xs29⟩, ⟨(some 15), (some 17), fun η46 => Row K54 (.slice A1 data.length c2) (xs29.set (Int.toNat v30) (rd xs29 (w64 (v30 - 1))))⟩, ⟨(some 17), none, fun η46 => Row K54 (.slice A1 data.length c2) ((xs29.set (Int.toNat v30) (rd xs29 (w64 (v30 - 1)))).set (Int.toNat (w64 (v30 - 1))) (rd xs29 v30))⟩] rfl (by kernel_rfl) (by kernel_rfl) H44 ⟨?_, ?_, ?_, ?_, ?_, ?_, ?_, ?_, ?_, ?_, ?_, ?_, ?_, ?_, ?_, ?_, ?_, ?_, trivial⟩ ?_
        · intro η46 wd64 Δ65 hE61 hR62 H63
          have H63 : Hp w0 ((Δ65 ++ Γ)) wd64 := H63
          refine sp_op [(0, .slice A1 data.length c2)] (ac rfl an) ?_
          refine r_pure (.slice A1 data.length c2) rfl ?_
          exact r_nil (n_lp ⟨_, rfl, undef, rfl, H63⟩)
        · intro η46 wd69 Δ70 hE66 hR67 H68
          have H68 : Hp w0 ((Δ70 ++ Γ)) wd69 := H68
          refine sp_op [(9, .int .i64 v30)] (ac rfl an) ?_
          refine r_pure (.int .i64 v30) rfl ?_
          exact r_nil (n_lp ⟨_, rfl, undef, rfl, H68⟩)
        · intro η46 wd74 Δ75 hE71 hR72 H73
          have H73 : Hp w0 ((Δ75 ++ Γ)) wd74 := H73
          refine sp_op [(0, .slice A1 data.length c2)] (ac rfl an) ?_
          refine r_pure (.slice A1 data.length c2) rfl ?_
          exact r_nil (n_lp ⟨_, rfl, undef, rfl, H73⟩)
        · intro η46 wd79 Δ80 hE76 hR77 H78
          have H78 : Hp w0 ((Δ80 ++ Γ)) wd79 := H78
          refine sp_op [(9, .int .i64 v30)] (ac rfl an) ?_
          refine r_pure (.int .i64 v30) rfl ?_
          exact r_nil (n_lp ⟨_, rfl, undef, rfl, H78⟩)
        · intro η46 wd84 Δ85 hE81 hR82 H83
          have H83 : Hp w0 ((Δ85 ++ Γ)) wd84 := H83
          refine sp_op [(40, .int .i64 v30)] (ac (hE81 3 (by decide)) an) ?_
          refine r_pure (.int .i64 (w64 (v30 - 1))) rfl ?_
          exact r_nil (n_lp ⟨_, rfl, undef, rfl, H83⟩)
        · intro η46 wd89 Δ90 hE86 hR87 H88
          have H88 : Hp w0 ((Δ90 ++ Γ)) wd89 := H88
          refine sp_op [(0, .slice A1 data.length c2)] (ac rfl an) ?_
          refine r_pure (.slice A1 data.length c2) rfl ?_
          exact r_nil (n_lp ⟨_, rfl, undef, rfl, H88⟩)
        · intro η46 wd94 Δ95 hE91 hR92 H93
          have H93 : Hp w0 ((Δ95 ++ Γ)) wd94 := H93
          refine sp_op [(9, .int .i64 v30)] (ac rfl an) ?_
          refine r_pure (.int .i64 v30) rfl ?_
          exact r_nil (n_lp ⟨_, rfl, undef, rfl, H93⟩)
        · intro η46 wd99 Δ100 hE96 hR97 H98
          have H98 : Hp w0 ((Δ100 ++ Γ)) wd99 := H98
          refine sp_op [(43, .int .i64 v30)] (ac (hE96 6 (by decide)) an) ?_
          refine r_pure (.int .i64 (w64 (v30 - 1))) rfl ?_
          exact r_nil (n_lp ⟨_, rfl, undef, rfl, H98⟩)
        · intro η46 wd104 Δ105 hE101 hR102 H103
          have H103 : Hp w0 ((Δ105 ++ Γ)) wd104 := H103
          refine sp_op [(42, .slice A1 data.length c2), (44, .int .i64 (w64 (v30 - 1)))] (ac (hE101 5 (by decide)) (ac (hE101 7 (by decide)) an)) ?_
          have hA109 := ((show (Row K54 (.slice A1 data.length c2) xs29) _ from (H103).memr (hR102 _ (List.mem_of_getElem? (i := 0) rfl) rfl)).rd).adO hj49
          refine r_ix IX51 rfl rfl hA109 h047 (by have h1_ := ((show (Row K54 (.slice A1 data.length c2) xs29) _ from (H103).memr (hR102 _ (List.mem_of_getElem? (i := 0) rfl) rfl))).leneq; have h2_ := h148; rw [← h1_] at h2_; exact h2_) ?_
          exact r_nil (n_lp ⟨_, rfl, undef, rfl, H103⟩)
        · intro η46 wd113 Δ114 hE110 hR111 H112
          have H112 : Hp w0 ((Δ114 ++ Γ)) wd113 := H112
          refine sp_op [(45, .pointer (some ((oA A1).add (Int.toNat (w64 (v30 - 1)) * 3))))] (ac (hE110 8 (by decide)) an) ?_
          have hA115 := ((show (Row K54 (.slice A1 data.length c2) xs29) _ from (H112).memr (hR111 _ (List.mem_of_getElem? (i := 0) rfl) rfl)).rd).adO hj49
          refine r_ldA [.int .i64 ((rd xs29 (w64 (v30 - 1))).Class), .int .i64 ((rd xs29 (w64 (v30 - 1))).Year), .int .i64 ((rd xs29 (w64 (v30 - 1))).Amount)] LD54 rfl rfl (((show (Row K54 (.slice A1 data.length c2) xs29) _ from (H112).memr (hR111 _ (List.mem_of_getElem? (i := 0) rfl) rfl)).rd).csA hA115 hj49) ?_
          exact r_nil (n_lp ⟨_, rfl, undef, rfl, H112⟩)
        · intro η46 wd119 Δ120 hE116 hR117 H118
          have H118 : Hp w0 ((Δ120 ++ Γ)) wd119 := H118
          refine sp_op [(0, .slice A1 data.length c2)] (ac rfl an) ?_
          refine r_pure (.slice A1 data.length c2) rfl ?_
          exact r_nil (n_lp ⟨_, rfl, undef, rfl, H118⟩)
        · intro η46 wd124 Δ125 hE121 hR122 H123
          have H123 : Hp w0 ((Δ125 ++ Γ)) wd124 := H123
          refine sp_op [(9, .int .i64 v30)] (ac rfl an) ?_
          refine r_pure (.int .i64 v30) rfl ?_
          exact r_nil (n_lp ⟨_, rfl, undef, rfl, H123⟩)
        · intro η46 wd129 Δ130 hE126 hR127 H128
          have H128 : Hp w0 ((Δ130 ++ Γ)) wd129 := H128
          refine sp_op [(47, .slice A1 data.length c2), (48, .int .i64 v30)] (ac (hE126 10 (by decide)) (ac (hE126 11 (by decide)) an)) ?_
          have hA134 := ((show (Row K54 (.slice A1 data.length c2) xs29) _ from (H128).memr (hR127 _ (List.mem_of_getElem? (i := 0) rfl) rfl)).rd).adO hj53
          refine r_ix IX51 rfl rfl hA134 h051 (by have h1_ := ((show (Row K54 (.slice A1 data.length c2) xs29) _ from (H128).memr (hR127 _ (List.mem_of_getElem? (i := 0) rfl) rfl))).leneq; have h2_ := h152; rw [← h1_] at h2_; exact h2_) ?_
          exact r_nil (n_lp ⟨_, rfl, undef, rfl, H128⟩)
        · intro η46 wd138 Δ139 hE135 hR136 H137
          have H137 : Hp w0 ((Δ139 ++ Γ)) wd138 := H137
          refine sp_op [(49, .pointer (some ((oA A1).add (Int.toNat v30 * 3))))] (ac (hE135 12 (by decide)) an) ?_
          have hA140 := ((show (Row K54 (.slice A1 data.length c2) xs29) _ from (H137).memr (hR136 _ (List.mem_of_getElem? (i := 0) rfl) rfl)).rd).adO hj53
          refine r_ldA [.int .i64 ((rd xs29 v30).Class), .int .i64 ((rd xs29 v30).Year), .int .i64 ((rd xs29 v30).Amount)] LD54 rfl rfl (((show (Row K54 (.slice A1 data.length c2) xs29) _ from (H137).memr (hR136 _ (List.mem_of_getElem? (i := 0) rfl) rfl)).rd).csA hA140 hj53) ?_
          exact r_nil (n_lp ⟨_, rfl, undef, rfl, H137⟩)
        · intro η46 wd144 Δ145 hE141 hR142 H143
          have H143 : Hp w0 ((Δ145 ++ Γ)) wd144 := H143
          refine sp_op [(37, .slice A1 data.length c2), (38, .int .i64 v30)] (ac (hE141 0 (by decide)) (ac (hE141 1 (by decide)) an)) ?_
          have hA146 := ((show (Row K54 (.slice A1 data.length c2) xs29) _ from (H143).memr (hR142 _ (List.mem_of_getElem? (i := 0) rfl) rfl)).rd).adO hj53
          refine r_ix IX51 rfl rfl hA146 h051 (by have h1_ := ((show (Row K54 (.slice A1 data.length c2) xs29) _ from (H143).memr (hR142 _ (List.mem_of_getElem? (i := 0) rfl) rfl))).leneq; have h2_ := h152; rw [← h1_] at h2_; exact h2_) ?_
          exact r_nil (n_lp ⟨_, rfl, undef, rfl, H143⟩)
        · intro η46 wd150 Δ151 hE147 hR148 H149
          have H149 : Hp w0 (Row K54 (.slice A1 data.length c2) xs29 :: (Δ151 ++ Γ)) wd150 := H149
          refine sp_op [(46, .agg #[.int .i64 ((rd xs29 (w64 (v30 - 1))).Class), .int .i64 ((rd xs29 (w64 (v30 - 1))).Year), .int .i64 ((rd xs29 (w64 (v30 - 1))).Amount)]), (51, .pointer (some ((oA A1).add (Int.toNat v30 * 3))))] (ac (hE147 9 (by decide)) (ac (hE147 14 (by decide)) an)) ?_
          have hA154 := (H149.g0.rd).adO hj53
          refine r_stxA (K := K54) ((rd xs29 (w64 (v30 - 1)))) hA154 LD54 rfl rfl rfl rfl H149 (by have h1_ := h051; have h2_ := h152; first | omega | (simp only [List.length_set] at h1_ h2_ ⊢; omega)) ?_
          intro wd153 H152
          exact r_nil (n_lp ⟨_, rfl, (.tuple #[.slice A1 data.length c2]), trivial, H152⟩)
        · intro η46 wd158 Δ159 hE155 hR156 H157
          have H157 : Hp w0 ((Δ159 ++ Γ)) wd158 := H157
          refine sp_op [(39, .slice A1 data.length c2), (41, .int .i64 (w64 (v30 - 1)))] (ac (hE155 2 (by decide)) (ac (hE155 4 (by decide)) an)) ?_
          have hA163 := ((show (Row K54 (.slice A1 data.length c2) (xs29.set (Int.toNat v30) (rd xs29 (w64 (v30 - 1))))) _ from (H157).memr (hR156 _ (List.mem_of_getElem? (i := 1) rfl) rfl)).rd).adO hj58
          refine r_ix IX51 rfl rfl hA163 h056 (by have h1_ := ((show (Row K54 (.slice A1 data.length c2) (xs29.set (Int.toNat v30) (rd xs29 (w64 (v30 - 1))))) _ from (H157).memr (hR156 _ (List.mem_of_getElem? (i := 1) rfl) rfl))).leneq; have h2_ := h157; rw [← h1_] at h2_; exact h2_) ?_
          exact r_nil (n_lp ⟨_, rfl, undef, rfl, H157⟩)
        · intro η46 wd167 Δ168 hE164 hR165 H166
          have H166 : Hp w0 (Row K54 (.slice A1 data.length c2) (xs29.set (Int.toNat v30) (rd xs29 (w64 (v30 - 1)))) :: (Δ168 ++ Γ)) wd167 := H166
          refine sp_op [(50, .agg #[.int .i64 ((rd xs29 v30).Class), .int .i64 ((rd xs29 v30).Year), .int .i64 ((rd xs29 v30).Amount)]), (52, .pointer (some ((oA A1).add (Int.toNat (w64 (v30 - 1)) * 3))))] (ac (hE164 13 (by decide)) (ac (hE164 16 (by decide)) an)) ?_
          have hA171 := (H166.g0.rd).adO hj58
          refine r_stxA (K := K54) ((rd xs29 v30)) hA171 LD54 rfl rfl rfl rfl H166 (by have h1_ := h056; have h2_ := h157; first | omega | (simp only [List.length_set] at h1_ h2_ ⊢; omega)) ?_
          intro wd170 H169
          exact r_nil (n_lp ⟨_, rfl, (.tuple #[.slice A1 data.length c2]), trivial, H169⟩)
        · intro η46 wd173 hV174 H172
          have H175 : Hp w0 (Row K54 (.slice A1 data.length c2) ((xs29.set (Int.toNat v30) (rd xs29 (w64 (v30 - 1)))).set (Int.toNat (w64 (v30 - 1))) (rd xs29 v30)) :: Γ) wd173 := H172
          refine n_frame [(0, .slice A1 data.length c2), (1, .int .i64 a_), (2, .int .i64 b_), (3, .func (.func gf6) #[] (List.toArray gcap7)), (8, .int .i64 v13), (9, .int .i64 v30)] (ac rfl (ac rfl (ac rfl (ac rfl (ac rfl (ac rfl an)))))) ?_
          refine n_bl ?_
          refine n_sq ?_
          refine st_region ?_
          refine r_pure (.int .i64 v30) rfl ?_
          refine r_pure (.int .i64 (w64 (v30 - 1))) rfl ?_
          refine r_pure (.int .i64 (w64 (v30 - 1))) rfl ?_
          refine r_nil ?_
          refine n_round (IH42 _ _ _ ⟨(xs29.set (Int.toNat v30) (rd xs29 (w64 (v30 - 1)))).set (Int.toNat (w64 (v30 - 1))) (rd xs29 v30), w64 (v30 - 1), rfl, upk (ac rfl (ac rfl (ac rfl (ac rfl (ac rfl (ac rfl an)))))), H175⟩ hm)
      · refine st_condf hb45 rfl ?_
        have hq_ := Option.some.inj hm
        refine st_exit rfl ?_
        subst hq_
        refine n_bl ?_
        refine n_sq ?_
        refine st_region ?_
        refine r_pure (.int .i64 v13) rfl ?_
        refine r_pure (.int .i64 (w64 (v13 + 1))) rfl ?_
        refine r_pure (.int .i64 (w64 (v13 + 1))) rfl ?_
        refine r_nil ?_
        refine n_round (IH25 _ _ _ ⟨xs29, w64 (v13 + 1), rfl, upk (ac rfl (ac rfl (ac rfl (ac rfl (ac rfl an))))), H44⟩ hm32)
  · refine st_condf hb26 rfl ?_
    have hq_ := Option.some.inj hm
    refine st_exit rfl ?_
    subst hq_
    have hq_ := Option.some.inj hm15
    subst hq_
    refine n_fin0 rfl ?_
    exact ⟨rfl, H14⟩

set_option maxHeartbeats 2000000 in
theorem slices_pdqsortCmpFunc_api_Bucket_ok {w0 w : World} {Γ : List (World → Prop)} (data : List api_Bucket) (A1 : Option Addr) (n3 c2 : Nat) (a_ : Int) (b_ : Int) (limit : Int) (fv4 : Value) (cmp : (api_Bucket × api_Bucket) → Option Int) (hp5 : FnOk Try.prog w0 Γ fv4 (fun x => [.agg #[.int .i64 x.1.Class, .int .i64 x.1.Year, .int .i64 x.1.Amount], .agg #[.int .i64 x.2.Class, .int .i64 x.2.Year, .int .i64 x.2.Amount]]) (fun r => .int .i64 r) cmp) (r0_ : List api_Bucket) (H : Hp w0 (Row K54 (.slice A1 n3 c2) data :: Γ) w) (hm : slices_pdqsortCmpFunc_api_Bucket data a_ b_ limit cmp = some r0_) : Calls Try.prog 88 #[.slice A1 n3 c2, .int .i64 a_, .int .i64 b_, .int .i64 limit, fv4] w (fun e w => e = .returned (.tuple #[]) ∧ Hp w0 (Row K54 (.slice A1 n3 c2) r0_ :: Γ) w) := by
  obtain ⟨gf6, gcap7, rfl, ge8, gp9⟩ := hp5
  obtain rfl := (H.g0).leneq
  unfold slices_pdqsortCmpFunc_api_Bucket at hm
  refine st_enter Try.func88 rfl Try.ntmps88 (Nat.le_of_ble_eq_true rfl) ?_
  refine st_seq ?_
  refine st_region ?_
  refine r_pure (.bool true) rfl ?_
  refine r_seq ?_
  refine st_seq ?_
  refine st_region ?_
  refine r_pure (.bool true) rfl ?_
  refine r_seq ?_
  refine st_block ?_
  obtain ⟨tl12, hl13, hm11⟩ := bind_some hm
  refine st_loopF (slices_pdqsortCmpFunc_api_Bucket.l1 b_ a_ data cmp) (fun s ρ w => () = s ∧ (∃ base, ρ = updl base [(0, .slice A1 data.length c2), (1, .int .i64 a_), (2, .int .i64 b_), (3, .int .i64 limit), (4, .func (.func gf6) #[] (List.toArray gcap7)), (10, .bool true), (11, .bool true)]) ∧ Hp w0 (Row K54 (.slice A1 data.length c2) data :: Γ) w) hl13 (fun _ => rfl) ⟨rfl, upk (ac rfl (ac rfl (ac rfl (ac rfl (ac rfl (ac rfl (ac rfl an))))))), H⟩ ?_
  rintro fuel19 IH21 s ρ w ⟨rfl, ⟨base, rfl⟩, H10⟩ hm
  rw [slices_pdqsortCmpFunc_api_Bucket.l1] at hm
  refine st_block ?_
  refine st_seq ?_
  refine st_region ?_
  refine r_pure (.int .i64 b_) rfl ?_
  refine r_pure (.int .i64 a_) rfl ?_
  refine r_pure (.int .i64 (w64 (b_ - a_))) rfl ?_
  refine r_pure (.int .i64 (w64 (b_ - a_))) rfl ?_
  refine r_seq ?_
  refine st_seq ?_
  refine st_seq ?_
  refine st_region ?_
  refine r_pure (.int .i64 (w64 (b_ - a_))) rfl ?_
  refine r_pure (.bool (decide (w64 (b_ - a_) ≤ 12))) rfl ?_
  refine r_seq ?_
  rcases ite_some hm with ⟨hb22, hm⟩ | ⟨hb22, hm⟩
  · refine st_condt hb22 rfl ?_
    refine st_seq ?_
    refine st_region ?_
    refine r_pure (.slice A1 data.length c2) rfl ?_
    refine r_pure (.int .i64 a_) rfl ?_
    refine r_pure (.int .i64 b_) rfl ?_
    refine r_pure (.func (.func gf6) #[] (List.toArray gcap7)) rfl ?_
    obtain ⟨y23, hy24, hm⟩ := bind_some hm
    refine r_callf Try.call107 (slices_insertionSortCmpFunc_api_Bucket_ok data A1 data.length c2 a_ b_ (.func (.func gf6) #[] (List.toArray gcap7)) cmp ⟨gf6, gcap7, rfl, ge8, fun x y hy Δ w H hΔ => gp9 x y hy Δ w H (fun u hu => (hΔ u hu))⟩ y23 H10 hy24) ?_
    rintro e26 wd25 ⟨rfl, H28⟩
    refine ⟨_, rfl, ?_⟩
    refine r_seq ?_
    have hq_ := Option.some.inj hm
    subst hq_
    have hq_ := Option.some.inj (show some (y23 : (List api_Bucket)) = some r0_ from hm11)
    subst hq_
    refine st_ret0 rfl rfl ?_
    exact ⟨rfl, H28⟩
  · cases hm

set_option maxHeartbeats 2000000 in
theorem slices_SortFunc_api_Bucket_ok {w0 w : World} {Γ : List (World → Prop)} (x_ : List api_Bucket) (A1 : Option Addr) (n3 c2 : Nat) (fv4 : Value) (cmp : (api_Bucket × api_Bucket) → Option Int) (hp5 : FnOk Try.prog w0 Γ fv4 (fun x => [.agg #[.int .i64 x.1.Class, .int .i64 x.1.Year, .int .i64 x.1.Amount], .agg #[.int .i64 x.2.Class, .int .i64 x.2.Year, .int .i64 x.2.Amount]]) (fun r => .int .i64 r) cmp) (r0_ : List api_Bucket) (H : Hp w0 (Row K54 (.slice A1 n3 c2) x_ :: Γ) w) (hm : slices_SortFunc_api_Bucket x_ cmp = some r0_) : Calls Try.prog 58 #[.slice A1 n3 c2, fv4] w (fun e w => e = .returned (.tuple #[]) ∧ Hp w0 (Row K54 (.slice A1 n3 c2) r0_ :: Γ) w) := by
  obtain ⟨gf6, gcap7, rfl, ge8, gp9⟩ := hp5
  obtain rfl := (H.g0).leneq
  unfold slices_SortFunc_api_Bucket at hm
  refine st_enter Try.func58 rfl Try.ntmps58 (Nat.le_of_ble_eq_true rfl) ?_
  refine st_seq ?_
  refine st_region ?_
  refine r_pure (.slice A1 x_.length c2) rfl ?_
  refine r_len Try.underlying51 rfl ?_
  refine r_pure (.int .i64 (x_.length : Int)) rfl ?_
  refine r_seq ?_
  refine st_region ?_
  refine r_pure (.slice A1 x_.length c2) rfl ?_
  refine r_pure (.int .i64 (x_.length : Int)) rfl ?_
  refine r_pure (.int .i64 (x_.length : Int)) rfl ?_
  refine r_conv Try.underlying3 Try.underlying102 rfl ?_
  obtain ⟨y10, hy11, hm⟩ := bind_some hm
  refine r_callf Try.call80 (math_bits_Len_ok (IntKind.u64.wrap (x_.length : Int)) y10 H hy11) ?_
  rintro e13 wd12 ⟨rfl, H15⟩
  refine ⟨_, rfl, ?_⟩
  refine r_pure (.func (.func gf6) #[] (List.toArray gcap7)) rfl ?_
  obtain ⟨y16, hy17, hm⟩ := bind_some hm
  refine r_callf Try.call88 (slices_pdqsortCmpFunc_api_Bucket_ok x_ A1 x_.length c2 0 (x_.length : Int) y10 (.func (.func gf6) #[] (List.toArray gcap7)) cmp ⟨gf6, gcap7, rfl, ge8, fun x y hy Δ w H hΔ => gp9 x y hy Δ w H (fun u hu => (hΔ u hu))⟩ y16 H15 hy17) ?_
  rintro e19 wd18 ⟨rfl, H21⟩
  refine ⟨_, rfl, ?_⟩
  refine r_nil ?_
  have hq_ := Option.some.inj hm
  subst hq_
  refine n_fin0 rfl ?_
  exact ⟨rfl, H21⟩

set_option maxHeartbeats 2000000 in
theorem cmp_isNaN_int_ok {w0 w : World} {Γ : List (World → Prop)} (x_ : Int) (r0_ : Bool) (H : Hp w0 (Γ) w) (hm : cmp_isNaN_int x_ = some r0_) : Calls Try.prog 81 #[.int .i64 x_] w (fun e w => e = .returned (.bool r0_) ∧ Hp w0 (Γ) w) := by
  unfold cmp_isNaN_int at hm
  refine st_enter Try.func81 rfl Try.ntmps81 (Nat.le_of_ble_eq_true rfl) ?_
  refine st_seq ?_
  refine st_region ?_
  refine r_pure (.bool false) rfl ?_
  refine r_seq ?_
  refine st_seq ?_
  refine st_region ?_
  refine r_pure (.int .i64 x_) rfl ?_
  refine r_pure (.int .i64 x_) rfl ?_
  refine r_pure (.bool (x_ != x_)) rfl ?_
  refine r_pure (.bool (x_ != x_)) rfl ?_
  refine r_seq ?_
  have hq_ := Option.some.inj hm
  subst hq_
  refine st_ret1 rfl rfl (Nat.le_of_ble_eq_true rfl) rfl ?_
  exact ⟨rfl, H⟩

set_option maxHeartbeats 2000000 in
theorem cmp_Compare_int_ok {w0 w : World} {Γ : List (World → Prop)} (x_ : Int) (y_ : Int) (r0_ : Int) (H : Hp w0 (Γ) w) (hm : cmp_Compare_int x_ y_ = some r0_) : Calls Try.prog 50 #[.int .i64 x_, .int .i64 y_] w (fun e w => e = .returned (.int .i64 r0_) ∧ Hp w0 (Γ) w) := by
  unfold cmp_Compare_int at hm
  refine st_enter Try.func50 rfl Try.ntmps50 (Nat.le_of_ble_eq_true rfl) ?_
  refine st_seq ?_
  refine st_region ?_
  refine r_pure (.int .i64 0) rfl ?_
  refine r_seq ?_
  refine st_seq ?_
  refine st_region ?_
  refine r_pure (.int .i64 x_) rfl ?_
  obtain ⟨y1, hy2, hm⟩ := bind_some hm
  refine r_callf Try.call81 (cmp_isNaN_int_ok x_ y1 H hy2) ?_
  rintro e4 wd3 ⟨rfl, H6⟩
  refine ⟨_, rfl, ?_⟩
  refine r_pure (.bool y1) rfl ?_
  refine r_seq ?_
  refine st_seq ?_
  refine st_region ?_
  refine r_pure (.int .i64 y_) rfl ?_
  obtain ⟨y7, hy8, hm⟩ := bind_some hm
  refine r_callf Try.call81 (cmp_isNaN_int_ok y_ y7 H6 hy8) ?_
  rintro e10 wd9 ⟨rfl, H12⟩
  refine ⟨_, rfl, ?_⟩
  refine r_pure (.bool y7) rfl ?_
  refine r_seq ?_
  refine st_seq ?_
  refine st_seq ?_
  refine st_region ?_
  refine r_pure (.bool y1) rfl ?_
  refine r_seq ?_
  rcases ite_some hm with ⟨hb13, hm⟩ | ⟨hb13, hm⟩
  · refine st_condt hb13 rfl ?_
    refine st_seq ?_
    refine st_seq ?_
    refine st_region ?_
    refine r_pure (.bool y7) rfl ?_
    refine r_seq ?_
    rcases ite_some hm with ⟨hb14, hm⟩ | ⟨hb14, hm⟩
    · refine st_condt hb14 rfl ?_
      refine st_seq ?_
      refine st_region ?_
      refine r_pure (.int .i64 0) rfl ?_
      refine r_seq ?_
      have hq_ := Option.some.inj hm
      subst hq_
      refine st_ret1 rfl rfl (Nat.le_of_ble_eq_true rfl) rfl ?_
      exact ⟨rfl, H12⟩
    · refine st_condf hb14 rfl ?_
      refine st_skip ?_
      refine n_sq ?_
      refine st_seq ?_
      refine st_region ?_
      refine r_pure (.int .i64 (-1)) rfl ?_
      refine r_seq ?_
      have hq_ := Option.some.inj hm
      subst hq_
      refine st_ret1 rfl rfl (Nat.le_of_ble_eq_true rfl) rfl ?_
      exact ⟨rfl, H12⟩
  · refine st_condf hb13 rfl ?_
    refine st_skip ?_
    refine n_sq ?_
    refine st_seq ?_
    refine st_seq ?_
    refine st_region ?_
    refine r_pure (.bool y7) rfl ?_
    refine r_seq ?_
    rcases ite_some hm with ⟨hb15, hm⟩ | ⟨hb15, hm⟩
    · refine st_condt hb15 rfl ?_
      refine st_seq ?_
      refine st_region ?_
      refine r_pure (.int .i64 1) rfl ?_
      refine r_seq ?_
      have hq_ := Option.some.inj hm
      subst hq_
      refine st_ret1 rfl rfl (Nat.le_of_ble_eq_true rfl) rfl ?_
      exact ⟨rfl, H12⟩
    · refine st_condf hb15 rfl ?_
      refine st_skip ?_
      refine n_sq ?_
      refine st_seq ?_
      refine st_seq ?_
      refine st_region ?_
      refine r_pure (.int .i64 x_) rfl ?_
      refine r_pure (.int .i64 y_) rfl ?_
      refine r_pure (.bool (decide (x_ < y_))) rfl ?_
      refine r_seq ?_
      rcases ite_some hm with ⟨hb16, hm⟩ | ⟨hb16, hm⟩
      · refine st_condt hb16 rfl ?_
        refine st_seq ?_
        refine st_region ?_
        refine r_pure (.int .i64 (-1)) rfl ?_
        refine r_seq ?_
        have hq_ := Option.some.inj hm
        subst hq_
        refine st_ret1 rfl rfl (Nat.le_of_ble_eq_true rfl) rfl ?_
        exact ⟨rfl, H12⟩
      · refine st_condf hb16 rfl ?_
        refine st_skip ?_
        refine n_sq ?_
        refine st_seq ?_
        refine st_seq ?_
        refine st_region ?_
        refine r_pure (.int .i64 x_) rfl ?_
        refine r_pure (.int .i64 y_) rfl ?_
        refine r_pure (.bool (decide (x_ > y_))) rfl ?_
        refine r_seq ?_
        rcases ite_some hm with ⟨hb17, hm⟩ | ⟨hb17, hm⟩
        · refine st_condt hb17 rfl ?_
          refine st_seq ?_
          refine st_region ?_
          refine r_pure (.int .i64 1) rfl ?_
          refine r_seq ?_
          have hq_ := Option.some.inj hm
          subst hq_
          refine st_ret1 rfl rfl (Nat.le_of_ble_eq_true rfl) rfl ?_
          exact ⟨rfl, H12⟩
        · refine st_condf hb17 rfl ?_
          refine st_skip ?_
          refine n_sq ?_
          refine st_seq ?_
          refine st_region ?_
          refine r_pure (.int .i64 0) rfl ?_
          refine r_seq ?_
          have hq_ := Option.some.inj hm
          subst hq_
          refine st_ret1 rfl rfl (Nat.le_of_ble_eq_true rfl) rfl ?_
          exact ⟨rfl, H12⟩

set_option maxHeartbeats 2000000 in
theorem cmp_Or_int_ok {w0 w : World} {Γ : List (World → Prop)} (vals : List Int) (A1 : Option Addr) (n6 c2 : Nat) (hn5 : n6 = vals.length) (hc3 : vals.length ≤ c2) (hv4 : ∀ u, Hp w0 Γ u → SlR K3 A1 vals u) (r0_ : Int) (H : Hp w0 (Γ) w) (hm : cmp_Or_int vals = some r0_) : Calls Try.prog 49 #[.slice A1 n6 c2] w (fun e w => e = .returned (.int .i64 r0_) ∧ Hp w0 (Γ) w) := by
  subst hn5
  unfold cmp_Or_int at hm
  refine st_enter Try.func49 rfl Try.ntmps49 (Nat.le_of_ble_eq_true rfl) ?_
  refine st_seq ?_
  refine st_region ?_
  refine r_pure (.int .i64 0) rfl ?_
  refine r_seq ?_
  refine st_seq ?_
  refine st_region ?_
  refine r_pure (.int .i64 0) rfl ?_
  refine r_seq ?_
  refine st_seq ?_
  refine st_seq ?_
  refine st_region ?_
  refine r_pure (.slice A1 vals.length c2) rfl ?_
  refine r_len Try.underlying29 rfl ?_
  refine r_pure (.int .i64 0) rfl ?_
  refine r_seq ?_
  refine st_block ?_
  have hlim26 := (hv4 _ H).lim
  obtain ⟨tl9, hl10, hm8⟩ := bind_some hm
  refine st_loopL (cmp_Or_int.l1) (fun ys15 s ρ w => ∃ i11 : Int, ∃ dn12 : List Int, i11 = s ∧ vals = dn12 ++ ys15 ∧ i11 = (dn12.length : Int) ∧ (∃ base, ρ = updl base [(3, .int .i64 0), (6, .slice A1 vals.length c2), (7, .int .i64 (vals.length : Int)), (8, .int .i64 i11)]) ∧ Hp w0 (Γ) w) hl10 ⟨0, [], rfl, rfl, rfl, upk (ac rfl (ac rfl (ac rfl (ac rfl an)))), H⟩ ?_
  rintro m ys15 IH19 s ρ w ⟨i11, dn12, rfl, hxs13, hi14, ⟨base, rfl⟩, H7⟩ hm
  rcases ys15 with _ | ⟨y16, ys15⟩
  · rw [cmp_Or_int.l1] at hm
    have hb20 := range_end hxs13 hi14
    refine st_seq ?_
    refine st_region ?_
    refine r_pure (.bool (decide (i11 < (vals.length : Int)))) rfl ?_
    refine r_seq ?_
    refine st_seq ?_
    refine st_condf hb20 rfl ?_
    have hq_ := Option.some.inj hm
    refine st_exit rfl ?_
    subst hq_
    refine n_sq ?_
    refine st_seq ?_
    refine st_region ?_
    refine r_pure (.int .i64 0) rfl ?_
    refine r_pure (.int .i64 0) rfl ?_
    refine r_seq ?_
    have hq_ := Option.some.inj hm8
    subst hq_
    refine st_ret1 rfl rfl (Nat.le_of_ble_eq_true rfl) rfl ?_
    exact ⟨rfl, H7⟩
  · rw [cmp_Or_int.l1] at hm
    have hb21 := range_in hxs13 hi14
    obtain ⟨h022, h123, hj24⟩ := range_ix hxs13 hi14
    have hnx25 := range_next hxs13 hi14 hlim26
    refine st_seq ?_
    refine st_region ?_
    refine r_pure (.bool (decide (i11 < (vals.length : Int)))) rfl ?_
    refine r_seq ?_
    refine st_seq ?_
    refine st_condt hb21 rfl ?_
    refine st_skip ?_
    refine n_sq ?_
    refine st_seq ?_
    refine st_block ?_
    refine st_seq ?_
    refine st_region ?_
    have hA27 := (hv4 _ H7).adO hj24
    refine r_ix IX29 rfl rfl hA27 h022 h123 ?_
    refine r_ld1 (.int .i64 y16) LD3 rfl ((hv4 _ H7).c0A hA27 hj24 _ rfl) ?_
    refine r_pure (.int .i64 y16) rfl ?_
    refine r_seq ?_
    refine st_seq ?_
    refine st_region ?_
    refine r_pure (.int .i64 y16) rfl ?_
    refine r_pure (.int .i64 0) rfl ?_
    refine r_pure (.bool (y16 != 0)) rfl ?_
    refine r_seq ?_
    rcases ite_some hm with ⟨hb28, hm⟩ | ⟨hb28, hm⟩
    · refine st_condt hb28 rfl ?_
      refine st_seq ?_
      refine st_region ?_
      refine r_pure (.int .i64 y16) rfl ?_
      refine r_pure (.int .i64 y16) rfl ?_
      refine r_seq ?_
      have hq_ := Option.some.inj hm
      subst hq_
      have hq_ := Option.some.inj (show some (y16 : Int) = some r0_ from hm8)
      subst hq_
      refine st_ret1 rfl rfl (Nat.le_of_ble_eq_true rfl) rfl ?_
      exact ⟨rfl, H7⟩
    · refine st_condf hb28 rfl ?_
      refine st_skip ?_
      refine n_bl ?_
      refine n_sq ?_
      refine st_region ?_
      refine r_pure (.int .i64 (w64 (i11 + 1))) rfl ?_
      refine r_pure (.int .i64 (w64 (i11 + 1))) rfl ?_
      refine r_nil ?_
      refine n_round (IH19 _ _ rfl _ _ _ ⟨i11 + 1, dn12 ++ [y16], rfl, range_more hxs13, range_len hi14, upk (ac rfl (ac rfl (ac rfl (ac hnx25 an)))), H7⟩ hm)

set_option maxHeartbeats 2000000 in
theorem bucket_Register_Rows_c1_ok {w0 w : World} {Γ : List (World → Prop)} (a_ : api_Bucket) (b_ : api_Bucket) (r0_ : Int) (H : Hp w0 (Γ) w) (hm : bucket_Register_Rows_c1 a_ b_ = some r0_) : Calls Try.prog 59 #[.agg #[.int .i64 a_.Class, .int .i64 a_.Year, .int .i64 a_.Amount], .agg #[.int .i64 b_.Class, .int .i64 b_.Year, .int .i64 b_.Amount]] w (fun e w => e = .returned (.int .i64 r0_) ∧ Hp w0 (Γ) w) := by
  unfold bucket_Register_Rows_c1 at hm
  refine st_enter Try.func59 rfl Try.ntmps59 (Nat.le_of_ble_eq_true rfl) ?_
  refine st_seq ?_
  refine st_region ?_
  refine r_box [.int .i64 a_.Class, .int .i64 a_.Year, .int .i64 a_.Amount] H rfl ?_
  intro b1 wd3 H2
  refine r_box [.int .i64 b_.Class, .int .i64 b_.Year, .int .i64 b_.Amount] H2 rfl ?_
  intro b4 wd6 H5
  refine r_pure (.int .i64 0) rfl ?_
  refine r_seq ?_
  refine st_seq ?_
  obtain ⟨y8, hy9, hm⟩ := bind_some hm
  obtain ⟨y14, hy15, hm⟩ := bind_some hm
  obtain ⟨y23, hy24, hm⟩ := bind_some hm
  refine Flow.run' [[], [0], [], [2], [0, 1, 2, 3], [], [5], [], [7], [0, 1, 2, 3, 4, 5, 6, 7, 8], [0, 1, 2, 3, 4, 5, 6, 7, 8, 9], [0, 1, 2, 3, 4, 5, 6, 7, 8, 9, 10], [0, 1, 2, 3, 4, 5, 6, 7, 8, 9, 10, 11]] [(5, 0), (6, 1), (7, 2), (8, 3), (9, 4), (10, 5), (11, 6), (12, 7), (13, 8), (14, 9), (15, 10), (16, 11), (4, 12)] [(fun η7 v => v.1 = .pointer (some ⟨b1, 0, none⟩)), (fun η7 v => v.1 = .int .i64 a_.Class), (fun η7 v => v.1 = .pointer (some ⟨b4, 0, none⟩)), (fun η7 v => v.1 = .int .i64 b_.Class), (fun η7 v => v.1 = .int .i64 y8), (fun η7 v => v.1 = .pointer (some ⟨b1, 1, none⟩)), (fun η7 v => v.1 = .int .i64 a_.Year), (fun η7 v => v.1 = .pointer (some ⟨b4, 1, none⟩)), (fun η7 v => v.1 = .int .i64 b_.Year), (fun η7 v => v.1 = .int .i64 y14), (fun η7 v => v.1 = .slice (some ⟨(oA (vA (v.1))).block, 0, none⟩) 2 2), (fun η7 v => v.1 = .int .i64 y23), (fun η7 v => v.1 = .int .i64 y23)] [⟨(some 10), none, fun η7 => Row K3 (.slice (some ⟨(oA (vA ((η7 10).1))).block, 0, none⟩) 2 2) [y8, y14]⟩] rfl (by kernel_rfl) (by kernel_rfl) H5 ⟨?_, ?_, ?_, ?_, ?_, ?_, ?_, ?_, ?_, ?_, ?_, ?_, ?_, trivial⟩ ?_
  · intro η7 wd32 Δ33 hE29 hR30 H31
    have H31 : Hp w0 ((Δ33 ++ (Bx b4 54 [.int .i64 b_.Class, .int .i64 b_.Year, .int .i64 b_.Amount] :: Bx b1 54 [.int .i64 a_.Class, .int .i64 a_.Year, .int .i64 a_.Amount] :: Γ))) wd32 := H31
    refine sp_op [(2, .pointer (some ⟨b1, 0, none⟩))] (ac rfl an) ?_
    refine r_fa FA54_0 ⟨b1, 0, none⟩ rfl rfl ?_
    exact r_nil (n_lp ⟨_, rfl, undef, rfl, H31⟩)
  · intro η7 wd37 Δ38 hE34 hR35 H36
    have H36 : Hp w0 ((Δ38 ++ (Bx b4 54 [.int .i64 b_.Class, .int .i64 b_.Year, .int .i64 b_.Amount] :: Bx b1 54 [.int .i64 a_.Class, .int .i64 a_.Year, .int .i64 a_.Amount] :: Γ))) wd37 := H36
    refine sp_op [(5, .pointer (some ⟨b1, 0, none⟩))] (ac (hE34 0 (by decide)) an) ?_
    refine r_ld1 (.int .i64 a_.Class) LD3 rfl (((H36).tl.g1).cell _ rfl) ?_
    exact r_nil (n_lp ⟨_, rfl, undef, rfl, H36⟩)
  · intro η7 wd42 Δ43 hE39 hR40 H41
    have H41 : Hp w0 ((Δ43 ++ (Bx b4 54 [.int .i64 b_.Class, .int .i64 b_.Year, .int .i64 b_.Amount] :: Bx b1 54 [.int .i64 a_.Class, .int .i64 a_.Year, .int .i64 a_.Amount] :: Γ))) wd42 := H41
    refine sp_op [(3, .pointer (some ⟨b4, 0, none⟩))] (ac rfl an) ?_
    refine r_fa FA54_0 ⟨b4, 0, none⟩ rfl rfl ?_
    exact r_nil (n_lp ⟨_, rfl, undef, rfl, H41⟩)
  · intro η7 wd47 Δ48 hE44 hR45 H46
    have H46 : Hp w0 ((Δ48 ++ (Bx b4 54 [.int .i64 b_.Class, .int .i64 b_.Year, .int .i64 b_.Amount] :: Bx b1 54 [.int .i64 a_.Class, .int .i64 a_.Year, .int .i64 a_.Amount] :: Γ))) wd47 := H46
    refine sp_op [(7, .pointer (some ⟨b4, 0, none⟩))] (ac (hE44 2 (by decide)) an) ?_
    refine r_ld1 (.int .i64 b_.Class) LD3 rfl (((H46).tl.g0).cell _ rfl) ?_
    exact r_nil (n_lp ⟨_, rfl, undef, rfl, H46⟩)
  · intro η7 wd52 Δ53 hE49 hR50 H51
    have H51 : Hp w0 ((Δ53 ++ (Bx b4 54 [.int .i64 b_.Class, .int .i64 b_.Year, .int .i64 b_.Amount] :: Bx b1 54 [.int .i64 a_.Class, .int .i64 a_.Year, .int .i64 a_.Amount] :: Γ))) wd52 := H51
    refine sp_op [(6, .int .i64 a_.Class), (8, .int .i64 b_.Class)] (ac (hE49 1 (by decide)) (ac (hE49 3 (by decide)) an)) ?_
    refine r_callf Try.call50 (cmp_Compare_int_ok a_.Class b_.Class y8 H51 hy9) ?_
    rintro e57 wd56 ⟨rfl, H59⟩
    refine ⟨_, rfl, ?_⟩
    exact r_nil (n_lp ⟨_, rfl, undef, rfl, H59⟩)
  · intro η7 wd63 Δ64 hE60 hR61 H62
    have H62 : Hp w0 ((Δ64 ++ (Bx b4 54 [.int .i64 b_.Class, .int .i64 b_.Year, .int .i64 b_.Amount] :: Bx b1 54 [.int .i64 a_.Class, .int .i64 a_.Year, .int .i64 a_.Amount] :: Γ))) wd63 := H62
    refine sp_op [(2, .pointer (some ⟨b1, 0, none⟩))] (ac rfl an) ?_
    refine r_fa FA54_1 ⟨b1, 1, none⟩ rfl rfl ?_
    exact r_nil (n_lp ⟨_, rfl, undef, rfl, H62⟩)
  · intro η7 wd68 Δ69 hE65 hR66 H67
    have H67 : Hp w0 ((Δ69 ++ (Bx b4 54 [.int .i64 b_.Class, .int .i64 b_.Year, .int .i64 b_.Amount] :: Bx b1 54 [.int .i64 a_.Class, .int .i64 a_.Year, .int .i64 a_.Amount] :: Γ))) wd68 := H67
    refine sp_op [(10, .pointer (some ⟨b1, 1, none⟩))] (ac (hE65 5 (by decide)) an) ?_
    refine r_ld1 (.int .i64 a_.Year) LD3 rfl (((H67).tl.g1).cell _ rfl) ?_
    exact r_nil (n_lp ⟨_, rfl, undef, rfl, H67⟩)
  · intro η7 wd73 Δ74 hE70 hR71 H72
    have H72 : Hp w0 ((Δ74 ++ (Bx b4 54 [.int .i64 b_.Class, .int .i64 b_.Year, .int .i64 b_.Amount] :: Bx b1 54 [.int .i64 a_.Class, .int .i64 a_.Year, .int .i64 a_.Amount] :: Γ))) wd73 := H72
    refine sp_op [(3, .pointer (some ⟨b4, 0, none⟩))] (ac rfl an) ?_
    refine r_fa FA54_1 ⟨b4, 1, none⟩ rfl rfl ?_
    exact r_nil (n_lp ⟨_, rfl, undef, rfl, H72⟩)
  · intro η7 wd78 Δ79 hE75 hR76 H77
    have H77 : Hp w0 ((Δ79 ++ (Bx b4 54 [.int .i64 b_.Class, .int .i64 b_.Year, .int .i64 b_.Amount] :: Bx b1 54 [.int .i64 a_.Class, .int .i64 a_.Year, .int .i64 a_.Amount] :: Γ))) wd78 := H77
    refine sp_op [(12, .pointer (some ⟨b4, 1, none⟩))] (ac (hE75 7 (by decide)) an) ?_
    refine r_ld1 (.int .i64 b_.Year) LD3 rfl (((H77).tl.g0).cell _ rfl) ?_
    exact r_nil (n_lp ⟨_, rfl, undef, rfl, H77⟩)
  · intro η7 wd83 Δ84 hE80 hR81 H82
    have H82 : Hp w0 ((Δ84 ++ (Bx b4 54 [.int .i64 b_.Class, .int .i64 b_.Year, .int .i64 b_.Amount] :: Bx b1 54 [.int .i64 a_.Class, .int .i64 a_.Year, .int .i64 a_.Amount] :: Γ))) wd83 := H82
    refine sp_op [(11, .int .i64 a_.Year), (13, .int .i64 b_.Year)] (ac (hE80 6 (by decide)) (ac (hE80 8 (by decide)) an)) ?_
    refine r_callf Try.call50 (cmp_Compare_int_ok a_.Year b_.Year y14 H82 hy15) ?_
    rintro e88 wd87 ⟨rfl, H90⟩
    refine ⟨_, rfl, ?_⟩
    exact r_nil (n_lp ⟨_, rfl, undef, rfl, H90⟩)
  · intro η7 wd94 Δ95 hE91 hR92 H93
    have H93 : Hp w0 ((Δ95 ++ (Bx b4 54 [.int .i64 b_.Class, .int .i64 b_.Year, .int .i64 b_.Amount] :: Bx b1 54 [.int .i64 a_.Class, .int .i64 a_.Year, .int .i64 a_.Amount] :: Γ))) wd94 := H93
    refine sp_op [(9, .int .i64 y8), (14, .int .i64 y14)] (ac (hE91 4 (by decide)) (ac (hE91 9 (by decide)) an)) ?_
    refine r_buildSlice (K := K3) [y8, y14] EL29 rfl rfl rfl (by decide) (by decide) rfl H93 ?_
    intro b96 wd98 H97
    exact r_nil (n_lp ⟨_, rfl, (.tuple #[.slice (some ⟨b96, 0, none⟩) 2 2]), rfl, H97⟩)
  · intro η7 wd102 Δ103 hE99 hR100 H101
    have H101 : Hp w0 ((Δ103 ++ (Bx b4 54 [.int .i64 b_.Class, .int .i64 b_.Year, .int .i64 b_.Amount] :: Bx b1 54 [.int .i64 a_.Class, .int .i64 a_.Year, .int .i64 a_.Amount] :: Γ))) wd102 := H101
    refine sp_op [(15, .slice (some ⟨(oA (vA ((η7 10).1))).block, 0, none⟩) 2 2)] (ac (hE99 10 (by decide)) an) ?_
    refine r_callf Try.call49 (cmp_Or_int_ok [y8, y14] (some ⟨(oA (vA ((η7 10).1))).block, 0, none⟩) 2 2 rfl (((show (Row K3 (.slice (some ⟨(oA (vA ((η7 10).1))).block, 0, none⟩) 2 2) [y8, y14]) _ from ((H101)).memr (hR100 _ (List.mem_of_getElem? (i := 0) rfl) rfl))).cap) (fun _ H => ((show (Row K3 (.slice (some ⟨(oA (vA ((η7 10).1))).block, 0, none⟩) 2 2) [y8, y14]) _ from (H).memr (hR100 _ (List.mem_of_getElem? (i := 0) rfl) rfl)).rd)) y23 H101 hy24) ?_
    rintro e107 wd106 ⟨rfl, H109⟩
    refine ⟨_, rfl, ?_⟩
    exact r_nil (n_lp ⟨_, rfl, undef, rfl, H109⟩)
  · intro η7 wd113 Δ114 hE110 hR111 H112
    have H112 : Hp w0 ((Δ114 ++ (Bx b4 54 [.int .i64 b_.Class, .int .i64 b_.Year, .int .i64 b_.Amount] :: Bx b1 54 [.int .i64 a_.Class, .int .i64 a_.Year, .int .i64 a_.Amount] :: Γ))) wd113 := H112
    refine sp_op [(16, .int .i64 y23)] (ac (hE110 11 (by decide)) an) ?_
    refine r_pure (.int .i64 y23) rfl ?_
    exact r_nil (n_lp ⟨_, rfl, undef, rfl, H112⟩)
  · intro η7 wd116 hV117 H115
    have H118 : Hp w0 (Row K3 (.slice (some ⟨(oA (vA ((η7 10).1))).block, 0, none⟩) 2 2) [y8, y14] :: Bx b4 54 [.int .i64 b_.Class, .int .i64 b_.Year, .int .i64 b_.Amount] :: Bx b1 54 [.int .i64 a_.Class, .int .i64 a_.Year, .int .i64 a_.Amount] :: Γ) wd116 := H115
    refine n_frame [(4, .int .i64 y23)] (ac (hV117 12 rfl) an) ?_
    refine n_sq ?_
    have hq_ := Option.some.inj hm
    subst hq_
    refine st_ret1 rfl rfl (Nat.le_of_ble_eq_true rfl) rfl ?_
    exact ⟨rfl, H118.d.d.d⟩

set_option maxHeartbeats 2000000 in
theorem bucket_Register_Rows_ok {w0 w : World} {Γ : List (World → Prop)} (b1 : Nat) (r_ : bucket_Register) (A2 : Option Addr) (n7 c3 : Nat) (hn6 : n7 = r_.f_l.length) (hc4 : r_.f_l.length ≤ c3) (hv5 : ∀ u, Hp w0 Γ u → SlR K54 A2 r_.f_l u) (hv8 : ∀ u, Hp w0 Γ u → Bx b1 89 [.slice A2 n7 c3] u) (r0_ : List api_Bucket) (H : Hp w0 (Γ) w) (hm : bucket_Register_Rows r_ = some r0_) : Calls Try.prog 28 #[.pointer (some ⟨b1, 0, none⟩)] w (fun e w => ∃ (Ax1 : Option Addr) (nx2 cx3 : Nat), e = .returned (.slice Ax1 nx2 cx3) ∧ Hp w0 (Row K54 (.slice Ax1 nx2 cx3) r0_ :: Γ) w) := by
  subst hn6
  unfold bucket_Register_Rows at hm
  refine st_enter Try.func28 rfl Try.ntmps28 (Nat.le_of_ble_eq_true rfl) ?_
  refine st_seq ?_
  refine st_region ?_
  refine r_pure (.slice none 0 0) rfl ?_
  refine r_seq ?_
  refine st_seq ?_
  refine st_region ?_
  refine r_pure (.pointer (some ⟨b1, 0, none⟩)) rfl ?_
  refine r_pure (.pointer (some ⟨b1, 0, none⟩)) rfl ?_
  refine r_fa FA89_0 ⟨b1, 0, none⟩ rfl rfl ?_
  refine r_ld1 (.slice A2 r_.f_l.length c3) LD51 rfl ((hv8 _ H).cell _ rfl) ?_
  obtain ⟨y9, hy10, hm⟩ := bind_some hm
  refine r_callf Try.call57 (slices_Clone_api_Bucket_ok r_.f_l A2 r_.f_l.length c3 rfl hc4 (fun _ H => (hv5 _ H)) y9 H hy10) ?_
  rintro e12 wd11 ⟨A15, n16, c17, rfl, H14⟩
  obtain rfl := (H14.g0).leneq
  refine ⟨_, rfl, ?_⟩
  refine r_pure (.slice A15 y9.length c17) rfl ?_
  refine r_seq ?_
  refine st_seq ?_
  refine st_region ?_
  refine r_pure (.slice A15 y9.length c17) rfl ?_
  obtain ⟨y18, hy19, hm⟩ := bind_some hm
  refine r_callf Try.call58 (slices_SortFunc_api_Bucket_ok y9 A15 y9.length c17 (.func (.func 59) #[] #[]) (fun x => bucket_Register_Rows_c1 x.1 x.2) ⟨59, [], rfl, Try.call59, fun x y hy Δ w H hΔ => bucket_Register_Rows_c1_ok x.1 x.2 y H hy⟩ y18 H14 hy19) ?_
  rintro e21 wd20 ⟨rfl, H23⟩
  refine ⟨_, rfl, ?_⟩
  refine r_seq ?_
  refine st_seq ?_
  refine st_region ?_
  refine r_pure (.slice A15 y9.length c17) rfl ?_
  refine r_pure (.slice A15 y9.length c17) rfl ?_
  refine r_seq ?_
  have hq_ := Option.some.inj hm
  subst hq_
  refine st_ret1 rfl rfl (Nat.le_of_ble_eq_true rfl) rfl ?_
  exact ⟨A15, y9.length, c17, rfl, H23⟩


end Go.Proofs.Ytcmhekibcbpajaa
