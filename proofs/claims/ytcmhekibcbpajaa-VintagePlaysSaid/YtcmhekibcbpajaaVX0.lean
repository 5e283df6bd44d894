/- The Go functions come to their models: printed by gen.py. -/
import Derived.Test.YtcmhekibcbpajaaVT
set_option linter.unusedVariables false
set_option linter.unusedSimpArgs false
set_option maxRecDepth 100000
namespace Go.Proofs.Ytcmhekibcbpajaa
open Go Go.RowKit
attribute [local irreducible] W R N L Hp Row SlR Bx

set_option maxHeartbeats 2000000 in
theorem vintage_New_ok {w0 w : World} {Γ : List (World → Prop)}  (r0_ : vintage_Losses) (H : Hp w0 (Γ) w) (hm : vintage_New = some r0_) : Calls Try.prog 8 #[] w (fun e w => ∃ (bx1 : Nat), ∃ (Ax2 : Option Addr) (nx3 cx4 : Nat), e = .returned (.pointer (some ⟨bx1, 0, none⟩)) ∧ Hp w0 (Bx bx1 75 [.slice Ax2 nx3 cx4] :: Row K38 (.slice Ax2 nx3 cx4) r0_.f_l :: Γ) w) := by
  unfold vintage_New at hm
  refine st_enter Try.func8 rfl Try.ntmps8 (Nat.le_of_ble_eq_true rfl) ?_
  refine st_seq ?_
  refine st_region ?_
  refine r_pure (.pointer none) rfl ?_
  refine r_seq ?_
  refine st_seq ?_
  refine st_region ?_
  refine r_build [.slice none 0 0] FL75 rfl ?_
  refine r_box [.slice none 0 0] H rfl ?_
  intro b1 wd3 H2
  refine r_pure (.pointer (some ⟨b1, 0, none⟩)) rfl ?_
  refine r_seq ?_
  have H4 := H2.add (A := Row K38 (.slice none 0 0) []) Row.nil
  have hq_ := Option.some.inj hm
  subst hq_
  refine st_ret1 rfl rfl (Nat.le_of_ble_eq_true rfl) rfl ?_
  exact ⟨b1, none, 0, 0, rfl, H4.u1⟩

set_option maxHeartbeats 2000000 in
theorem scutagekeep_Within_ok {w0 w : World} {Γ : List (World → Prop)} (v_ : Int) (n_ : Int) (r0_ : Int) (H : Hp w0 (Γ) w) (hm : scutagekeep_Within v_ n_ = some r0_) : Calls Try.prog 9 #[.int .i64 v_, .int .i64 n_] w (fun e w => e = .returned (.int .i64 r0_) ∧ Hp w0 (Γ) w) := by
  unfold scutagekeep_Within at hm
  refine st_enter Try.func9 rfl Try.ntmps9 (Nat.le_of_ble_eq_true rfl) ?_
  refine st_seq ?_
  refine st_region ?_
  refine r_pure (.int .i64 0) rfl ?_
  refine r_seq ?_
  refine st_seq ?_
  refine st_seq ?_
  refine st_region ?_
  refine r_pure (.int .i64 n_) rfl ?_
  refine r_pure (.bool (decide (n_ < 1))) rfl ?_
  refine r_seq ?_
  rcases ite_some hm with ⟨hb1, hm⟩ | ⟨hb1, hm⟩
  · refine st_condt hb1 rfl ?_
    refine st_seq ?_
    refine st_region ?_
    refine r_pure (.int .i64 0) rfl ?_
    refine r_seq ?_
    have hq_ := Option.some.inj hm
    subst hq_
    refine st_ret1 rfl rfl (Nat.le_of_ble_eq_true rfl) rfl ?_
    exact ⟨rfl, H⟩
  · refine st_condf hb1 rfl ?_
    refine st_skip ?_
    refine n_sq ?_
    refine st_seq ?_
    refine st_region ?_
    refine r_pure (.int .i64 v_) rfl ?_
    refine r_pure (.int .i64 n_) rfl ?_
    obtain ⟨h2, hm⟩ := gd_some hm
    refine r_rem h2 rfl rfl ?_
    refine r_pure (.int .i64 (Int.tmod v_ n_)) rfl ?_
    refine r_seq ?_
    refine st_cut (fun ρ w => ∃ v3 : Int, (∃ base, ρ = updl base [(5, .int .i64 v3)]) ∧ Hp w0 (Γ) w ∧ scutagekeep_Within.j1 v3 = some r0_) ?_ ?_
    · refine st_seq ?_
      refine st_region ?_
      refine r_pure (.int .i64 (Int.tmod v_ n_)) rfl ?_
      refine r_pure (.bool (decide (Int.tmod v_ n_ < 0))) rfl ?_
      refine r_seq ?_
      rcases ite_some hm with ⟨hb5, hm⟩ | ⟨hb5, hm⟩
      · refine st_condt hb5 rfl ?_
        refine st_region ?_
        refine r_pure (.int .i64 (Int.tmod v_ n_)) rfl ?_
        refine r_pure (.int .i64 n_) rfl ?_
        refine r_pure (.int .i64 (w64 (Int.tmod v_ n_ + n_))) rfl ?_
        refine r_pure (.int .i64 (w64 (Int.tmod v_ n_ + n_))) rfl ?_
        refine r_nil ?_
        refine n_cut ⟨w64 (Int.tmod v_ n_ + n_), upk (ac rfl an), H, hm⟩
      · refine st_condf hb5 rfl ?_
        refine st_skip ?_
        refine n_cut ⟨Int.tmod v_ n_, upk (ac rfl an), H, hm⟩
    · rintro ρ w ⟨v3, ⟨base, rfl⟩, H4, hm⟩
      unfold scutagekeep_Within.j1 at hm
      refine st_seq ?_
      refine st_region ?_
      refine r_pure (.int .i64 v3) rfl ?_
      refine r_pure (.int .i64 v3) rfl ?_
      refine r_seq ?_
      have hq_ := Option.some.inj hm
      subst hq_
      refine st_ret1 rfl rfl (Nat.le_of_ble_eq_true rfl) rfl ?_
      exact ⟨rfl, H4⟩

set_option maxHeartbeats 2000000 in
theorem scutageplay_Amount_ok {w0 w : World} {Γ : List (World → Prop)} (n_ : Int) (r0_ : Int) (H : Hp w0 (Γ) w) (hm : scutageplay_Amount n_ = some r0_) : Calls Try.prog 10 #[.int .i64 n_] w (fun e w => e = .returned (.int .i64 r0_) ∧ Hp w0 (Γ) w) := by
  unfold scutageplay_Amount at hm
  refine st_enter Try.func10 rfl Try.ntmps10 (Nat.le_of_ble_eq_true rfl) ?_
  refine st_seq ?_
  refine st_region ?_
  refine r_pure (.int .i64 0) rfl ?_
  refine r_seq ?_
  refine st_seq ?_
  refine st_seq ?_
  refine st_region ?_
  refine r_pure (.int .i64 n_) rfl ?_
  refine r_rem (by decide) rfl rfl ?_
  refine r_seq ?_
  refine st_block ?_
  refine st_seq ?_
  refine st_region ?_
  refine r_pure (.bool (Int.tmod n_ 23 == 20)) rfl ?_
  refine r_pure (.bool (Int.tmod n_ 23 == 20)) rfl ?_
  refine r_seq ?_
  rcases ite_some hm with ⟨hb1, hm⟩ | ⟨hb1, hm⟩
  · refine st_condt hb1 rfl ?_
    refine st_seq ?_
    refine st_region ?_
    refine r_pure (.int .i64 n_) rfl ?_
    refine r_quo (by decide) rfl rfl ?_
    obtain ⟨y2, hy3, hm⟩ := bind_some hm
    refine r_callf Try.call9 (scutagekeep_Within_ok (w64 (Int.tdiv n_ 23)) 5 y2 H hy3) ?_
    rintro e5 wd4 ⟨rfl, H7⟩
    refine ⟨_, rfl, ?_⟩
    refine r_pure (.int .i64 (w64 (100000000000 - y2))) rfl ?_
    refine r_pure (.int .i64 (w64 (w64 (100000000000 - y2) + 2))) rfl ?_
    refine r_pure (.int .i64 (w64 (w64 (100000000000 - y2) + 2))) rfl ?_
    refine r_seq ?_
    have hq_ := Option.some.inj hm
    subst hq_
    refine st_ret1 rfl rfl (Nat.le_of_ble_eq_true rfl) rfl ?_
    exact ⟨rfl, H7⟩
  · refine st_condf hb1 rfl ?_
    refine st_seq ?_
    refine st_region ?_
    refine r_pure (.bool (Int.tmod n_ 23 == 21)) rfl ?_
    refine r_pure (.bool (Int.tmod n_ 23 == 21)) rfl ?_
    refine r_seq ?_
    rcases ite_some hm with ⟨hb8, hm⟩ | ⟨hb8, hm⟩
    · refine st_condt hb8 rfl ?_
      refine st_seq ?_
      refine st_region ?_
      refine r_pure (.int .i64 n_) rfl ?_
      refine r_quo (by decide) rfl rfl ?_
      obtain ⟨y9, hy10, hm⟩ := bind_some hm
      refine r_callf Try.call9 (scutagekeep_Within_ok (w64 (Int.tdiv n_ 23)) 5 y9 H hy10) ?_
      rintro e12 wd11 ⟨rfl, H14⟩
      refine ⟨_, rfl, ?_⟩
      refine r_pure (.int .i64 (w64 ((-100000000000) + y9))) rfl ?_
      refine r_pure (.int .i64 (w64 (w64 ((-100000000000) + y9) - 2))) rfl ?_
      refine r_pure (.int .i64 (w64 (w64 ((-100000000000) + y9) - 2))) rfl ?_
      refine r_seq ?_
      have hq_ := Option.some.inj hm
      subst hq_
      refine st_ret1 rfl rfl (Nat.le_of_ble_eq_true rfl) rfl ?_
      exact ⟨rfl, H14⟩
    · refine st_condf hb8 rfl ?_
      refine st_seq ?_
      refine st_region ?_
      refine r_pure (.bool (Int.tmod n_ 23 == 22)) rfl ?_
      refine r_pure (.bool (Int.tmod n_ 23 == 22)) rfl ?_
      refine r_seq ?_
      rcases ite_some hm with ⟨hb15, hm⟩ | ⟨hb15, hm⟩
      · refine st_condt hb15 rfl ?_
        refine st_seq ?_
        refine st_region ?_
        refine r_pure (.int .i64 n_) rfl ?_
        refine r_pure (.int .i64 n_) rfl ?_
        refine r_seq ?_
        have hq_ := Option.some.inj hm
        subst hq_
        refine st_ret1 rfl rfl (Nat.le_of_ble_eq_true rfl) rfl ?_
        exact ⟨rfl, H⟩
      · refine st_condf hb15 rfl ?_
        refine st_seq ?_
        refine st_region ?_
        refine r_pure (.bool (Int.tmod n_ 23 == 19)) rfl ?_
        refine r_pure (.bool (Int.tmod n_ 23 == 19)) rfl ?_
        refine r_seq ?_
        rcases ite_some hm with ⟨hb16, hm⟩ | ⟨hb16, hm⟩
        · refine st_condt hb16 rfl ?_
          refine st_seq ?_
          refine st_region ?_
          refine r_pure (.int .i64 n_) rfl ?_
          refine r_quo (by decide) rfl rfl ?_
          obtain ⟨y17, hy18, hm⟩ := bind_some hm
          refine r_callf Try.call9 (scutagekeep_Within_ok (w64 (Int.tdiv n_ 23)) 200000000001 y17 H hy18) ?_
          rintro e20 wd19 ⟨rfl, H22⟩
          refine ⟨_, rfl, ?_⟩
          refine r_pure (.int .i64 (w64 (y17 - 100000000000))) rfl ?_
          refine r_pure (.int .i64 (w64 (y17 - 100000000000))) rfl ?_
          refine r_seq ?_
          have hq_ := Option.some.inj hm
          subst hq_
          refine st_ret1 rfl rfl (Nat.le_of_ble_eq_true rfl) rfl ?_
          exact ⟨rfl, H22⟩
        · refine st_condf hb16 rfl ?_
          refine st_skip ?_
          refine n_bl ?_
          refine n_sq ?_
          refine st_seq ?_
          refine st_region ?_
          refine r_pure (.int .i64 n_) rfl ?_
          obtain ⟨y23, hy24, hm⟩ := bind_some hm
          refine r_callf Try.call9 (scutagekeep_Within_ok n_ 4001 y23 H hy24) ?_
          rintro e26 wd25 ⟨rfl, H28⟩
          refine ⟨_, rfl, ?_⟩
          refine r_pure (.int .i64 (w64 (y23 - 2000))) rfl ?_
          refine r_pure (.int .i64 (w64 (y23 - 2000))) rfl ?_
          refine r_seq ?_
          have hq_ := Option.some.inj hm
          subst hq_
          refine st_ret1 rfl rfl (Nat.le_of_ble_eq_true rfl) rfl ?_
          exact ⟨rfl, H28⟩

set_option maxHeartbeats 2000000 in
theorem slices_IndexFunc_api_Vintage_ok {w0 w : World} {Γ : List (World → Prop)} (s_ : List api_Vintage) (A1 : Option Addr) (n6 c2 : Nat) (hn5 : n6 = s_.length) (hc3 : s_.length ≤ c2) (hv4 : ∀ u, Hp w0 Γ u → SlR K38 A1 s_ u) (fv7 : Value) (f_ : api_Vintage → Option Bool) (hp8 : FnOk Try.prog w0 Γ fv7 (fun x => [.agg #[.int .i64 x.Origin, .int .i64 x.Expiry, .int .i64 x.Left]]) (fun r => .bool r) f_) (r0_ : Int) (H : Hp w0 (Γ) w) (hm : slices_IndexFunc_api_Vintage s_ f_ = some r0_) : Calls Try.prog 43 #[.slice A1 n6 c2, fv7] w (fun e w => e = .returned (.int .i64 r0_) ∧ Hp w0 (Γ) w) := by
  subst hn5
  obtain ⟨gf9, gcap10, rfl, ge11, gp12⟩ := hp8
  unfold slices_IndexFunc_api_Vintage at hm
  refine st_enter Try.func43 rfl Try.ntmps43 (Nat.le_of_ble_eq_true rfl) ?_
  refine st_seq ?_
  refine st_region ?_
  refine r_pure (.int .i64 0) rfl ?_
  refine r_seq ?_
  refine st_seq ?_
  refine st_seq ?_
  refine st_region ?_
  refine r_pure (.slice A1 s_.length c2) rfl ?_
  refine r_len Try.underlying26 rfl ?_
  refine r_pure (.int .i64 0) rfl ?_
  refine r_seq ?_
  refine st_block ?_
  have hlim32 := (hv4 _ H).lim
  obtain ⟨tl15, hl16, hm14⟩ := bind_some hm
  refine st_loopL (slices_IndexFunc_api_Vintage.l1 f_) (fun ys21 s ρ w => ∃ i17 : Int, ∃ dn18 : List api_Vintage, i17 = s ∧ s_ = dn18 ++ ys21 ∧ i17 = (dn18.length : Int) ∧ (∃ base, ρ = updl base [(0, .slice A1 s_.length c2), (1, .func (.func gf9) #[] (List.toArray gcap10)), (7, .int .i64 (s_.length : Int)), (8, .int .i64 i17)]) ∧ Hp w0 (Γ) w) hl16 ⟨0, [], rfl, rfl, rfl, upk (ac rfl (ac rfl (ac rfl (ac rfl an)))), H⟩ ?_
  rintro m ys21 IH25 s ρ w ⟨i17, dn18, rfl, hxs19, hi20, ⟨base, rfl⟩, H13⟩ hm
  rcases ys21 with _ | ⟨y22, ys21⟩
  · rw [slices_IndexFunc_api_Vintage.l1] at hm
    have hb26 := range_end hxs19 hi20
    refine st_seq ?_
    refine st_region ?_
    refine r_pure (.bool (decide (i17 < (s_.length : Int)))) rfl ?_
    refine r_seq ?_
    refine st_seq ?_
    refine st_condf hb26 rfl ?_
    have hq_ := Option.some.inj hm
    refine st_exit rfl ?_
    subst hq_
    refine n_sq ?_
    refine st_seq ?_
    refine st_region ?_
    refine r_pure (.int .i64 (-1)) rfl ?_
    refine r_seq ?_
    have hq_ := Option.some.inj hm14
    subst hq_
    refine st_ret1 rfl rfl (Nat.le_of_ble_eq_true rfl) rfl ?_
    exact ⟨rfl, H13⟩
  · rw [slices_IndexFunc_api_Vintage.l1] at hm
    have hb27 := range_in hxs19 hi20
    obtain ⟨h028, h129, hj30⟩ := range_ix hxs19 hi20
    have hnx31 := range_next hxs19 hi20 hlim32
    refine st_seq ?_
    refine st_region ?_
    refine r_pure (.bool (decide (i17 < (s_.length : Int)))) rfl ?_
    refine r_seq ?_
    refine st_seq ?_
    refine st_condt hb27 rfl ?_
    refine st_skip ?_
    refine n_sq ?_
    refine st_seq ?_
    refine st_block ?_
    refine st_seq ?_
    refine st_region ?_
    refine r_pure (.int .i64 i17) rfl ?_
    refine r_pure (.int .i64 i17) rfl ?_
    refine r_seq ?_
    refine st_seq ?_
    refine st_region ?_
    refine r_pure (.func (.func gf9) #[] (List.toArray gcap10)) rfl ?_
    refine r_pure (.slice A1 s_.length c2) rfl ?_
    refine r_pure (.int .i64 i17) rfl ?_
    have hA33 := (hv4 _ H13).adO hj30
    refine r_ix IX26 rfl rfl hA33 h028 h129 ?_
    refine r_ldA [.int .i64 y22.Origin, .int .i64 y22.Expiry, .int .i64 y22.Left] LD38 rfl rfl ((hv4 _ H13).csA hA33 hj30) ?_
    obtain ⟨y34, hy35, hm⟩ := bind_some hm
    refine r_callv rfl ge11 (gp12 _ _ hy35 _ _ H13 (fun _ H => H)) ?_
    rintro e38 wd37 ⟨rfl, H36⟩
    refine ⟨_, rfl, ?_⟩
    refine r_seq ?_
    rcases ite_some hm with ⟨hb39, hm⟩ | ⟨hb39, hm⟩
    · refine st_condt hb39 rfl ?_
      refine st_seq ?_
      refine st_region ?_
      refine r_pure (.int .i64 i17) rfl ?_
      refine r_pure (.int .i64 i17) rfl ?_
      refine r_seq ?_
      have hq_ := Option.some.inj hm
      subst hq_
      have hq_ := Option.some.inj (show some (i17 : Int) = some r0_ from hm14)
      subst hq_
      refine st_ret1 rfl rfl (Nat.le_of_ble_eq_true rfl) rfl ?_
      exact ⟨rfl, H36⟩
    · refine st_condf hb39 rfl ?_
      refine st_skip ?_
      refine n_bl ?_
      refine n_sq ?_
      refine st_region ?_
      refine r_pure (.int .i64 (w64 (i17 + 1))) rfl ?_
      refine r_pure (.int .i64 (w64 (i17 + 1))) rfl ?_
      refine r_nil ?_
      refine n_round (IH25 _ _ rfl _ _ _ ⟨i17 + 1, dn18 ++ [y22], rfl, range_more hxs19, range_len hi20, upk (ac rfl (ac rfl (ac rfl (ac hnx31 an)))), H36⟩ hm)

set_option maxHeartbeats 2000000 in
theorem vintage_Losses_Add_c1_ok {w0 w : World} {Γ : List (World → Prop)} (v_ : api_Vintage) (b2 : Nat) (cap1 : Int) (hv3 : ∀ u, Hp w0 Γ u → Bx b2 3 [.int .i64 cap1] u) (b5 : Nat) (cap4 : Int) (hv6 : ∀ u, Hp w0 Γ u → Bx b5 3 [.int .i64 cap4] u) (r0_ : Bool) (H : Hp w0 (Γ) w) (hm : vintage_Losses_Add_c1 v_ cap1 cap4 = some r0_) : Calls Try.prog 44 #[.agg #[.int .i64 v_.Origin, .int .i64 v_.Expiry, .int .i64 v_.Left], .pointer (some ⟨b2, 0, none⟩), .pointer (some ⟨b5, 0, none⟩)] w (fun e w => e = .returned (.bool r0_) ∧ Hp w0 (Γ) w) := by
  unfold vintage_Losses_Add_c1 at hm
  refine st_enter Try.func44 rfl Try.ntmps44 (Nat.le_of_ble_eq_true rfl) ?_
  refine st_seq ?_
  refine st_region ?_
  refine r_box [.int .i64 v_.Origin, .int .i64 v_.Expiry, .int .i64 v_.Left] H rfl ?_
  intro b7 wd9 H8
  refine r_pure (.bool false) rfl ?_
  refine r_seq ?_
  refine st_cut (fun ρ w => ∃ q10 : Bool, (∃ base, ρ = updl base [(4, .bool q10)]) ∧ Hp w0 (Γ) w ∧ vintage_Losses_Add_c1.j1 q10 = some r0_) ?_ ?_
  · refine st_region ?_
    refine r_fa FA38_0 ⟨b7, 0, none⟩ rfl rfl ?_
    refine r_ld1 (.int .i64 v_.Origin) LD3 rfl ((H8.g0).cell _ rfl) ?_
    refine r_ld1 (.int .i64 cap1) LD3 rfl ((hv3 _ H8.d).cell _ rfl) ?_
    refine r_pure (.bool (v_.Origin == cap1)) rfl ?_
    refine r_pure (.bool (v_.Origin == cap1)) rfl ?_
    rcases ite_some hm with ⟨hb12, hm⟩ | ⟨hb12, hm⟩
    · refine r_fa FA38_1 ⟨b7, 1, none⟩ rfl rfl ?_ (wn_t rfl rfl (by decide) rfl hb12)
      refine r_ld1 (.int .i64 v_.Expiry) LD3 rfl ((H8.g0).cell _ rfl) ?_ (wn_t rfl rfl (by decide) rfl hb12)
      refine r_ld1 (.int .i64 cap4) LD3 rfl ((hv6 _ H8.d).cell _ rfl) ?_ (wn_t rfl rfl (by decide) rfl hb12)
      refine r_pure (.bool (v_.Expiry == cap4)) rfl ?_ (wn_t rfl rfl (by decide) rfl hb12)
      refine r_pick_t (.bool (v_.Expiry == cap4)) hb12 rfl rfl ?_
      refine r_pure (.bool (v_.Expiry == cap4)) rfl ?_
      refine r_nil ?_
      refine n_cut ⟨v_.Expiry == cap4, upk (ac rfl an), H8.d, hm⟩
    · refine r_not (wn_f rfl rfl (by decide) rfl hb12) ?_
      refine r_not (wn_f rfl rfl (by decide) rfl hb12) ?_
      refine r_not (wn_f rfl rfl (by decide) rfl hb12) ?_
      refine r_not (wn_f rfl rfl (by decide) rfl hb12) ?_
      refine r_pick_f (.bool false) hb12 rfl rfl ?_
      refine r_pure (.bool false) rfl ?_
      refine r_nil ?_
      refine n_cut ⟨false, upk (ac rfl an), H8.d, hm⟩
  · rintro ρ w ⟨q10, ⟨base, rfl⟩, H11, hm⟩
    unfold vintage_Losses_Add_c1.j1 at hm
    have hq_ := Option.some.inj hm
    subst hq_
    refine st_ret1 rfl rfl (Nat.le_of_ble_eq_true rfl) rfl ?_
    exact ⟨rfl, H11⟩

set_option maxHeartbeats 2000000 in
theorem vintage_right_ok {w0 w : World} {Γ : List (World → Prop)} (origin : Int) (expiry : Int) (r0_ : Bool) (H : Hp w0 (Γ) w) (hm : vintage_right origin expiry = some r0_) : Calls Try.prog 45 #[.int .i64 origin, .int .i64 expiry] w (fun e w => e = .returned (.bool r0_) ∧ Hp w0 (Γ) w) := by
  unfold vintage_right at hm
  refine st_enter Try.func45 rfl Try.ntmps45 (Nat.le_of_ble_eq_true rfl) ?_
  refine st_seq ?_
  refine st_region ?_
  refine r_pure (.bool false) rfl ?_
  refine r_seq ?_
  refine st_cut (fun ρ w => ∃ q1 : Bool, (∃ base, ρ = updl base [(4, .bool q1)]) ∧ Hp w0 (Γ) w ∧ vintage_right.j1 q1 = some r0_) ?_ ?_
  · refine st_region ?_
    refine r_pure (.int .i64 origin) rfl ?_
    refine r_pure (.bool (decide (origin ≥ 0))) rfl ?_
    refine r_pure (.bool (decide (origin ≥ 0))) rfl ?_
    rcases ite_some hm with ⟨hb3, hm⟩ | ⟨hb3, hm⟩
    · refine r_pure (.int .i64 origin) rfl ?_ (wn_t rfl rfl (by decide) rfl hb3)
      refine r_pure (.bool (decide (origin ≤ 99))) rfl ?_ (wn_t rfl rfl (by decide) rfl hb3)
      refine r_pick_t (.bool (decide (origin ≤ 99))) hb3 rfl rfl ?_
      refine r_pure (.bool (decide (origin ≤ 99))) rfl ?_
      rcases ite_some hm with ⟨hb4, hm⟩ | ⟨hb4, hm⟩
      · refine r_pure (.int .i64 expiry) rfl ?_ (wn_t rfl rfl (by decide) rfl hb4)
        refine r_pure (.int .i64 origin) rfl ?_ (wn_t rfl rfl (by decide) rfl hb4)
        refine r_pure (.bool (decide (expiry ≥ origin))) rfl ?_ (wn_t rfl rfl (by decide) rfl hb4)
        refine r_pick_t (.bool (decide (expiry ≥ origin))) hb4 rfl rfl ?_
        refine r_pure (.bool (decide (expiry ≥ origin))) rfl ?_
        rcases ite_some hm with ⟨hb5, hm⟩ | ⟨hb5, hm⟩
        · refine r_pure (.int .i64 expiry) rfl ?_ (wn_t rfl rfl (by decide) rfl hb5)
          refine r_pure (.bool (decide (expiry ≤ 198))) rfl ?_ (wn_t rfl rfl (by decide) rfl hb5)
          refine r_pick_t (.bool (decide (expiry ≤ 198))) hb5 rfl rfl ?_
          refine r_pure (.bool (decide (expiry ≤ 198))) rfl ?_
          refine r_nil ?_
          refine n_cut ⟨decide (expiry ≤ 198), upk (ac rfl an), H, hm⟩
        · refine r_not (wn_f rfl rfl (by decide) rfl hb5) ?_
          refine r_not (wn_f rfl rfl (by decide) rfl hb5) ?_
          refine r_pick_f (.bool false) hb5 rfl rfl ?_
          refine r_pure (.bool false) rfl ?_
          refine r_nil ?_
          refine n_cut ⟨false, upk (ac rfl an), H, hm⟩
      · refine r_not (wn_f rfl rfl (by decide) rfl hb4) ?_
        refine r_not (wn_f rfl rfl (by decide) rfl hb4) ?_
        refine r_not (wn_f rfl rfl (by decide) rfl hb4) ?_
        refine r_pick_f (.bool false) hb4 rfl rfl ?_
        refine r_pure (.bool false) rfl ?_
        refine r_not (wn_f rfl rfl (by decide) rfl rfl) ?_
        refine r_not (wn_f rfl rfl (by decide) rfl rfl) ?_
        refine r_pick_f (.bool false) rfl rfl rfl ?_
        refine r_pure (.bool false) rfl ?_
        refine r_nil ?_
        refine n_cut ⟨false, upk (ac rfl an), H, hm⟩
    · refine r_not (wn_f rfl rfl (by decide) rfl hb3) ?_
      refine r_not (wn_f rfl rfl (by decide) rfl hb3) ?_
      refine r_pick_f (.bool false) hb3 rfl rfl ?_
      refine r_pure (.bool false) rfl ?_
      refine r_not (wn_f rfl rfl (by decide) rfl rfl) ?_
      refine r_not (wn_f rfl rfl (by decide) rfl rfl) ?_
      refine r_not (wn_f rfl rfl (by decide) rfl rfl) ?_
      refine r_pick_f (.bool false) rfl rfl rfl ?_
      refine r_pure (.bool false) rfl ?_
      refine r_not (wn_f rfl rfl (by decide) rfl rfl) ?_
      refine r_not (wn_f rfl rfl (by decide) rfl rfl) ?_
      refine r_pick_f (.bool false) rfl rfl rfl ?_
      refine r_pure (.bool false) rfl ?_
      refine r_nil ?_
      refine n_cut ⟨false, upk (ac rfl an), H, hm⟩
  · rintro ρ w ⟨q1, ⟨base, rfl⟩, H2, hm⟩
    unfold vintage_right.j1 at hm
    have hq_ := Option.some.inj hm
    subst hq_
    refine st_ret1 rfl rfl (Nat.le_of_ble_eq_true rfl) rfl ?_
    exact ⟨rfl, H2⟩

set_option maxHeartbeats 2000000 in
theorem rate_Money_ok {w0 w : World} {Γ : List (World → Prop)} (n_ : Int) (r0_ : Bool) (H : Hp w0 (Γ) w) (hm : rate_Money n_ = some r0_) : Calls Try.prog 46 #[.int .i64 n_] w (fun e w => e = .returned (.bool r0_) ∧ Hp w0 (Γ) w) := by
  unfold rate_Money at hm
  refine st_enter Try.func46 rfl Try.ntmps46 (Nat.le_of_ble_eq_true rfl) ?_
  refine st_seq ?_
  refine st_region ?_
  refine r_pure (.bool false) rfl ?_
  refine r_seq ?_
  refine st_cut (fun ρ w => ∃ q1 : Bool, (∃ base, ρ = updl base [(2, .bool q1)]) ∧ Hp w0 (Γ) w ∧ rate_Money.j1 q1 = some r0_) ?_ ?_
  · refine st_region ?_
    refine r_pure (.int .i64 n_) rfl ?_
    refine r_pure (.bool (decide (n_ ≥ (-100000000000)))) rfl ?_
    refine r_pure (.bool (decide (n_ ≥ (-100000000000)))) rfl ?_
    rcases ite_some hm with ⟨hb3, hm⟩ | ⟨hb3, hm⟩
    · refine r_pure (.int .i64 n_) rfl ?_ (wn_t rfl rfl (by decide) rfl hb3)
      refine r_pure (.bool (decide (n_ ≤ 100000000000))) rfl ?_ (wn_t rfl rfl (by decide) rfl hb3)
      refine r_pick_t (.bool (decide (n_ ≤ 100000000000))) hb3 rfl rfl ?_
      refine r_pure (.bool (decide (n_ ≤ 100000000000))) rfl ?_
      refine r_nil ?_
      refine n_cut ⟨decide (n_ ≤ 100000000000), upk (ac rfl an), H, hm⟩
    · refine r_not (wn_f rfl rfl (by decide) rfl hb3) ?_
      refine r_not (wn_f rfl rfl (by decide) rfl hb3) ?_
      refine r_pick_f (.bool false) hb3 rfl rfl ?_
      refine r_pure (.bool false) rfl ?_
      refine r_nil ?_
      refine n_cut ⟨false, upk (ac rfl an), H, hm⟩
  · rintro ρ w ⟨q1, ⟨base, rfl⟩, H2, hm⟩
    unfold rate_Money.j1 at hm
    have hq_ := Option.some.inj hm
    subst hq_
    refine st_ret1 rfl rfl (Nat.le_of_ble_eq_true rfl) rfl ?_
    exact ⟨rfl, H2⟩

set_option maxHeartbeats 2000000 in
theorem vintage_Losses_Left_ok {w0 w : World} {Γ : List (World → Prop)} (b1 : Nat) (l_ : vintage_Losses) (A2 : Option Addr) (n7 c3 : Nat) (hn6 : n7 = l_.f_l.length) (hc4 : l_.f_l.length ≤ c3) (hv5 : ∀ u, Hp w0 Γ u → SlR K38 A2 l_.f_l u) (hv8 : ∀ u, Hp w0 Γ u → Bx b1 75 [.slice A2 n7 c3] u) (r0_ : Int) (H : Hp w0 (Γ) w) (hm : vintage_Losses_Left l_ = some r0_) : Calls Try.prog 23 #[.pointer (some ⟨b1, 0, none⟩)] w (fun e w => e = .returned (.int .i64 r0_) ∧ Hp w0 (Γ) w) := by
  subst hn6
  unfold vintage_Losses_Left at hm
  refine st_enter Try.func23 rfl Try.ntmps23 (Nat.le_of_ble_eq_true rfl) ?_
  refine st_seq ?_
  refine st_region ?_
  refine r_pure (.int .i64 0) rfl ?_
  refine r_seq ?_
  refine st_seq ?_
  refine st_region ?_
  refine r_pure (.int .i64 0) rfl ?_
  refine r_seq ?_
  refine st_seq ?_
  refine st_seq ?_
  refine st_region ?_
  refine r_pure (.pointer (some ⟨b1, 0, none⟩)) rfl ?_
  refine r_pure (.pointer (some ⟨b1, 0, none⟩)) rfl ?_
  refine r_fa FA75_0 ⟨b1, 0, none⟩ rfl rfl ?_
  refine r_ld1 (.slice A2 l_.f_l.length c3) LD26 rfl ((hv8 _ H).cell _ rfl) ?_
  refine r_len Try.underlying26 rfl ?_
  refine r_pure (.int .i64 0) rfl ?_
  refine r_seq ?_
  refine st_block ?_
  have hlim30 := (hv5 _ H).lim
  obtain ⟨tl13, hl14, hm12⟩ := bind_some hm
  refine st_loopL (vintage_Losses_Left.l1) (fun ys19 s ρ w => ∃ i15 : Int, ∃ v10 : Int, ∃ dn16 : List api_Vintage, (i15, v10) = s ∧ l_.f_l = dn16 ++ ys19 ∧ i15 = (dn16.length : Int) ∧ (∃ base, ρ = updl base [(3, .int .i64 v10), (9, .slice A2 l_.f_l.length c3), (10, .int .i64 (l_.f_l.length : Int)), (11, .int .i64 i15)]) ∧ Hp w0 (Γ) w) hl14 ⟨0, 0, [], rfl, rfl, rfl, upk (ac rfl (ac rfl (ac rfl (ac rfl an)))), H⟩ ?_
  rintro m ys19 IH23 s ρ w ⟨i15, v10, dn16, rfl, hxs17, hi18, ⟨base, rfl⟩, H11⟩ hm
  rcases ys19 with _ | ⟨y20, ys19⟩
  · rw [vintage_Losses_Left.l1] at hm
    have hb24 := range_end hxs17 hi18
    refine st_seq ?_
    refine st_region ?_
    refine r_pure (.bool (decide (i15 < (l_.f_l.length : Int)))) rfl ?_
    refine r_seq ?_
    refine st_seq ?_
    refine st_condf hb24 rfl ?_
    have hq_ := Option.some.inj hm
    refine st_exit rfl ?_
    subst hq_
    refine n_sq ?_
    refine st_seq ?_
    refine st_region ?_
    refine r_pure (.int .i64 v10) rfl ?_
    refine r_pure (.int .i64 v10) rfl ?_
    refine r_seq ?_
    have hq_ := Option.some.inj hm12
    subst hq_
    refine st_ret1 rfl rfl (Nat.le_of_ble_eq_true rfl) rfl ?_
    exact ⟨rfl, H11⟩
  · rw [vintage_Losses_Left.l1] at hm
    have hb25 := range_in hxs17 hi18
    obtain ⟨h026, h127, hj28⟩ := range_ix hxs17 hi18
    have hnx29 := range_next hxs17 hi18 hlim30
    refine st_seq ?_
    refine st_region ?_
    refine r_pure (.bool (decide (i15 < (l_.f_l.length : Int)))) rfl ?_
    refine r_seq ?_
    refine st_seq ?_
    refine st_condt hb25 rfl ?_
    refine st_skip ?_
    refine n_sq ?_
    refine st_seq ?_
    refine st_block ?_
    refine st_seq ?_
    refine st_region ?_
    have hA31 := (hv5 _ H11).adO hj28
    refine r_ix IX26 rfl rfl hA31 h026 h127 ?_
    refine r_ldA [.int .i64 y20.Origin, .int .i64 y20.Expiry, .int .i64 y20.Left] LD38 rfl rfl ((hv5 _ H11).csA hA31 hj28) ?_
    refine r_alloc [.int .i64 0, .int .i64 0, .int .i64 0] Try.zeroValue38 H11 rfl ?_
    intro b32 wd34 H33
    refine r_stA [.int .i64 y20.Origin, .int .i64 y20.Expiry, .int .i64 y20.Left] LD38 rfl rfl rfl rfl H33 (Nat.le_of_ble_eq_true rfl) rfl ?_
    intro wd36 H35
    refine r_seq ?_
    refine st_region ?_
    refine r_pure (.int .i64 v10) rfl ?_
    refine r_fa FA38_2 ⟨b32, 2, none⟩ rfl rfl ?_
    refine r_ld1 (.int .i64 y20.Left) LD3 rfl ((H35.g0).cell _ rfl) ?_
    refine r_pure (.int .i64 (w64 (v10 + y20.Left))) rfl ?_
    refine r_pure (.int .i64 (w64 (v10 + y20.Left))) rfl ?_
    refine r_nil ?_
    refine n_bl ?_
    refine n_sq ?_
    refine st_region ?_
    refine r_pure (.int .i64 (w64 (i15 + 1))) rfl ?_
    refine r_pure (.int .i64 (w64 (i15 + 1))) rfl ?_
    refine r_nil ?_
    refine n_round (IH23 _ _ rfl _ _ _ ⟨i15 + 1, w64 (v10 + y20.Left), dn16 ++ [y20], rfl, range_more hxs17, range_len hi18, upk (ac rfl (ac rfl (ac rfl (ac hnx29 an)))), H35.d⟩ hm)

set_option maxHeartbeats 2000000 in
theorem math_bits_Len64_ok {w0 w : World} {Γ : List (World → Prop)} (x_ : Int) (r0_ : Int) (H : Hp w0 (Γ) w) (hm : math_bits_Len64 x_ = some r0_) : Calls Try.prog 106 #[.int .u64 x_] w (fun e w => e = .returned (.int .i64 r0_) ∧ Hp w0 (Γ) w) := by
  unfold math_bits_Len64 at hm
  refine st_enter Try.func106 rfl Try.ntmps106 (Nat.le_of_ble_eq_true rfl) ?_
  refine st_seq ?_
  refine st_region ?_
  refine r_pure (.int .i64 0) rfl ?_
  refine r_seq ?_
  refine st_seq ?_
  refine st_seq ?_
  refine st_region ?_
  refine r_pure (.int .u64 x_) rfl ?_
  refine r_pure (.bool (decide (x_ ≥ 4294967296))) rfl ?_
  refine r_seq ?_
  rcases ite_some hm with ⟨hb1, hm⟩ | ⟨hb1, hm⟩
  · cases hm
  · refine st_condf hb1 rfl ?_
    refine st_skip ?_
    refine n_sq ?_
    refine st_seq ?_
    refine st_seq ?_
    refine st_region ?_
    refine r_pure (.int .u64 x_) rfl ?_
    refine r_pure (.bool (decide (x_ ≥ 65536))) rfl ?_
    refine r_seq ?_
    rcases ite_some hm with ⟨hb2, hm⟩ | ⟨hb2, hm⟩
    · cases hm
    · refine st_condf hb2 rfl ?_
      refine st_skip ?_
      refine n_sq ?_
      refine st_seq ?_
      refine st_seq ?_
      refine st_region ?_
      refine r_pure (.int .u64 x_) rfl ?_
      refine r_pure (.bool (decide (x_ ≥ 256))) rfl ?_
      refine r_seq ?_
      rcases ite_some hm with ⟨hb3, hm⟩ | ⟨hb3, hm⟩
      · cases hm
      · refine st_condf hb3 rfl ?_
        refine st_skip ?_
        refine n_sq ?_
        refine st_seq ?_
        refine st_region ?_
        refine r_pure (.int .i64 0) rfl ?_
        refine r_pure (.int .u64 x_) rfl ?_
        refine r_conv Try.underlying119 Try.underlying5 rfl ?_
        obtain ⟨h4, hm⟩ := gd_some hm
        refine r_byte Try.underlying9 rfl rfl h4 ?_
        refine r_conv Try.underlying5 Try.underlying3 rfl ?_
        refine r_pure (.int .i64 (w64 (0 + w64 (byteAt (⟨#[0, 1, 2, 2, 3, 3, 3, 3, 4, 4, 4, 4, 4, 4, 4, 4, 5, 5, 5, 5, 5, 5, 5, 5, 5, 5, 5, 5, 5, 5, 5, 5, 6, 6, 6, 6, 6, 6, 6, 6, 6, 6, 6, 6, 6, 6, 6, 6, 6, 6, 6, 6, 6, 6, 6, 6, 6, 6, 6, 6, 6, 6, 6, 6, 7, 7, 7, 7, 7, 7, 7, 7, 7, 7, 7, 7, 7, 7, 7, 7, 7, 7, 7, 7, 7, 7, 7, 7, 7, 7, 7, 7, 7, 7, 7, 7, 7, 7, 7, 7, 7, 7, 7, 7, 7, 7, 7, 7, 7, 7, 7, 7, 7, 7, 7, 7, 7, 7, 7, 7, 7, 7, 7, 7, 7, 7, 7, 7, 8, 8, 8, 8, 8, 8, 8, 8, 8, 8, 8, 8, 8, 8, 8, 8, 8, 8, 8, 8, 8, 8, 8, 8, 8, 8, 8, 8, 8, 8, 8, 8, 8, 8, 8, 8, 8, 8, 8, 8, 8, 8, 8, 8, 8, 8, 8, 8, 8, 8, 8, 8, 8, 8, 8, 8, 8, 8, 8, 8, 8, 8, 8, 8, 8, 8, 8, 8, 8, 8, 8, 8, 8, 8, 8, 8, 8, 8, 8, 8, 8, 8, 8, 8, 8, 8, 8, 8, 8, 8, 8, 8, 8, 8, 8, 8, 8, 8, 8, 8, 8, 8, 8, 8, 8, 8, 8, 8, 8, 8, 8, 8, 8, 8, 8, 8, 8, 8, 8, 8, 8, 8, 8, 8, 8, 8, 8, 8]⟩ : ByteArray) (IntKind.u8.wrap x_))))) rfl ?_
        refine r_pure (.int .i64 (w64 (0 + w64 (byteAt (⟨#[0, 1, 2, 2, 3, 3, 3, 3, 4, 4, 4, 4, 4, 4, 4, 4, 5, 5, 5, 5, 5, 5, 5, 5, 5, 5, 5, 5, 5, 5, 5, 5, 6, 6, 6, 6, 6, 6, 6, 6, 6, 6, 6, 6, 6, 6, 6, 6, 6, 6, 6, 6, 6, 6, 6, 6, 6, 6, 6, 6, 6, 6, 6, 6, 7, 7, 7, 7, 7, 7, 7, 7, 7, 7, 7, 7, 7, 7, 7, 7, 7, 7, 7, 7, 7, 7, 7, 7, 7, 7, 7, 7, 7, 7, 7, 7, 7, 7, 7, 7, 7, 7, 7, 7, 7, 7, 7, 7, 7, 7, 7, 7, 7, 7, 7, 7, 7, 7, 7, 7, 7, 7, 7, 7, 7, 7, 7, 7, 8, 8, 8, 8, 8, 8, 8, 8, 8, 8, 8, 8, 8, 8, 8, 8, 8, 8, 8, 8, 8, 8, 8, 8, 8, 8, 8, 8, 8, 8, 8, 8, 8, 8, 8, 8, 8, 8, 8, 8, 8, 8, 8, 8, 8, 8, 8, 8, 8, 8, 8, 8, 8, 8, 8, 8, 8, 8, 8, 8, 8, 8, 8, 8, 8, 8, 8, 8, 8, 8, 8, 8, 8, 8, 8, 8, 8, 8, 8, 8, 8, 8, 8, 8, 8, 8, 8, 8, 8, 8, 8, 8, 8, 8, 8, 8, 8, 8, 8, 8, 8, 8, 8, 8, 8, 8, 8, 8, 8, 8, 8, 8, 8, 8, 8, 8, 8, 8, 8, 8, 8, 8, 8, 8, 8, 8, 8, 8]⟩ : ByteArray) (IntKind.u8.wrap x_))))) rfl ?_
        refine r_seq ?_
        have hq_ := Option.some.inj hm
        subst hq_
        refine st_ret1 rfl rfl (Nat.le_of_ble_eq_true rfl) rfl ?_
        exact ⟨rfl, H⟩

set_option maxHeartbeats 2000000 in
theorem math_bits_Len_ok {w0 w : World} {Γ : List (World → Prop)} (x_ : Int) (r0_ : Int) (H : Hp w0 (Γ) w) (hm : math_bits_Len x_ = some r0_) : Calls Try.prog 80 #[.int .u64 x_] w (fun e w => e = .returned (.int .i64 r0_) ∧ Hp w0 (Γ) w) := by
  unfold math_bits_Len at hm
  refine st_enter Try.func80 rfl Try.ntmps80 (Nat.le_of_ble_eq_true rfl) ?_
  refine st_seq ?_
  refine st_region ?_
  refine r_pure (.int .i64 0) rfl ?_
  refine r_seq ?_
  refine st_seq ?_
  refine st_condf rfl rfl ?_
  refine st_skip ?_
  refine n_sq ?_
  refine st_seq ?_
  refine st_region ?_
  refine r_pure (.int .u64 x_) rfl ?_
  obtain ⟨y1, hy2, hm⟩ := bind_some hm
  refine r_callf Try.call106 (math_bits_Len64_ok x_ y1 H hy2) ?_
  rintro e4 wd3 ⟨rfl, H6⟩
  refine ⟨_, rfl, ?_⟩
  refine r_pure (.int .i64 y1) rfl ?_
  refine r_seq ?_
  have hq_ := Option.some.inj hm
  subst hq_
  refine st_ret1 rfl rfl (Nat.le_of_ble_eq_true rfl) rfl ?_
  exact ⟨rfl, H6⟩

set_option maxHeartbeats 2000000 in
theorem slices_insertionSortCmpFunc_api_Vintage_ok {w0 w : World} {Γ : List (World → Prop)} (data : List api_Vintage) (A1 : Option Addr) (n3 c2 : Nat) (a_ : Int) (b_ : Int) (fv4 : Value) (cmp : (api_Vintage × api_Vintage) → Option Int) (hp5 : FnOk Try.prog w0 Γ fv4 (fun x => [.agg #[.int .i64 x.1.Origin, .int .i64 x.1.Expiry, .int .i64 x.1.Left], .agg #[.int .i64 x.2.Origin, .int .i64 x.2.Expiry, .int .i64 x.2.Left]]) (fun r => .int .i64 r) cmp) (r0_ : List api_Vintage) (H : Hp w0 (Row K38 (.slice A1 n3 c2) data :: Γ) w) (hm : slices_insertionSortCmpFunc_api_Vintage data a_ b_ cmp = some r0_) : Calls Try.prog 97 #[.slice A1 n3 c2, .int .i64 a_, .int .i64 b_, fv4] w (fun e w => e = .returned (.tuple #[]) ∧ Hp w0 (Row K38 (.slice A1 n3 c2) r0_ :: Γ) w) := by
  obtain ⟨gf6, gcap7, rfl, ge8, gp9⟩ := hp5
  obtain rfl := (H.g0).leneq
  unfold slices_insertionSortCmpFunc_api_Vintage at hm
  refine st_enter Try.func97 rfl Try.ntmps97 (Nat.le_of_ble_eq_true rfl) ?_
  refine st_seq ?_
  refine st_region ?_
  refine r_pure (.int .i64 a_) rfl ?_
  refine r_pure (.int .i64 (w64 (a_ + 1))) rfl ?_
  refine r_pure (.int .i64 (w64 (a_ + 1))) rfl ?_
  refine r_seq ?_
  refine st_block ?_
  obtain ⟨tl16, hl17, hm15⟩ := bind_some hm
  refine st_loopF (slices_insertionSortCmpFunc_api_Vintage.l1 b_ a_ cmp) (fun s ρ w => ∃ xs12 : List api_Vintage, ∃ v13 : Int, (xs12, v13) = s ∧ (∃ base, ρ = updl base [(0, .slice A1 data.length c2), (1, .int .i64 a_), (2, .int .i64 b_), (3, .func (.func gf6) #[] (List.toArray gcap7)), (8, .int .i64 v13)]) ∧ Hp w0 (Row K38 (.slice A1 data.length c2) xs12 :: Γ) w) hl17 (fun _ => rfl) ⟨data, w64 (a_ + 1), rfl, upk (ac rfl (ac rfl (ac rfl (ac rfl (ac rfl an))))), H⟩ ?_
  rintro fuel23 IH25 s ρ w ⟨xs12, v13, rfl, ⟨base, rfl⟩, H14⟩ hm
  rw [slices_insertionSortCmpFunc_api_Vintage.l1] at hm
  refine st_seq ?_
  refine st_seq ?_
  refine st_region ?_
  refine r_pure (.int .i64 v13) rfl ?_
  refine r_pure (.int .i64 b_) rfl ?_
  refine r_pure (.bool (decide (v13 < b_))) rfl ?_
  refine r_seq ?_
  rcases ite_some hm with ⟨hb26, hm⟩ | ⟨hb26, hm⟩
  · refine st_condt hb26 rfl ?_
    refine st_skip ?_
    refine n_sq ?_
    refine st_seq ?_
    refine st_block ?_
    refine st_seq ?_
    refine st_region ?_
    refine r_pure (.int .i64 v13) rfl ?_
    refine r_pure (.int .i64 v13) rfl ?_
    refine r_seq ?_
    refine st_block ?_
    obtain ⟨tl33, hl34, hm32⟩ := bind_some hm
    refine st_loopF (slices_insertionSortCmpFunc_api_Vintage.l2 a_ cmp) (fun s ρ w => ∃ xs29 : List api_Vintage, ∃ v30 : Int, (xs29, v30) = s ∧ (∃ base, ρ = updl base [(0, .slice A1 data.length c2), (1, .int .i64 a_), (2, .int .i64 b_), (3, .func (.func gf6) #[] (List.toArray gcap7)), (8, .int .i64 v13), (9, .int .i64 v30)]) ∧ Hp w0 (Row K38 (.slice A1 data.length c2) xs29 :: Γ) w) hl34 (fun _ => rfl) ⟨xs12, v13, rfl, upk (ac rfl (ac rfl (ac rfl (ac rfl (ac rfl (ac rfl an)))))), H14⟩ ?_
    rintro fuel40 IH42 s ρ w ⟨xs29, v30, rfl, ⟨base, rfl⟩, H31⟩ hm
    rw [slices_insertionSortCmpFunc_api_Vintage.l2] at hm
    refine st_seq ?_
    refine st_cut (fun ρ w => ∃ q43 : Bool, (∃ base, ρ = updl base [(0, .slice A1 data.length c2), (1, .int .i64 a_), (2, .int .i64 b_), (3, .func (.func gf6) #[] (List.toArray gcap7)), (8, .int .i64 v13), (9, .int .i64 v30), (34, .bool q43)]) ∧ Hp w0 (Row K38 (.slice A1 data.length c2) xs29 :: Γ) w ∧ slices_insertionSortCmpFunc_api_Vintage.j1 v30 xs29 (slices_insertionSortCmpFunc_api_Vintage.l2 a_ cmp fuel40) q43 = some tl33) ?_ ?_
    · rcases ite_some hm with ⟨hb177, hm⟩ | ⟨hb177, hm⟩
      · obtain ⟨⟨h0178, h1179⟩, hm⟩ := gd_some hm
        have hj180 := rd_get h0178 h1179
        obtain ⟨⟨h0182, h1183⟩, hm⟩ := gd_some hm
        have hj184 := rd_get h0182 h1183
        obtain ⟨y185, hy186, hm⟩ := bind_some hm
        refine Flow.run' [[], [], [0, 1], [0, 1, 2], [0, 1, 2, 3], [0, 1, 2, 3], [0, 1, 2, 3], [0, 1, 2, 3, 5, 6], [0, 1, 2, 3, 5, 6, 7], [0, 1, 2, 3], [0, 1, 2, 3], [0, 1, 2, 3, 10], [0, 1, 2, 3, 9, 10, 11], [0, 1, 2, 3, 9, 10, 11, 12], [0, 1, 2, 3, 4, 5, 6, 7, 8, 9, 10, 11, 12, 13], [0, 1, 2, 3, 4, 5, 6, 7, 8, 9, 10, 11, 12, 13, 14], [0, 1, 2, 3, 4, 5, 6, 7, 8, 9, 10, 11, 12, 13, 14, 15]] [(18, 0), (19, 1), (20, 2), (21, 3), (22, 4), (23, 5), (24, 6), (25, 7), (26, 8), (27, 9), (28, 10), (29, 11), (30, 12), (31, 13), (32, 14), (33, 15), (34, 16)] [(fun η176 v => v.1 = .int .i64 v30), (fun η176 v => v.1 = .int .i64 a_), (fun η176 v => v.1 = .bool (decide (v30 > a_))), (fun η176 v => v.1 = .bool (decide (v30 > a_))), (fun η176 v => v.1 = .func (.func gf6) #[] (List.toArray gcap7)), (fun η176 v => v.1 = .slice A1 data.length c2), (fun η176 v => v.1 = .int .i64 v30), (fun η176 v => v.1 = .pointer (some ((oA A1).add (Int.toNat v30 * 3)))), (fun η176 v => v.1 = .agg #[.int .i64 ((rd xs29 v30).Origin), .int .i64 ((rd xs29 v30).Expiry), .int .i64 ((rd xs29 v30).Left)]), (fun η176 v => v.1 = .slice A1 data.length c2), (fun η176 v => v.1 = .int .i64 v30), (fun η176 v => v.1 = .int .i64 (w64 (v30 - 1))), (fun η176 v => v.1 = .pointer (some ((oA A1).add (Int.toNat (w64 (v30 - 1)) * 3)))), (fun η176 v => v.1 = .agg #[.int .i64 ((rd xs29 (w64 (v30 - 1))).Origin), .int .i64 ((rd xs29 (w64 (v30 - 1))).Expiry), .int .i64 ((rd xs29 (w64 (v30 - 1))).Left)]), (fun η176 v => v.1 = .int .i64 y185), (fun η176 v => v.1 = .bool (decide (y185 < 0))), (fun η176 v => v.1 = .bool (decide (y185 < 0)))] [] rfl (by kernel_rfl) (by kernel_rfl) H31 ⟨?_, ?_, ?_, ?_, ?_, ?_, ?_, ?_, ?_, ?_, ?_, ?_, ?_, ?_, ?_, ?_, ?_, trivial⟩ ?_
        · intro η176 wd193 Δ194 hE190 hR191 H192
          have H192 : Hp w0 ((Δ194 ++ (Row K38 (.slice A1 data.length c2) xs29 :: Γ))) wd193 := H192
          refine sp_op [(9, .int .i64 v30)] (ac rfl an) ?_
          refine r_pure (.int .i64 v30) rfl ?_
          exact r_nil (n_lp ⟨_, rfl, undef, rfl, H192⟩)
        · intro η176 wd198 Δ199 hE195 hR196 H197
          have H197 : Hp w0 ((Δ199 ++ (Row K38 (.slice A1 data.length c2) xs29 :: Γ))) wd198 := H197
          refine sp_op [(1, .int .i64 a_)] (ac rfl an) ?_
          refine r_pure (.int .i64 a_) rfl ?_
          exact r_nil (n_lp ⟨_, rfl, undef, rfl, H197⟩)
        · intro η176 wd203 Δ204 hE200 hR201 H202
          have H202 : Hp w0 ((Δ204 ++ (Row K38 (.slice A1 data.length c2) xs29 :: Γ))) wd203 := H202
          refine sp_op [(18, .int .i64 v30), (19, .int .i64 a_)] (ac (hE200 0 (by decide)) (ac (hE200 1 (by decide)) an)) ?_
          refine r_pure (.bool (decide (v30 > a_))) rfl ?_
          exact r_nil (n_lp ⟨_, rfl, undef, rfl, H202⟩)
        · intro η176 wd208 Δ209 hE205 hR206 H207
          have H207 : Hp w0 ((Δ209 ++ (Row K38 (.slice A1 data.length c2) xs29 :: Γ))) wd208 := H207
          refine sp_op [(20, .bool (decide (v30 > a_)))] (ac (hE205 2 (by decide)) an) ?_
          refine r_pure (.bool (decide (v30 > a_))) rfl ?_
          exact r_nil (n_lp ⟨_, rfl, undef, rfl, H207⟩)
        · intro η176 wd213 Δ214 hE210 hR211 H212
          have H212 : Hp w0 ((Δ214 ++ (Row K38 (.slice A1 data.length c2) xs29 :: Γ))) wd213 := H212
          refine sp_op [(3, .func (.func gf6) #[] (List.toArray gcap7)), (21, .bool (decide (v30 > a_)))] (ac rfl (ac (hE210 3 (by decide)) an)) ?_
          refine r_pure (.func (.func gf6) #[] (List.toArray gcap7)) rfl ?_ (wn_t rfl rfl (by decide) rfl hb177)
          exact r_nil (n_lp ⟨_, rfl, undef, rfl, H212⟩)
        · intro η176 wd218 Δ219 hE215 hR216 H217
          have H217 : Hp w0 ((Δ219 ++ (Row K38 (.slice A1 data.length c2) xs29 :: Γ))) wd218 := H217
          refine sp_op [(0, .slice A1 data.length c2), (21, .bool (decide (v30 > a_)))] (ac rfl (ac (hE215 3 (by decide)) an)) ?_
          refine r_pure (.slice A1 data.length c2) rfl ?_ (wn_t rfl rfl (by decide) rfl hb177)
          exact r_nil (n_lp ⟨_, rfl, undef, rfl, H217⟩)
        · intro η176 wd223 Δ224 hE220 hR221 H222
          have H222 : Hp w0 ((Δ224 ++ (Row K38 (.slice A1 data.length c2) xs29 :: Γ))) wd223 := H222
          refine sp_op [(9, .int .i64 v30), (21, .bool (decide (v30 > a_)))] (ac rfl (ac (hE220 3 (by decide)) an)) ?_
          refine r_pure (.int .i64 v30) rfl ?_ (wn_t rfl rfl (by decide) rfl hb177)
          exact r_nil (n_lp ⟨_, rfl, undef, rfl, H222⟩)
        · intro η176 wd228 Δ229 hE225 hR226 H227
          have H227 : Hp w0 ((Δ229 ++ (Row K38 (.slice A1 data.length c2) xs29 :: Γ))) wd228 := H227
          refine sp_op [(21, .bool (decide (v30 > a_))), (23, .slice A1 data.length c2), (24, .int .i64 v30)] (ac (hE225 3 (by decide)) (ac (hE225 5 (by decide)) (ac (hE225 6 (by decide)) an))) ?_
          have hA233 := ((H227).tl.g0.rd).adO hj180
          refine r_ix IX26 rfl rfl hA233 h0178 (by have h1_ := ((H227).tl.g0).leneq; have h2_ := h1179; rw [← h1_] at h2_; exact h2_) ?_ (wn_t rfl rfl (by decide) rfl hb177)
          exact r_nil (n_lp ⟨_, rfl, undef, rfl, H227⟩)
        · intro η176 wd237 Δ238 hE234 hR235 H236
          have H236 : Hp w0 ((Δ238 ++ (Row K38 (.slice A1 data.length c2) xs29 :: Γ))) wd237 := H236
          refine sp_op [(21, .bool (decide (v30 > a_))), (25, .pointer (some ((oA A1).add (Int.toNat v30 * 3))))] (ac (hE234 3 (by decide)) (ac (hE234 7 (by decide)) an)) ?_
          have hA239 := ((H236).tl.g0.rd).adO hj180
          refine r_ldA [.int .i64 ((rd xs29 v30).Origin), .int .i64 ((rd xs29 v30).Expiry), .int .i64 ((rd xs29 v30).Left)] LD38 rfl rfl (((H236).tl.g0.rd).csA hA239 hj180) ?_ (wn_t rfl rfl (by decide) rfl hb177)
          exact r_nil (n_lp ⟨_, rfl, undef, rfl, H236⟩)
        · intro η176 wd243 Δ244 hE240 hR241 H242
          have H242 : Hp w0 ((Δ244 ++ (Row K38 (.slice A1 data.length c2) xs29 :: Γ))) wd243 := H242
          refine sp_op [(0, .slice A1 data.length c2), (21, .bool (decide (v30 > a_)))] (ac rfl (ac (hE240 3 (by decide)) an)) ?_
          refine r_pure (.slice A1 data.length c2) rfl ?_ (wn_t rfl rfl (by decide) rfl hb177)
          exact r_nil (n_lp ⟨_, rfl, undef, rfl, H242⟩)
        · intro η176 wd248 Δ249 hE245 hR246 H247
          have H247 : Hp w0 ((Δ249 ++ (Row K38 (.slice A1 data.length c2) xs29 :: Γ))) wd248 := H247
          refine sp_op [(9, .int .i64 v30), (21, .bool (decide (v30 > a_)))] (ac rfl (ac (hE245 3 (by decide)) an)) ?_
          refine r_pure (.int .i64 v30) rfl ?_ (wn_t rfl rfl (by decide) rfl hb177)
          exact r_nil (n_lp ⟨_, rfl, undef, rfl, H247⟩)
        · intro η176 wd253 Δ254 hE250 hR251 H252
          have H252 : Hp w0 ((Δ254 ++ (Row K38 (.slice A1 data.length c2) xs29 :: Γ))) wd253 := H252
          refine sp_op [(21, .bool (decide (v30 > a_))), (28, .int .i64 v30)] (ac (hE250 3 (by decide)) (ac (hE250 10 (by decide)) an)) ?_
          refine r_pure (.int .i64 (w64 (v30 - 1))) rfl ?_ (wn_t rfl rfl (by decide) rfl hb177)
          exact r_nil (n_lp ⟨_, rfl, undef, rfl, H252⟩)
        · intro η176 wd258 Δ259 hE255 hR256 H257
          have H257 : Hp w0 ((Δ259 ++ (Row K38 (.slice A1 data.length c2) xs29 :: Γ))) wd258 := H257
          refine sp_op [(21, .bool (decide (v30 > a_))), (27, .slice A1 data.length c2), (29, .int .i64 (w64 (v30 - 1)))] (ac (hE255 3 (by decide)) (ac (hE255 9 (by decide)) (ac (hE255 11 (by decide)) an))) ?_
          have hA263 := ((H257).tl.g0.rd).adO hj184
          refine r_ix IX26 rfl rfl hA263 h0182 (by have h1_ := ((H257).tl.g0).leneq; have h2_ := h1183; rw [← h1_] at h2_; exact h2_) ?_ (wn_t rfl rfl (by decide) rfl hb177)
          exact r_nil (n_lp ⟨_, rfl, undef, rfl, H257⟩)
        · intro η176 wd267 Δ268 hE264 hR265 H266
          have H266 : Hp w0 ((Δ268 ++ (Row K38 (.slice A1 data.length c2) xs29 :: Γ))) wd267 := H266
          refine sp_op [(21, .bool (decide (v30 > a_))), (30, .pointer (some ((oA A1).add (Int.toNat (w64 (v30 - 1)) * 3))))] (ac (hE264 3 (by decide)) (ac (hE264 12 (by decide)) an)) ?_
          have hA269 := ((H266).tl.g0.rd).adO hj184
          refine r_ldA [.int .i64 ((rd xs29 (w64 (v30 - 1))).Origin), .int .i64 ((rd xs29 (w64 (v30 - 1))).Expiry), .int .i64 ((rd xs29 (w64 (v30 - 1))).Left)] LD38 rfl rfl (((H266).tl.g0.rd).csA hA269 hj184) ?_ (wn_t rfl rfl (by decide) rfl hb177)
          exact r_nil (n_lp ⟨_, rfl, undef, rfl, H266⟩)
        · intro η176 wd273 Δ274 hE270 hR271 H272
          have H272 : Hp w0 ((Δ274 ++ (Row K38 (.slice A1 data.length c2) xs29 :: Γ))) wd273 := H272
          refine sp_op [(21, .bool (decide (v30 > a_))), (22, .func (.func gf6) #[] (List.toArray gcap7)), (26, .agg #[.int .i64 ((rd xs29 v30).Origin), .int .i64 ((rd xs29 v30).Expiry), .int .i64 ((rd xs29 v30).Left)]), (31, .agg #[.int .i64 ((rd xs29 (w64 (v30 - 1))).Origin), .int .i64 ((rd xs29 (w64 (v30 - 1))).Expiry), .int .i64 ((rd xs29 (w64 (v30 - 1))).Left)])] (ac (hE270 3 (by decide)) (ac (hE270 4 (by decide)) (ac (hE270 8 (by decide)) (ac (hE270 13 (by decide)) an)))) ?_
          refine r_callv rfl ge8 (gp9 _ _ hy186 _ _ H272 (fun _ H => (H).tl.d)) ?_ (wn_t rfl rfl (by decide) rfl hb177)
          rintro e279 wd278 ⟨rfl, H277⟩
          refine ⟨_, rfl, ?_⟩
          exact r_nil (n_lp ⟨_, rfl, undef, rfl, H277⟩)
        · intro η176 wd283 Δ284 hE280 hR281 H282
          have H282 : Hp w0 ((Δ284 ++ (Row K38 (.slice A1 data.length c2) xs29 :: Γ))) wd283 := H282
          refine sp_op [(21, .bool (decide (v30 > a_))), (32, .int .i64 y185)] (ac (hE280 3 (by decide)) (ac (hE280 14 (by decide)) an)) ?_
          refine r_pure (.bool (decide (y185 < 0))) rfl ?_ (wn_t rfl rfl (by decide) rfl hb177)
          exact r_nil (n_lp ⟨_, rfl, undef, rfl, H282⟩)
        · intro η176 wd288 Δ289 hE285 hR286 H287
          have H287 : Hp w0 ((Δ289 ++ (Row K38 (.slice A1 data.length c2) xs29 :: Γ))) wd288 := H287
          refine sp_op [(21, .bool (decide (v30 > a_))), (33, .bool (decide (y185 < 0)))] (ac (hE285 3 (by decide)) (ac (hE285 15 (by decide)) an)) ?_
          refine r_pick_t (.bool (decide (y185 < 0))) hb177 rfl rfl ?_
          exact r_nil (n_lp ⟨_, rfl, undef, rfl, H287⟩)
        · intro η176 wd291 hV292 H290
          have H293 : Hp w0 (Row K38 (.slice A1 data.length c2) xs29 :: Γ) wd291 := H290
          refine n_frame [(0, .slice A1 data.length c2), (1, .int .i64 a_), (2, .int .i64 b_), (3, .func (.func gf6) #[] (List.toArray gcap7)), (8, .int .i64 v13), (9, .int .i64 v30), (22, .func (.func gf6) #[] (List.toArray gcap7)), (23, .slice A1 data.length c2), (24, .int .i64 v30), (25, .pointer (some ((oA A1).add (Int.toNat v30 * 3)))), (26, .agg #[.int .i64 ((rd xs29 v30).Origin), .int .i64 ((rd xs29 v30).Expiry), .int .i64 ((rd xs29 v30).Left)]), (27, .slice A1 data.length c2), (28, .int .i64 v30), (29, .int .i64 (w64 (v30 - 1))), (30, .pointer (some ((oA A1).add (Int.toNat (w64 (v30 - 1)) * 3)))), (31, .agg #[.int .i64 ((rd xs29 (w64 (v30 - 1))).Origin), .int .i64 ((rd xs29 (w64 (v30 - 1))).Expiry), .int .i64 ((rd xs29 (w64 (v30 - 1))).Left)]), (32, .int .i64 y185), (33, .bool (decide (y185 < 0))), (34, .bool (decide (y185 < 0)))] (ac rfl (ac rfl (ac rfl (ac rfl (ac rfl (ac rfl (ac (hV292 4 rfl) (ac (hV292 5 rfl) (ac (hV292 6 rfl) (ac (hV292 7 rfl) (ac (hV292 8 rfl) (ac (hV292 9 rfl) (ac (hV292 10 rfl) (ac (hV292 11 rfl) (ac (hV292 12 rfl) (ac (hV292 13 rfl) (ac (hV292 14 rfl) (ac (hV292 15 rfl) (ac (hV292 16 rfl) an))))))))))))))))))) ?_
          refine n_cut ⟨decide (y185 < 0), upk (ac rfl (ac rfl (ac rfl (ac rfl (ac rfl (ac rfl (ac rfl an))))))), H293, hm⟩
      · refine Flow.run' [[], [], [0, 1], [0, 1, 2], [0, 1, 2, 3], [0, 1, 2, 3], [0, 1, 2, 3], [0, 1, 2, 3, 5, 6], [0, 1, 2, 3, 5, 6, 7], [0, 1, 2, 3], [0, 1, 2, 3], [0, 1, 2, 3, 10], [0, 1, 2, 3, 9, 10, 11], [0, 1, 2, 3, 9, 10, 11, 12], [0, 1, 2, 3, 4, 5, 6, 7, 8, 9, 10, 11, 12, 13], [0, 1, 2, 3, 4, 5, 6, 7, 8, 9, 10, 11, 12, 13, 14], [0, 1, 2, 3, 4, 5, 6, 7, 8, 9, 10, 11, 12, 13, 14, 15]] [(18, 0), (19, 1), (20, 2), (21, 3), (22, 4), (23, 5), (24, 6), (25, 7), (26, 8), (27, 9), (28, 10), (29, 11), (30, 12), (31, 13), (32, 14), (33, 15), (34, 16)] [(fun η176 v => v.1 = .int .i64 v30), (fun η176 v => v.1 = .int .i64 a_), (fun η176 v => v.1 = .bool (decide (v30 > a_))), (fun η176 v => v.1 = .bool (decide (v30 > a_))), (fun η176 v => v.1 = undef), (fun η176 v => v.1 = undef), (fun η176 v => v.1 = undef), (fun η176 v => v.1 = undef), (fun η176 v => v.1 = undef), (fun η176 v => v.1 = undef), (fun η176 v => v.1 = undef), (fun η176 v => v.1 = undef), (fun η176 v => v.1 = undef), (fun η176 v => v.1 = undef), (fun η176 v => v.1 = undef), (fun η176 v => v.1 = undef), (fun η176 v => v.1 = .bool false)] [] rfl (by kernel_rfl) (by kernel_rfl) H31 ⟨?_, ?_, ?_, ?_, ?_, ?_, ?_, ?_, ?_, ?_, ?_, ?_, ?_, ?_, ?_, ?_, ?_, trivial⟩ ?_
        · intro η176 wd297 Δ298 hE294 hR295 H296
          have H296 : Hp w0 ((Δ298 ++ (Row K38 (.slice A1 data.length c2) xs29 :: Γ))) wd297 := H296
          refine sp_op [(9, .int .i64 v30)] (ac rfl an) ?_
          refine r_pure (.int .i64 v30) rfl ?_
          exact r_nil (n_lp ⟨_, rfl, undef, rfl, H296⟩)
        · intro η176 wd302 Δ303 hE299 hR300 H301
          have H301 : Hp w0 ((Δ303 ++ (Row K38 (.slice A1 data.length c2) xs29 :: Γ))) wd302 := H301
          refine sp_op [(1, .int .i64 a_)] (ac rfl an) ?_
          refine r_pure (.int .i64 a_) rfl ?_
          exact r_nil (n_lp ⟨_, rfl, undef, rfl, H301⟩)
        · intro η176 wd307 Δ308 hE304 hR305 H306
          have H306 : Hp w0 ((Δ308 ++ (Row K38 (.slice A1 data.length c2) xs29 :: Γ))) wd307 := H306
          refine sp_op [(18, .int .i64 v30), (19, .int .i64 a_)] (ac (hE304 0 (by decide)) (ac (hE304 1 (by decide)) an)) ?_
          refine r_pure (.bool (decide (v30 > a_))) rfl ?_
          exact r_nil (n_lp ⟨_, rfl, undef, rfl, H306⟩)
        · intro η176 wd312 Δ313 hE309 hR310 H311
          have H311 : Hp w0 ((Δ313 ++ (Row K38 (.slice A1 data.length c2) xs29 :: Γ))) wd312 := H311
          refine sp_op [(20, .bool (decide (v30 > a_)))] (ac (hE309 2 (by decide)) an) ?_
          refine r_pure (.bool (decide (v30 > a_))) rfl ?_
          exact r_nil (n_lp ⟨_, rfl, undef, rfl, H311⟩)
        · intro η176 wd317 Δ318 hE314 hR315 H316
          have H316 : Hp w0 ((Δ318 ++ (Row K38 (.slice A1 data.length c2) xs29 :: Γ))) wd317 := H316
          refine sp_op [(3, .func (.func gf6) #[] (List.toArray gcap7)), (21, .bool (decide (v30 > a_)))] (ac rfl (ac (hE314 3 (by decide)) an)) ?_
          refine r_not (wn_f rfl rfl (by decide) rfl hb177) ?_
          exact r_nil (n_lp ⟨_, rfl, undef, rfl, H316⟩)
        · intro η176 wd322 Δ323 hE319 hR320 H321
          have H321 : Hp w0 ((Δ323 ++ (Row K38 (.slice A1 data.length c2) xs29 :: Γ))) wd322 := H321
          refine sp_op [(0, .slice A1 data.length c2), (21, .bool (decide (v30 > a_)))] (ac rfl (ac (hE319 3 (by decide)) an)) ?_
          refine r_not (wn_f rfl rfl (by decide) rfl hb177) ?_
          exact r_nil (n_lp ⟨_, rfl, undef, rfl, H321⟩)
        · intro η176 wd327 Δ328 hE324 hR325 H326
          have H326 : Hp w0 ((Δ328 ++ (Row K38 (.slice A1 data.length c2) xs29 :: Γ))) wd327 := H326
          refine sp_op [(9, .int .i64 v30), (21, .bool (decide (v30 > a_)))] (ac rfl (ac (hE324 3 (by decide)) an)) ?_
          refine r_not (wn_f rfl rfl (by decide) rfl hb177) ?_
          exact r_nil (n_lp ⟨_, rfl, undef, rfl, H326⟩)
        · intro η176 wd332 Δ333 hE329 hR330 H331
          have H331 : Hp w0 ((Δ333 ++ (Row K38 (.slice A1 data.length c2) xs29 :: Γ))) wd332 := H331
          refine sp_op [(21, .bool (decide (v30 > a_))), (23, undef), (24, undef)] (ac (hE329 3 (by decide)) (ac (hE329 5 (by decide)) (ac (hE329 6 (by decide)) an))) ?_
          refine r_not (wn_f rfl rfl (by decide) rfl hb177) ?_
          exact r_nil (n_lp ⟨_, rfl, undef, rfl, H331⟩)
        · intro η176 wd337 Δ338 hE334 hR335 H336
          have H336 : Hp w0 ((Δ338 ++ (Row K38 (.slice A1 data.length c2) xs29 :: Γ))) wd337 := H336
          refine sp_op [(21, .bool (decide (v30 > a_))), (25, undef)] (ac (hE334 3 (by decide)) (ac (hE334 7 (by decide)) an)) ?_
          refine r_not (wn_f rfl rfl (by decide) rfl hb177) ?_
          exact r_nil (n_lp ⟨_, rfl, undef, rfl, H336⟩)
        · intro η176 wd342 Δ343 hE339 hR340 H341
          have H341 : Hp w0 ((Δ343 ++ (Row K38 (.slice A1 data.length c2) xs29 :: Γ))) wd342 := H341
          refine sp_op [(0, .slice A1 data.length c2), (21, .bool (decide (v30 > a_)))] (ac rfl (ac (hE339 3 (by decide)) an)) ?_
          refine r_not (wn_f rfl rfl (by decide) rfl hb177) ?_
          exact r_nil (n_lp ⟨_, rfl, undef, rfl, H341⟩)
        · intro η176 wd347 Δ348 hE344 hR345 H346
          have H346 : Hp w0 ((Δ348 ++ (Row K38 (.slice A1 data.length c2) xs29 :: Γ))) wd347 := H346
          refine sp_op [(9, .int .i64 v30), (21, .bool (decide (v30 > a_)))] (ac rfl (ac (hE344 3 (by decide)) an)) ?_
          refine r_not (wn_f rfl rfl (by decide) rfl hb177) ?_
          exact r_nil (n_lp ⟨_, rfl, undef, rfl, H346⟩)
        · intro η176 wd352 Δ353 hE349 hR350 H351
          have H351 : Hp w0 ((Δ353 ++ (Row K38 (.slice A1 data.length c2) xs29 :: Γ))) wd352 := H351
          refine sp_op [(21, .bool (decide (v30 > a_))), (28, undef)] (ac (hE349 3 (by decide)) (ac (hE349 10 (by decide)) an)) ?_
          refine r_not (wn_f rfl rfl (by decide) rfl hb177) ?_
          exact r_nil (n_lp ⟨_, rfl, undef, rfl, H351⟩)
        · intro η176 wd357 Δ358 hE354 hR355 H356
          have H356 : Hp w0 ((Δ358 ++ (Row K38 (.slice A1 data.length c2) xs29 :: Γ))) wd357 := H356
          refine sp_op [(21, .bool (decide (v30 > a_))), (27, undef), (29, undef)] (ac (hE354 3 (by decide)) (ac (hE354 9 (by decide)) (ac (hE354 11 (by decide)) an))) ?_
          refine r_not (wn_f rfl rfl (by decide) rfl hb177) ?_
          exact r_nil (n_lp ⟨_, rfl, undef, rfl, H356⟩)
        · intro η176 wd362 Δ363 hE359 hR360 H361
          have H361 : Hp w0 ((Δ363 ++ (Row K38 (.slice A1 data.length c2) xs29 :: Γ))) wd362 := H361
          refine sp_op [(21, .bool (decide (v30 > a_))), (30, undef)] (ac (hE359 3 (by decide)) (ac (hE359 12 (by decide)) an)) ?_
          refine r_not (wn_f rfl rfl (by decide) rfl hb177) ?_
          exact r_nil (n_lp ⟨_, rfl, undef, rfl, H361⟩)
        · intro η176 wd367 Δ368 hE364 hR365 H366
          have H366 : Hp w0 ((Δ368 ++ (Row K38 (.slice A1 data.length c2) xs29 :: Γ))) wd367 := H366
          refine sp_op [(21, .bool (decide (v30 > a_))), (22, undef), (26, undef), (31, undef)] (ac (hE364 3 (by decide)) (ac (hE364 4 (by decide)) (ac (hE364 8 (by decide)) (ac (hE364 13 (by decide)) an)))) ?_
          refine r_not (wn_f rfl rfl (by decide) rfl hb177) ?_
          exact r_nil (n_lp ⟨_, rfl, undef, rfl, H366⟩)
        · intro η176 wd372 Δ373 hE369 hR370 H371
          have H371 : Hp w0 ((Δ373 ++ (Row K38 (.slice A1 data.length c2) xs29 :: Γ))) wd372 := H371
          refine sp_op [(21, .bool (decide (v30 > a_))), (32, undef)] (ac (hE369 3 (by decide)) (ac (hE369 14 (by decide)) an)) ?_
          refine r_not (wn_f rfl rfl (by decide) rfl hb177) ?_
          exact r_nil (n_lp ⟨_, rfl, undef, rfl, H371⟩)
        · intro η176 wd377 Δ378 hE374 hR375 H376
          have H376 : Hp w0 ((Δ378 ++ (Row K38 (.slice A1 data.length c2) xs29 :: Γ))) wd377 := H376
          refine sp_op [(21, .bool (decide (v30 > a_))), (33, undef)] (ac (hE374 3 (by decide)) (ac (hE374 15 (by decide)) an)) ?_
          refine r_pick_f (.bool false) hb177 rfl rfl ?_
          exact r_nil (n_lp ⟨_, rfl, undef, rfl, H376⟩)
        · intro η176 wd380 hV381 H379
          have H382 : Hp w0 (Row K38 (.slice A1 data.length c2) xs29 :: Γ) wd380 := H379
          refine n_frame [(0, .slice A1 data.length c2), (1, .int .i64 a_), (2, .int .i64 b_), (3, .func (.func gf6) #[] (List.toArray gcap7)), (8, .int .i64 v13), (9, .int .i64 v30), (34, .bool false)] (ac rfl (ac rfl (ac rfl (ac rfl (ac rfl (ac rfl (ac (hV381 16 rfl) an))))))) ?_
          refine n_cut ⟨false, upk (ac rfl (ac rfl (ac rfl (ac rfl (ac rfl (ac rfl (ac rfl an))))))), H382, hm⟩
    · rintro ρ w ⟨q43, ⟨base, rfl⟩, H44, hm⟩
      unfold slices_insertionSortCmpFunc_api_Vintage.j1 at hm
      rcases ite_some hm with ⟨hb45, hm⟩ | ⟨hb45, hm⟩
      · refine st_condt hb45 rfl ?_
        refine st_skip ?_
        refine n_sq ?_
        refine st_seq ?_
        refine st_block ?_
        obtain ⟨⟨h047, h148⟩, hm⟩ := gd_some hm
        have hj49 := rd_get h047 h148
        obtain ⟨⟨h051, h152⟩, hm⟩ := gd_some hm
        have hj53 := rd_get h051 h152
        obtain ⟨⟨h056, h157⟩, hm⟩ := gd_some hm
        have hj58 := rd_get h056 h157
        refine Flow.run' [[], [], [], [], [3], [], [], [6], [5, 6, 7], [5, 6, 7, 8], [], [], [10, 11], [10, 11, 12], [0, 1, 5, 6, 7, 8, 9, 10, 11, 12, 13], [0, 1, 5, 6, 7, 8, 9, 10, 11, 12, 13, 14], [0, 1, 2, 3, 4, 5, 6, 7, 8, 9, 10, 11, 12, 13, 14, 15], [0, 1, 2, 3, 4, 5, 6, 7, 8, 9, 10, 11, 12, 13, 14, 15, 16]] [(37, 0), (38, 1), (39, 2), (40, 3), (41, 4), (42, 5), (43, 6), (44, 7), (45, 8), (46, 9), (47, 10), (48, 11), (49, 12), (50, 13), (51, 14), (52, 16)] [(fun η46 v => v.1 = .slice A1 data.length c2), (fun η46 v => v.1 = .int .i64 v30), (fun η46 v => v.1 = .slice A1 data.length c2), (fun η46 v => v.1 = .int .i64 v30), (fun η46 v => v.1 = .int .i64 (w64 (v30 - 1))), (fun η46 v => v.1 = .slice A1 data.length c2), (fun η46 v => v.1 = .int .i64 v30), (fun η46 v => v.1 = .int .i64 (w64 (v30 - 1))), (fun η46 v => v.1 = .pointer (some ((oA A1).add (Int.toNat (w64 (v30 - 1)) * 3)))), (fun η46 v => v.1 = .agg #[.int .i64 ((rd xs29 (w64 (v30 - 1))).Origin), .int .i64 ((rd xs29 (w64 (v30 - 1))).Expiry), .int .i64 ((rd xs29 (w64 (v30 - 1))).Left)]), (fun η46 v => v.1 = .slice A1 data.length c2), (fun η46 v => v.1 = .int .i64 v30), (fun η46 v => v.1 = .pointer (some ((oA A1).add (Int.toNat v30 * 3)))), (fun η46 v => v.1 = .agg #[.int .i64 ((rd xs29 v30).Origin), .int .i64 ((rd xs29 v30).Expiry), .int .i64 ((rd xs29 v30).Left)]), (fun η46 v => v.1 = .pointer (some ((oA A1).add (Int.toNat v30 * 3)))), (fun _ _ => True), (fun η46 v => v.1 = .pointer (some ((oA A1).add (Int.toNat (w64 (v30 - 1)) * 3)))), (fun _ _ => True)] [⟨none, (some 15), fun η46 => Row K38 (.slice A1 data.length c2) xs29⟩, ⟨(some 15), (some 17), fun η46 => Row K38 (.slice A1 data.length c2) (xs29.set (Int.toNat v30) (rd xs29 (w64 (v30 - 1))))⟩, ⟨(some 17), none, fun η46 => Row K38 (.slice A1 data.length c2) ((xs29.set (Int.toNat v30) (rd xs29 (w64 (v30 - 1)))).set (Int.toNat (w64 (v30 - 1))) (rd xs29 v30))⟩] rfl (by kernel_rfl) (by kernel_rfl) H44 ⟨?_, ?_, ?_, ?_, ?_, ?_, ?_, ?_, ?_, ?_, ?_, ?_, ?_, ?_, ?_, ?_, ?_, ?_, trivial⟩ ?_
        · intro η46 wd64 Δ65 hE61 hR62 H63
          have H63 : Hp w0 ((Δ65 ++ Γ)) wd64 := H63
          refine sp_op [(0, .slice A1 data.length c2)] (ac rfl an) ?_
          refine r_pure (.slice A1 data.length c2) rfl ?_
          exact r_nil (n_lp ⟨_, rfl, undef, rfl, H63⟩)
        · intro η46 wd69 Δ70 hE66 hR67 H68
          have H68 : Hp w0 ((Δ70 ++ Γ)) wd69 := H68
          refine sp_op [(9, .int .i64 v30)] (ac rfl an) ?_
          refine r_pure (.int .i64 v30) rfl ?_
          exact r_nil (n_lp ⟨_, rfl, undef, rfl, H68⟩)
        · intro η46 wd74 Δ75 hE71 hR72 H73
          have H73 : Hp w0 ((Δ75 ++ Γ)) wd74 := H73
          refine sp_op [(0, .slice A1 data.length c2)] (ac rfl an) ?_
          refine r_pure (.slice A1 data.length c2) rfl ?_
          exact r_nil (n_lp ⟨_, rfl, undef, rfl, H73⟩)
        · intro η46 wd79 Δ80 hE76 hR77 H78
          have H78 : Hp w0 ((Δ80 ++ Γ)) wd79 := H78
          refine sp_op [(9, .int .i64 v30)] (ac rfl an) ?_
          refine r_pure (.int .i64 v30) rfl ?_
          exact r_nil (n_lp ⟨_, rfl, undef, rfl, H78⟩)
        · intro η46 wd84 Δ85 hE81 hR82 H83
          have H83 : Hp w0 ((Δ85 ++ Γ)) wd84 := H83
          refine sp_op [(40, .int .i64 v30)] (ac (hE81 3 (by decide)) an) ?_
          refine r_pure (.int .i64 (w64 (v30 - 1))) rfl ?_
          exact r_nil (n_lp ⟨_, rfl, undef, rfl, H83⟩)
        · intro η46 wd89 Δ90 hE86 hR87 H88
          have H88 : Hp w0 ((Δ90 ++ Γ)) wd89 := H88
          refine sp_op [(0, .slice A1 data.length c2)] (ac rfl an) ?_
          refine r_pure (.slice A1 data.length c2) rfl ?_
          exact r_nil (n_lp ⟨_, rfl, undef, rfl, H88⟩)
        · intro η46 wd94 Δ95 hE91 hR92 H93
          have H93 : Hp w0 ((Δ95 ++ Γ)) wd94 := H93
          refine sp_op [(9, .int .i64 v30)] (ac rfl an) ?_
          refine r_pure (.int .i64 v30) rfl ?_
          exact r_nil (n_lp ⟨_, rfl, undef, rfl, H93⟩)
        · intro η46 wd99 Δ100 hE96 hR97 H98
          have H98 : Hp w0 ((Δ100 ++ Γ)) wd99 := H98
          refine sp_op [(43, .int .i64 v30)] (ac (hE96 6 (by decide)) an) ?_
          refine r_pure (.int .i64 (w64 (v30 - 1))) rfl ?_
          exact r_nil (n_lp ⟨_, rfl, undef, rfl, H98⟩)
        · intro η46 wd104 Δ105 hE101 hR102 H103
          have H103 : Hp w0 ((Δ105 ++ Γ)) wd104 := H103
          refine sp_op [(42, .slice A1 data.length c2), (44, .int .i64 (w64 (v30 - 1)))] (ac (hE101 5 (by decide)) (ac (hE101 7 (by decide)) an)) ?_
          have hA109 := ((show (Row K38 (.slice A1 data.length c2) xs29) _ from (H103).memr (hR102 _ (List.mem_of_getElem? (i := 0) rfl) rfl)).rd).adO hj49
          refine r_ix IX26 rfl rfl hA109 h047 (by have h1_ := ((show (Row K38 (.slice A1 data.length c2) xs29) _ from (H103).memr (hR102 _ (List.mem_of_getElem? (i := 0) rfl) rfl))).leneq; have h2_ := h148; rw [← h1_] at h2_; exact h2_) ?_
          exact r_nil (n_lp ⟨_, rfl, undef, rfl, H103⟩)
        · intro η46 wd113 Δ114 hE110 hR111 H112
          have H112 : Hp w0 ((Δ114 ++ Γ)) wd113 := H112
          refine sp_op [(45, .pointer (some ((oA A1).add (Int.toNat (w64 (v30 - 1)) * 3))))] (ac (hE110 8 (by decide)) an) ?_
          have hA115 := ((show (Row K38 (.slice A1 data.length c2) xs29) _ from (H112).memr (hR111 _ (List.mem_of_getElem? (i := 0) rfl) rfl)).rd).adO hj49
          refine r_ldA [.int .i64 ((rd xs29 (w64 (v30 - 1))).Origin), .int .i64 ((rd xs29 (w64 (v30 - 1))).Expiry), .int .i64 ((rd xs29 (w64 (v30 - 1))).Left)] LD38 rfl rfl (((show (Row K38 (.slice A1 data.length c2) xs29) _ from (H112).memr (hR111 _ (List.mem_of_getElem? (i := 0) rfl) rfl)).rd).csA hA115 hj49) ?_
          exact r_nil (n_lp ⟨_, rfl, undef, rfl, H112⟩)
        · intro η46 wd119 Δ120 hE116 hR117 H118
          have H118 : Hp w0 ((Δ120 ++ Γ)) wd119 := H118
          refine sp_op [(0, .slice A1 data.length c2)] (ac rfl an) ?_
          refine r_pure (.slice A1 data.length c2) rfl ?_
          exact r_nil (n_lp ⟨_, rfl, undef, rfl, H118⟩)
        · intro η46 wd124 Δ125 hE121 hR122 H123
          have H123 : Hp w0 ((Δ125 ++ Γ)) wd124 := H123
          refine sp_op [(9, .int .i64 v30)] (ac rfl an) ?_
          refine r_pure (.int .i64 v30) rfl ?_
          exact r_nil (n_lp ⟨_, rfl, undef, rfl, H123⟩)
        · intro η46 wd129 Δ130 hE126 hR127 H128
          have H128 : Hp w0 ((Δ130 ++ Γ)) wd129 := H128
          refine sp_op [(47, .slice A1 data.length c2), (48, .int .i64 v30)] (ac (hE126 10 (by decide)) (ac (hE126 11 (by decide)) an)) ?_
          have hA134 := ((show (Row K38 (.slice A1 data.length c2) xs29) _ from (H128).memr (hR127 _ (List.mem_of_getElem? (i := 0) rfl) rfl)).rd).adO hj53
          refine r_ix IX26 rfl rfl hA134 h051 (by have h1_ := ((show (Row K38 (.slice A1 data.length c2) xs29) _ from (H128).memr (hR127 _ (List.mem_of_getElem? (i := 0) rfl) rfl))).leneq; have h2_ := h152; rw [← h1_] at h2_; exact h2_) ?_
          exact r_nil (n_lp ⟨_, rfl, undef, rfl, H128⟩)
        · intro η46 wd138 Δ139 hE135 hR136 H137
          have H137 : Hp w0 ((Δ139 ++ Γ)) wd138 := H137
          refine sp_op [(49, .pointer (some ((oA A1).add (Int.toNat v30 * 3))))] (ac (hE135 12 (by decide)) an) ?_
          have hA140 := ((show (Row K38 (.slice A1 data.length c2) xs29) _ from (H137).memr (hR136 _ (List.mem_of_getElem? (i := 0) rfl) rfl)).rd).adO hj53
          refine r_ldA [.int .i64 ((rd xs29 v30).Origin), .int .i64 ((rd xs29 v30).Expiry), .int .i64 ((rd xs29 v30).Left)] LD38 rfl rfl (((show (Row K38 (.slice A1 data.length c2) xs29) _ from (H137).memr (hR136 _ (List.mem_of_getElem? (i := 0) rfl) rfl)).rd).csA hA140 hj53) ?_
          exact r_nil (n_lp ⟨_, rfl, undef, rfl, H137⟩)
        · intro η46 wd144 Δ145 hE141 hR142 H143
          have H143 : Hp w0 ((Δ145 ++ Γ)) wd144 := H143
          refine sp_op [(37, .slice A1 data.length c2), (38, .int .i64 v30)] (ac (hE141 0 (by decide)) (ac (hE141 1 (by decide)) an)) ?_
          have hA146 := ((show (Row K38 (.slice A1 data.length c2) xs29) _ from (H143).memr (hR142 _ (List.mem_of_getElem? (i := 0) rfl) rfl)).rd).adO hj53
          refine r_ix IX26 rfl rfl hA146 h051 (by have h1_ := ((show (Row K38 (.slice A1 data.length c2) xs29) _ from (H143).memr (hR142 _ (List.mem_of_getElem? (i := 0) rfl) rfl))).leneq; have h2_ := h152; rw [← h1_] at h2_; exact h2_) ?_
          exact r_nil (n_lp ⟨_, rfl, undef, rfl, H143⟩)
        · intro η46 wd150 Δ151 hE147 hR148 H149
          have H149 : Hp w0 (Row K38 (.slice A1 data.length c2) xs29 :: (Δ151 ++ Γ)) wd150 := H149
          refine sp_op [(46, .agg #[.int .i64 ((rd xs29 (w64 (v30 - 1))).Origin), .int .i64 ((rd xs29 (w64 (v30 - 1))).Expiry), .int .i64 ((rd xs29 (w64 (v30 - 1))).Left)]), (51, .pointer (some ((oA A1).add (Int.toNat v30 * 3))))] (ac (hE147 9 (by decide)) (ac (hE147 14 (by decide)) an)) ?_
          have hA154 := (H149.g0.rd).adO hj53
          refine r_stxA (K := K38) ((rd xs29 (w64 (v30 - 1)))) hA154 LD38 rfl rfl rfl rfl H149 (by have h1_ := h051; have h2_ := h152; first | omega | (simp only [List.length_set] at h1_ h2_ ⊢; omega)) ?_
          intro wd153 H152
          exact r_nil (n_lp ⟨_, rfl, (.tuple #[.slice A1 data.length c2]), trivial, H152⟩)
        · intro η46 wd158 Δ159 hE155 hR156 H157
          have H157 : Hp w0 ((Δ159 ++ Γ)) wd158 := H157
          refine sp_op [(39, .slice A1 data.length c2), (41, .int .i64 (w64 (v30 - 1)))] (ac (hE155 2 (by decide)) (ac (hE155 4 (by decide)) an)) ?_
          have hA163 := ((show (Row K38 (.slice A1 data.length c2) (xs29.set (Int.toNat v30) (rd xs29 (w64 (v30 - 1))))) _ from (H157).memr (hR156 _ (List.mem_of_getElem? (i := 1) rfl) rfl)).rd).adO hj58
          refine r_ix IX26 rfl rfl hA163 h056 (by have h1_ := ((show (Row K38 (.slice A1 data.length c2) (xs29.set (Int.toNat v30) (rd xs29 (w64 (v30 - 1))))) _ from (H157).memr (hR156 _ (List.mem_of_getElem? (i := 1) rfl) rfl))).leneq; have h2_ := h157; rw [← h1_] at h2_; exact h2_) ?_
          exact r_nil (n_lp ⟨_, rfl, undef, rfl, H157⟩)
        · intro η46 wd167 Δ168 hE164 hR165 H166
          have H166 : Hp w0 (Row K38 (.slice A1 data.length c2) (xs29.set (Int.toNat v30) (rd xs29 (w64 (v30 - 1)))) :: (Δ168 ++ Γ)) wd167 := H166
          refine sp_op [(50, .agg #[.int .i64 ((rd xs29 v30).Origin), .int .i64 ((rd xs29 v30).Expiry), .int .i64 ((rd xs29 v30).Left)]), (52, .pointer (some ((oA A1).add (Int.toNat (w64 (v30 - 1)) * 3))))] (ac (hE164 13 (by decide)) (ac (hE164 16 (by decide)) an)) ?_
          have hA171 := (H166.g0.rd).adO hj58
          refine r_stxA (K := K38) ((rd xs29 v30)) hA171 LD38 rfl rfl rfl rfl H166 (by have h1_ := h056; have h2_ := h157; first | omega | (simp only [List.length_set] at h1_ h2_ ⊢; omega)) ?_
          intro wd170 H169
          exact r_nil (n_lp ⟨_, rfl, (.tuple #[.slice A1 data.length c2]), trivial, H169⟩)
        · intro η46 wd173 hV174 H172
          have H175 : Hp w0 (Row K38 (.slice A1 data.length c2) ((xs29.set (Int.toNat v30) (rd xs29 (w64 (v30 - 1)))).set (Int.toNat (w64 (v30 - 1))) (rd xs29 v30)) :: Γ) wd173 := H172
          refine n_frame [(0, .slice A1 data.length c2), (1, .int .i64 a_), (2, .int .i64 b_), (3, .func (.func gf6) #[] (List.toArray gcap7)), (8, .int .i64 v13), (9, .int .i64 v30)] (ac rfl (ac rfl (ac rfl (ac rfl (ac rfl (ac rfl an)))))) ?_
          refine n_bl ?_
          refine n_sq ?_
          refine st_region ?_
          refine r_pure (.int .i64 v30) rfl ?_
          refine r_pure (.int .i64 (w64 (v30 - 1))) rfl ?_
          refine r_pure (.int .i64 (w64 (v30 - 1))) rfl ?_
          refine r_nil ?_
          refine n_round (IH42 _ _ _ ⟨(xs29.set (Int.toNat v30) (rd xs29 (w64 (v30 - 1)))).set (Int.toNat (w64 (v30 - 1))) (rd xs29 v30), w64 (v30 - 1), rfl, upk (ac rfl (ac rfl (ac rfl (ac rfl (ac rfl (ac rfl an)))))), H175⟩ hm)
      · refine st_condf hb45 rfl ?_
        have hq_ := Option.some.inj hm
        refine st_exit rfl ?_
        subst hq_
        refine n_bl ?_
        refine n_sq ?_
        refine st_region ?_
        refine r_pure (.int .i64 v13) rfl ?_
        refine r_pure (.int .i64 (w64 (v13 + 1))) rfl ?_
        refine r_pure (.int .i64 (w64 (v13 + 1))) rfl ?_
        refine r_nil ?_
        refine n_round (IH25 _ _ _ ⟨xs29, w64 (v13 + 1), rfl, upk (ac rfl (ac rfl (ac rfl (ac rfl (ac rfl an))))), H44⟩ hm32)
  · refine st_condf hb26 rfl ?_
    have hq_ := Option.some.inj hm
    refine st_exit rfl ?_
    subst hq_
    have hq_ := Option.some.inj hm15
    subst hq_
    refine n_fin0 rfl ?_
    exact ⟨rfl, H14⟩

set_option maxHeartbeats 2000000 in
theorem slices_pdqsortCmpFunc_api_Vintage_ok {w0 w : World} {Γ : List (World → Prop)} (data : List api_Vintage) (A1 : Option Addr) (n3 c2 : Nat) (a_ : Int) (b_ : Int) (limit : Int) (fv4 : Value) (cmp : (api_Vintage × api_Vintage) → Option Int) (hp5 : FnOk Try.prog w0 Γ fv4 (fun x => [.agg #[.int .i64 x.1.Origin, .int .i64 x.1.Expiry, .int .i64 x.1.Left], .agg #[.int .i64 x.2.Origin, .int .i64 x.2.Expiry, .int .i64 x.2.Left]]) (fun r => .int .i64 r) cmp) (r0_ : List api_Vintage) (H : Hp w0 (Row K38 (.slice A1 n3 c2) data :: Γ) w) (hm : slices_pdqsortCmpFunc_api_Vintage data a_ b_ limit cmp = some r0_) : Calls Try.prog 79 #[.slice A1 n3 c2, .int .i64 a_, .int .i64 b_, .int .i64 limit, fv4] w (fun e w => e = .returned (.tuple #[]) ∧ Hp w0 (Row K38 (.slice A1 n3 c2) r0_ :: Γ) w) := by
  obtain ⟨gf6, gcap7, rfl, ge8, gp9⟩ := hp5
  obtain rfl := (H.g0).leneq
  unfold slices_pdqsortCmpFunc_api_Vintage at hm
  refine st_enter Try.func79 rfl Try.ntmps79 (Nat.le_of_ble_eq_true rfl) ?_
  refine st_seq ?_
  refine st_region ?_
  refine r_pure (.bool true) rfl ?_
  refine r_seq ?_
  refine st_seq ?_
  refine st_region ?_
  refine r_pure (.bool true) rfl ?_
  refine r_seq ?_
  refine st_block ?_
  obtain ⟨tl12, hl13, hm11⟩ := bind_some hm
  refine st_loopF (slices_pdqsortCmpFunc_api_Vintage.l1 b_ a_ data cmp) (fun s ρ w => () = s ∧ (∃ base, ρ = updl base [(0, .slice A1 data.length c2), (1, .int .i64 a_), (2, .int .i64 b_), (3, .int .i64 limit), (4, .func (.func gf6) #[] (List.toArray gcap7)), (10, .bool true), (11, .bool true)]) ∧ Hp w0 (Row K38 (.slice A1 data.length c2) data :: Γ) w) hl13 (fun _ => rfl) ⟨rfl, upk (ac rfl (ac rfl (ac rfl (ac rfl (ac rfl (ac rfl (ac rfl an))))))), H⟩ ?_
  rintro fuel19 IH21 s ρ w ⟨rfl, ⟨base, rfl⟩, H10⟩ hm
  rw [slices_pdqsortCmpFunc_api_Vintage.l1] at hm
  refine st_block ?_
  refine st_seq ?_
  refine st_region ?_
  refine r_pure (.int .i64 b_) rfl ?_
  refine r_pure (.int .i64 a_) rfl ?_
  refine r_pure (.int .i64 (w64 (b_ - a_))) rfl ?_
  refine r_pure (.int .i64 (w64 (b_ - a_))) rfl ?_
  refine r_seq ?_
  refine st_seq ?_
  refine st_seq ?_
  refine st_region ?_
  refine r_pure (.int .i64 (w64 (b_ - a_))) rfl ?_
  refine r_pure (.bool (decide (w64 (b_ - a_) ≤ 12))) rfl ?_
  refine r_seq ?_
  rcases ite_some hm with ⟨hb22, hm⟩ | ⟨hb22, hm⟩
  · refine st_condt hb22 rfl ?_
    refine st_seq ?_
    refine st_region ?_
    refine r_pure (.slice A1 data.length c2) rfl ?_
    refine r_pure (.int .i64 a_) rfl ?_
    refine r_pure (.int .i64 b_) rfl ?_
    refine r_pure (.func (.func gf6) #[] (List.toArray gcap7)) rfl ?_
    obtain ⟨y23, hy24, hm⟩ := bind_some hm
    refine r_callf Try.call97 (slices_insertionSortCmpFunc_api_Vintage_ok data A1 data.length c2 a_ b_ (.func (.func gf6) #[] (List.toArray gcap7)) cmp ⟨gf6, gcap7, rfl, ge8, fun x y hy Δ w H hΔ => gp9 x y hy Δ w H (fun u hu => (hΔ u hu))⟩ y23 H10 hy24) ?_
    rintro e26 wd25 ⟨rfl, H28⟩
    refine ⟨_, rfl, ?_⟩
    refine r_seq ?_
    have hq_ := Option.some.inj hm
    subst hq_
    have hq_ := Option.some.inj (show some (y23 : (List api_Vintage)) = some r0_ from hm11)
    subst hq_
    refine st_ret0 rfl rfl ?_
    exact ⟨rfl, H28⟩
  · cases hm

set_option maxHeartbeats 2000000 in
theorem slices_SortFunc_api_Vintage_ok {w0 w : World} {Γ : List (World → Prop)} (x_ : List api_Vintage) (A1 : Option Addr) (n3 c2 : Nat) (fv4 : Value) (cmp : (api_Vintage × api_Vintage) → Option Int) (hp5 : FnOk Try.prog w0 Γ fv4 (fun x => [.agg #[.int .i64 x.1.Origin, .int .i64 x.1.Expiry, .int .i64 x.1.Left], .agg #[.int .i64 x.2.Origin, .int .i64 x.2.Expiry, .int .i64 x.2.Left]]) (fun r => .int .i64 r) cmp) (r0_ : List api_Vintage) (H : Hp w0 (Row K38 (.slice A1 n3 c2) x_ :: Γ) w) (hm : slices_SortFunc_api_Vintage x_ cmp = some r0_) : Calls Try.prog 47 #[.slice A1 n3 c2, fv4] w (fun e w => e = .returned (.tuple #[]) ∧ Hp w0 (Row K38 (.slice A1 n3 c2) r0_ :: Γ) w) := by
  obtain ⟨gf6, gcap7, rfl, ge8, gp9⟩ := hp5
  obtain rfl := (H.g0).leneq
  unfold slices_SortFunc_api_Vintage at hm
  refine st_enter Try.func47 rfl Try.ntmps47 (Nat.le_of_ble_eq_true rfl) ?_
  refine st_seq ?_
  refine st_region ?_
  refine r_pure (.slice A1 x_.length c2) rfl ?_
  refine r_len Try.underlying26 rfl ?_
  refine r_pure (.int .i64 (x_.length : Int)) rfl ?_
  refine r_seq ?_
  refine st_region ?_
  refine r_pure (.slice A1 x_.length c2) rfl ?_
  refine r_pure (.int .i64 (x_.length : Int)) rfl ?_
  refine r_pure (.int .i64 (x_.length : Int)) rfl ?_
  refine r_conv Try.underlying3 Try.underlying102 rfl ?_
  obtain ⟨y10, hy11, hm⟩ := bind_some hm
  refine r_callf Try.call80 (math_bits_Len_ok (IntKind.u64.wrap (x_.length : Int)) y10 H hy11) ?_
  rintro e13 wd12 ⟨rfl, H15⟩
  refine ⟨_, rfl, ?_⟩
  refine r_pure (.func (.func gf6) #[] (List.toArray gcap7)) rfl ?_
  obtain ⟨y16, hy17, hm⟩ := bind_some hm
  refine r_callf Try.call79 (slices_pdqsortCmpFunc_api_Vintage_ok x_ A1 x_.length c2 0 (x_.length : Int) y10 (.func (.func gf6) #[] (List.toArray gcap7)) cmp ⟨gf6, gcap7, rfl, ge8, fun x y hy Δ w H hΔ => gp9 x y hy Δ w H (fun u hu => (hΔ u hu))⟩ y16 H15 hy17) ?_
  rintro e19 wd18 ⟨rfl, H21⟩
  refine ⟨_, rfl, ?_⟩
  refine r_nil ?_
  have hq_ := Option.some.inj hm
  subst hq_
  refine n_fin0 rfl ?_
  exact ⟨rfl, H21⟩

set_option maxHeartbeats 2000000 in
theorem cmp_isNaN_int_ok {w0 w : World} {Γ : List (World → Prop)} (x_ : Int) (r0_ : Bool) (H : Hp w0 (Γ) w) (hm : cmp_isNaN_int x_ = some r0_) : Calls Try.prog 81 #[.int .i64 x_] w (fun e w => e = .returned (.bool r0_) ∧ Hp w0 (Γ) w) := by
  unfold cmp_isNaN_int at hm
  refine st_enter Try.func81 rfl Try.ntmps81 (Nat.le_of_ble_eq_true rfl) ?_
  refine st_seq ?_
  refine st_region ?_
  refine r_pure (.bool false) rfl ?_
  refine r_seq ?_
  refine st_seq ?_
  refine st_region ?_
  refine r_pure (.int .i64 x_) rfl ?_
  refine r_pure (.int .i64 x_) rfl ?_
  refine r_pure (.bool (x_ != x_)) rfl ?_
  refine r_pure (.bool (x_ != x_)) rfl ?_
  refine r_seq ?_
  have hq_ := Option.some.inj hm
  subst hq_
  refine st_ret1 rfl rfl (Nat.le_of_ble_eq_true rfl) rfl ?_
  exact ⟨rfl, H⟩

set_option maxHeartbeats 2000000 in
theorem cmp_Compare_int_ok {w0 w : World} {Γ : List (World → Prop)} (x_ : Int) (y_ : Int) (r0_ : Int) (H : Hp w0 (Γ) w) (hm : cmp_Compare_int x_ y_ = some r0_) : Calls Try.prog 50 #[.int .i64 x_, .int .i64 y_] w (fun e w => e = .returned (.int .i64 r0_) ∧ Hp w0 (Γ) w) := by
  unfold cmp_Compare_int at hm
  refine st_enter Try.func50 rfl Try.ntmps50 (Nat.le_of_ble_eq_true rfl) ?_
  refine st_seq ?_
  refine st_region ?_
  refine r_pure (.int .i64 0) rfl ?_
  refine r_seq ?_
  refine st_seq ?_
  refine st_region ?_
  refine r_pure (.int .i64 x_) rfl ?_
  obtain ⟨y1, hy2, hm⟩ := bind_some hm
  refine r_callf Try.call81 (cmp_isNaN_int_ok x_ y1 H hy2) ?_
  rintro e4 wd3 ⟨rfl, H6⟩
  refine ⟨_, rfl, ?_⟩
  refine r_pure (.bool y1) rfl ?_
  refine r_seq ?_
  refine st_seq ?_
  refine st_region ?_
  refine r_pure (.int .i64 y_) rfl ?_
  obtain ⟨y7, hy8, hm⟩ := bind_some hm
  refine r_callf Try.call81 (cmp_isNaN_int_ok y_ y7 H6 hy8) ?_
  rintro e10 wd9 ⟨rfl, H12⟩
  refine ⟨_, rfl, ?_⟩
  refine r_pure (.bool y7) rfl ?_
  refine r_seq ?_
  refine st_seq ?_
  refine st_seq ?_
  refine st_region ?_
  refine r_pure (.bool y1) rfl ?_
  refine r_seq ?_
  rcases ite_some hm with ⟨hb13, hm⟩ | ⟨hb13, hm⟩
  · refine st_condt hb13 rfl ?_
    refine st_seq ?_
    refine st_seq ?_
    refine st_region ?_
    refine r_pure (.bool y7) rfl ?_
    refine r_seq ?_
    rcases ite_some hm with ⟨hb14, hm⟩ | ⟨hb14, hm⟩
    · refine st_condt hb14 rfl ?_
      refine st_seq ?_
      refine st_region ?_
      refine r_pure (.int .i64 0) rfl ?_
      refine r_seq ?_
      have hq_ := Option.some.inj hm
      subst hq_
      refine st_ret1 rfl rfl (Nat.le_of_ble_eq_true rfl) rfl ?_
      exact ⟨rfl, H12⟩
    · refine st_condf hb14 rfl ?_
      refine st_skip ?_
      refine n_sq ?_
      refine st_seq ?_
      refine st_region ?_
      refine r_pure (.int .i64 (-1)) rfl ?_
      refine r_seq ?_
      have hq_ := Option.some.inj hm
      subst hq_
      refine st_ret1 rfl rfl (Nat.le_of_ble_eq_true rfl) rfl ?_
      exact ⟨rfl, H12⟩
  · refine st_condf hb13 rfl ?_
    refine st_skip ?_
    refine n_sq ?_
    refine st_seq ?_
    refine st_seq ?_
    refine st_region ?_
    refine r_pure (.bool y7) rfl ?_
    refine r_seq ?_
    rcases ite_some hm with ⟨hb15, hm⟩ | ⟨hb15, hm⟩
    · refine st_condt hb15 rfl ?_
      refine st_seq ?_
      refine st_region ?_
      refine r_pure (.int .i64 1) rfl ?_
      refine r_seq ?_
      have hq_ := Option.some.inj hm
      subst hq_
      refine st_ret1 rfl rfl (Nat.le_of_ble_eq_true rfl) rfl ?_
      exact ⟨rfl, H12⟩
    · refine st_condf hb15 rfl ?_
      refine st_skip ?_
      refine n_sq ?_
      refine st_seq ?_
      refine st_seq ?_
      refine st_region ?_
      refine r_pure (.int .i64 x_) rfl ?_
      refine r_pure (.int .i64 y_) rfl ?_
      refine r_pure (.bool (decide (x_ < y_))) rfl ?_
      refine r_seq ?_
      rcases ite_some hm with ⟨hb16, hm⟩ | ⟨hb16, hm⟩
      · refine st_condt hb16 rfl ?_
        refine st_seq ?_
        refine st_region ?_
        refine r_pure (.int .i64 (-1)) rfl ?_
        refine r_seq ?_
        have hq_ := Option.some.inj hm
        subst hq_
        refine st_ret1 rfl rfl (Nat.le_of_ble_eq_true rfl) rfl ?_
        exact ⟨rfl, H12⟩
      · refine st_condf hb16 rfl ?_
        refine st_skip ?_
        refine n_sq ?_
        refine st_seq ?_
        refine st_seq ?_
        refine st_region ?_
        refine r_pure (.int .i64 x_) rfl ?_
        refine r_pure (.int .i64 y_) rfl ?_
        refine r_pure (.bool (decide (x_ > y_))) rfl ?_
        refine r_seq ?_
        rcases ite_some hm with ⟨hb17, hm⟩ | ⟨hb17, hm⟩
        · refine st_condt hb17 rfl ?_
          refine st_seq ?_
          refine st_region ?_
          refine r_pure (.int .i64 1) rfl ?_
          refine r_seq ?_
          have hq_ := Option.some.inj hm
          subst hq_
          refine st_ret1 rfl rfl (Nat.le_of_ble_eq_true rfl) rfl ?_
          exact ⟨rfl, H12⟩
        · refine st_condf hb17 rfl ?_
          refine st_skip ?_
          refine n_sq ?_
          refine st_seq ?_
          refine st_region ?_
          refine r_pure (.int .i64 0) rfl ?_
          refine r_seq ?_
          have hq_ := Option.some.inj hm
          subst hq_
          refine st_ret1 rfl rfl (Nat.le_of_ble_eq_true rfl) rfl ?_
          exact ⟨rfl, H12⟩

set_option maxHeartbeats 2000000 in
theorem cmp_Or_int_ok {w0 w : World} {Γ : List (World → Prop)} (vals : List Int) (A1 : Option Addr) (n6 c2 : Nat) (hn5 : n6 = vals.length) (hc3 : vals.length ≤ c2) (hv4 : ∀ u, Hp w0 Γ u → SlR K3 A1 vals u) (r0_ : Int) (H : Hp w0 (Γ) w) (hm : cmp_Or_int vals = some r0_) : Calls Try.prog 49 #[.slice A1 n6 c2] w (fun e w => e = .returned (.int .i64 r0_) ∧ Hp w0 (Γ) w) := by
  subst hn5
  unfold cmp_Or_int at hm
  refine st_enter Try.func49 rfl Try.ntmps49 (Nat.le_of_ble_eq_true rfl) ?_
  refine st_seq ?_
  refine st_region ?_
  refine r_pure (.int .i64 0) rfl ?_
  refine r_seq ?_
  refine st_seq ?_
  refine st_region ?_
  refine r_pure (.int .i64 0) rfl ?_
  refine r_seq ?_
  refine st_seq ?_
  refine st_seq ?_
  refine st_region ?_
  refine r_pure (.slice A1 vals.length c2) rfl ?_
  refine r_len Try.underlying29 rfl ?_
  refine r_pure (.int .i64 0) rfl ?_
  refine r_seq ?_
  refine st_block ?_
  have hlim26 := (hv4 _ H).lim
  obtain ⟨tl9, hl10, hm8⟩ := bind_some hm
  refine st_loopL (cmp_Or_int.l1) (fun ys15 s ρ w => ∃ i11 : Int, ∃ dn12 : List Int, i11 = s ∧ vals = dn12 ++ ys15 ∧ i11 = (dn12.length : Int) ∧ (∃ base, ρ = updl base [(3, .int .i64 0), (6, .slice A1 vals.length c2), (7, .int .i64 (vals.length : Int)), (8, .int .i64 i11)]) ∧ Hp w0 (Γ) w) hl10 ⟨0, [], rfl, rfl, rfl, upk (ac rfl (ac rfl (ac rfl (ac rfl an)))), H⟩ ?_
  rintro m ys15 IH19 s ρ w ⟨i11, dn12, rfl, hxs13, hi14, ⟨base, rfl⟩, H7⟩ hm
  rcases ys15 with _ | ⟨y16, ys15⟩
  · rw [cmp_Or_int.l1] at hm
    have hb20 := range_end hxs13 hi14
    refine st_seq ?_
    refine st_region ?_
    refine r_pure (.bool (decide (i11 < (vals.length : Int)))) rfl ?_
    refine r_seq ?_
    refine st_seq ?_
    refine st_condf hb20 rfl ?_
    have hq_ := Option.some.inj hm
    refine st_exit rfl ?_
    subst hq_
    refine n_sq ?_
    refine st_seq ?_
    refine st_region ?_
    refine r_pure (.int .i64 0) rfl ?_
    refine r_pure (.int .i64 0) rfl ?_
    refine r_seq ?_
    have hq_ := Option.some.inj hm8
    subst hq_
    refine st_ret1 rfl rfl (Nat.le_of_ble_eq_true rfl) rfl ?_
    exact ⟨rfl, H7⟩
  · rw [cmp_Or_int.l1] at hm
    have hb21 := range_in hxs13 hi14
    obtain ⟨h022, h123, hj24⟩ := range_ix hxs13 hi14
    have hnx25 := range_next hxs13 hi14 hlim26
    refine st_seq ?_
    refine st_region ?_
    refine r_pure (.bool (decide (i11 < (vals.length : Int)))) rfl ?_
    refine r_seq ?_
    refine st_seq ?_
    refine st_condt hb21 rfl ?_
    refine st_skip ?_
    refine n_sq ?_
    refine st_seq ?_
    refine st_block ?_
    refine st_seq ?_
    refine st_region ?_
    have hA27 := (hv4 _ H7).adO hj24
    refine r_ix IX29 rfl rfl hA27 h022 h123 ?_
    refine r_ld1 (.int .i64 y16) LD3 rfl ((hv4 _ H7).c0A hA27 hj24 _ rfl) ?_
    refine r_pure (.int .i64 y16) rfl ?_
    refine r_seq ?_
    refine st_seq ?_
    refine st_region ?_
    refine r_pure (.int .i64 y16) rfl ?_
    refine r_pure (.int .i64 0) rfl ?_
    refine r_pure (.bool (y16 != 0)) rfl ?_
    refine r_seq ?_
    rcases ite_some hm with ⟨hb28, hm⟩ | ⟨hb28, hm⟩
    · refine st_condt hb28 rfl ?_
      refine st_seq ?_
      refine st_region ?_
      refine r_pure (.int .i64 y16) rfl ?_
      refine r_pure (.int .i64 y16) rfl ?_
      refine r_seq ?_
      have hq_ := Option.some.inj hm
      subst hq_
      have hq_ := Option.some.inj (show some (y16 : Int) = some r0_ from hm8)
      subst hq_
      refine st_ret1 rfl rfl (Nat.le_of_ble_eq_true rfl) rfl ?_
      exact ⟨rfl, H7⟩
    · refine st_condf hb28 rfl ?_
      refine st_skip ?_
      refine n_bl ?_
      refine n_sq ?_
      refine st_region ?_
      refine r_pure (.int .i64 (w64 (i11 + 1))) rfl ?_
      refine r_pure (.int .i64 (w64 (i11 + 1))) rfl ?_
      refine r_nil ?_
      refine n_round (IH19 _ _ rfl _ _ _ ⟨i11 + 1, dn12 ++ [y16], rfl, range_more hxs13, range_len hi14, upk (ac rfl (ac rfl (ac rfl (ac hnx25 an)))), H7⟩ hm)

set_option maxHeartbeats 2000000 in
theorem vintage_Losses_Add_c2_ok {w0 w : World} {Γ : List (World → Prop)} (a_ : api_Vintage) (b_ : api_Vintage) (r0_ : Int) (H : Hp w0 (Γ) w) (hm : vintage_Losses_Add_c2 a_ b_ = some r0_) : Calls Try.prog 48 #[.agg #[.int .i64 a_.Origin, .int .i64 a_.Expiry, .int .i64 a_.Left], .agg #[.int .i64 b_.Origin, .int .i64 b_.Expiry, .int .i64 b_.Left]] w (fun e w => e = .returned (.int .i64 r0_) ∧ Hp w0 (Γ) w) := by
  unfold vintage_Losses_Add_c2 at hm
  refine st_enter Try.func48 rfl Try.ntmps48 (Nat.le_of_ble_eq_true rfl) ?_
  refine st_seq ?_
  refine st_region ?_
  refine r_box [.int .i64 a_.Origin, .int .i64 a_.Expiry, .int .i64 a_.Left] H rfl ?_
  intro b1 wd3 H2
  refine r_box [.int .i64 b_.Origin, .int .i64 b_.Expiry, .int .i64 b_.Left] H2 rfl ?_
  intro b4 wd6 H5
  refine r_pure (.int .i64 0) rfl ?_
  refine r_seq ?_
  refine st_seq ?_
  obtain ⟨y8, hy9, hm⟩ := bind_some hm
  obtain ⟨y14, hy15, hm⟩ := bind_some hm
  obtain ⟨y23, hy24, hm⟩ := bind_some hm
  refine Flow.run' [[], [0], [], [2], [0, 1, 2, 3], [], [5], [], [7], [0, 1, 2, 3, 4, 5, 6, 7, 8], [0, 1, 2, 3, 4, 5, 6, 7, 8, 9], [0, 1, 2, 3, 4, 5, 6, 7, 8, 9, 10], [0, 1, 2, 3, 4, 5, 6, 7, 8, 9, 10, 11]] [(5, 0), (6, 1), (7, 2), (8, 3), (9, 4), (10, 5), (11, 6), (12, 7), (13, 8), (14, 9), (15, 10), (16, 11), (4, 12)] [(fun η7 v => v.1 = .pointer (some ⟨b1, 1, none⟩)), (fun η7 v => v.1 = .int .i64 a_.Expiry), (fun η7 v => v.1 = .pointer (some ⟨b4, 1, none⟩)), (fun η7 v => v.1 = .int .i64 b_.Expiry), (fun η7 v => v.1 = .int .i64 y8), (fun η7 v => v.1 = .pointer (some ⟨b1, 0, none⟩)), (fun η7 v => v.1 = .int .i64 a_.Origin), (fun η7 v => v.1 = .pointer (some ⟨b4, 0, none⟩)), (fun η7 v => v.1 = .int .i64 b_.Origin), (fun η7 v => v.1 = .int .i64 y14), (fun η7 v => v.1 = .slice (some ⟨(oA (vA (v.1))).block, 0, none⟩) 2 2), (fun η7 v => v.1 = .int .i64 y23), (fun η7 v => v.1 = .int .i64 y23)] [⟨(some 10), none, fun η7 => Row K3 (.slice (some ⟨(oA (vA ((η7 10).1))).block, 0, none⟩) 2 2) [y8, y14]⟩] rfl (by kernel_rfl) (by kernel_rfl) H5 ⟨?_, ?_, ?_, ?_, ?_, ?_, ?_, ?_, ?_, ?_, ?_, ?_, ?_, trivial⟩ ?_
  · intro η7 wd32 Δ33 hE29 hR30 H31
    have H31 : Hp w0 ((Δ33 ++ (Bx b4 38 [.int .i64 b_.Origin, .int .i64 b_.Expiry, .int .i64 b_.Left] :: Bx b1 38 [.int .i64 a_.Origin, .int .i64 a_.Expiry, .int .i64 a_.Left] :: Γ))) wd32 := H31
    refine sp_op [(2, .pointer (some ⟨b1, 0, none⟩))] (ac rfl an) ?_
    refine r_fa FA38_1 ⟨b1, 1, none⟩ rfl rfl ?_
    exact r_nil (n_lp ⟨_, rfl, undef, rfl, H31⟩)
  · intro η7 wd37 Δ38 hE34 hR35 H36
    have H36 : Hp w0 ((Δ38 ++ (Bx b4 38 [.int .i64 b_.Origin, .int .i64 b_.Expiry, .int .i64 b_.Left] :: Bx b1 38 [.int .i64 a_.Origin, .int .i64 a_.Expiry, .int .i64 a_.Left] :: Γ))) wd37 := H36
    refine sp_op [(5, .pointer (some ⟨b1, 1, none⟩))] (ac (hE34 0 (by decide)) an) ?_
    refine r_ld1 (.int .i64 a_.Expiry) LD3 rfl (((H36).tl.g1).cell _ rfl) ?_
    exact r_nil (n_lp ⟨_, rfl, undef, rfl, H36⟩)
  · intro η7 wd42 Δ43 hE39 hR40 H41
    have H41 : Hp w0 ((Δ43 ++ (Bx b4 38 [.int .i64 b_.Origin, .int .i64 b_.Expiry, .int .i64 b_.Left] :: Bx b1 38 [.int .i64 a_.Origin, .int .i64 a_.Expiry, .int .i64 a_.Left] :: Γ))) wd42 := H41
    refine sp_op [(3, .pointer (some ⟨b4, 0, none⟩))] (ac rfl an) ?_
    refine r_fa FA38_1 ⟨b4, 1, none⟩ rfl rfl ?_
    exact r_nil (n_lp ⟨_, rfl, undef, rfl, H41⟩)
  · intro η7 wd47 Δ48 hE44 hR45 H46
    have H46 : Hp w0 ((Δ48 ++ (Bx b4 38 [.int .i64 b_.Origin, .int .i64 b_.Expiry, .int .i64 b_.Left] :: Bx b1 38 [.int .i64 a_.Origin, .int .i64 a_.Expiry, .int .i64 a_.Left] :: Γ))) wd47 := H46
    refine sp_op [(7, .pointer (some ⟨b4, 1, none⟩))] (ac (hE44 2 (by decide)) an) ?_
    refine r_ld1 (.int .i64 b_.Expiry) LD3 rfl (((H46).tl.g0).cell _ rfl) ?_
    exact r_nil (n_lp ⟨_, rfl, undef, rfl, H46⟩)
  · intro η7 wd52 Δ53 hE49 hR50 H51
    have H51 : Hp w0 ((Δ53 ++ (Bx b4 38 [.int .i64 b_.Origin, .int .i64 b_.Expiry, .int .i64 b_.Left] :: Bx b1 38 [.int .i64 a_.Origin, .int .i64 a_.Expiry, .int .i64 a_.Left] :: Γ))) wd52 := H51
    refine sp_op [(6, .int .i64 a_.Expiry), (8, .int .i64 b_.Expiry)] (ac (hE49 1 (by decide)) (ac (hE49 3 (by decide)) an)) ?_
    refine r_callf Try.call50 (cmp_Compare_int_ok a_.Expiry b_.Expiry y8 H51 hy9) ?_
    rintro e57 wd56 ⟨rfl, H59⟩
    refine ⟨_, rfl, ?_⟩
    exact r_nil (n_lp ⟨_, rfl, undef, rfl, H59⟩)
  · intro η7 wd63 Δ64 hE60 hR61 H62
    have H62 : Hp w0 ((Δ64 ++ (Bx b4 38 [.int .i64 b_.Origin, .int .i64 b_.Expiry, .int .i64 b_.Left] :: Bx b1 38 [.int .i64 a_.Origin, .int .i64 a_.Expiry, .int .i64 a_.Left] :: Γ))) wd63 := H62
    refine sp_op [(2, .pointer (some ⟨b1, 0, none⟩))] (ac rfl an) ?_
    refine r_fa FA38_0 ⟨b1, 0, none⟩ rfl rfl ?_
    exact r_nil (n_lp ⟨_, rfl, undef, rfl, H62⟩)
  · intro η7 wd68 Δ69 hE65 hR66 H67
    have H67 : Hp w0 ((Δ69 ++ (Bx b4 38 [.int .i64 b_.Origin, .int .i64 b_.Expiry, .int .i64 b_.Left] :: Bx b1 38 [.int .i64 a_.Origin, .int .i64 a_.Expiry, .int .i64 a_.Left] :: Γ))) wd68 := H67
    refine sp_op [(10, .pointer (some ⟨b1, 0, none⟩))] (ac (hE65 5 (by decide)) an) ?_
    refine r_ld1 (.int .i64 a_.Origin) LD3 rfl (((H67).tl.g1).cell _ rfl) ?_
    exact r_nil (n_lp ⟨_, rfl, undef, rfl, H67⟩)
  · intro η7 wd73 Δ74 hE70 hR71 H72
    have H72 : Hp w0 ((Δ74 ++ (Bx b4 38 [.int .i64 b_.Origin, .int .i64 b_.Expiry, .int .i64 b_.Left] :: Bx b1 38 [.int .i64 a_.Origin, .int .i64 a_.Expiry, .int .i64 a_.Left] :: Γ))) wd73 := H72
    refine sp_op [(3, .pointer (some ⟨b4, 0, none⟩))] (ac rfl an) ?_
    refine r_fa FA38_0 ⟨b4, 0, none⟩ rfl rfl ?_
    exact r_nil (n_lp ⟨_, rfl, undef, rfl, H72⟩)
  · intro η7 wd78 Δ79 hE75 hR76 H77
    have H77 : Hp w0 ((Δ79 ++ (Bx b4 38 [.int .i64 b_.Origin, .int .i64 b_.Expiry, .int .i64 b_.Left] :: Bx b1 38 [.int .i64 a_.Origin, .int .i64 a_.Expiry, .int .i64 a_.Left] :: Γ))) wd78 := H77
    refine sp_op [(12, .pointer (some ⟨b4, 0, none⟩))] (ac (hE75 7 (by decide)) an) ?_
    refine r_ld1 (.int .i64 b_.Origin) LD3 rfl (((H77).tl.g0).cell _ rfl) ?_
    exact r_nil (n_lp ⟨_, rfl, undef, rfl, H77⟩)
  · intro η7 wd83 Δ84 hE80 hR81 H82
    have H82 : Hp w0 ((Δ84 ++ (Bx b4 38 [.int .i64 b_.Origin, .int .i64 b_.Expiry, .int .i64 b_.Left] :: Bx b1 38 [.int .i64 a_.Origin, .int .i64 a_.Expiry, .int .i64 a_.Left] :: Γ))) wd83 := H82
    refine sp_op [(11, .int .i64 a_.Origin), (13, .int .i64 b_.Origin)] (ac (hE80 6 (by decide)) (ac (hE80 8 (by decide)) an)) ?_
    refine r_callf Try.call50 (cmp_Compare_int_ok a_.Origin b_.Origin y14 H82 hy15) ?_
    rintro e88 wd87 ⟨rfl, H90⟩
    refine ⟨_, rfl, ?_⟩
    exact r_nil (n_lp ⟨_, rfl, undef, rfl, H90⟩)
  · intro η7 wd94 Δ95 hE91 hR92 H93
    have H93 : Hp w0 ((Δ95 ++ (Bx b4 38 [.int .i64 b_.Origin, .int .i64 b_.Expiry, .int .i64 b_.Left] :: Bx b1 38 [.int .i64 a_.Origin, .int .i64 a_.Expiry, .int .i64 a_.Left] :: Γ))) wd94 := H93
    refine sp_op [(9, .int .i64 y8), (14, .int .i64 y14)] (ac (hE91 4 (by decide)) (ac (hE91 9 (by decide)) an)) ?_
    refine r_buildSlice (K := K3) [y8, y14] EL29 rfl rfl rfl (by decide) (by decide) rfl H93 ?_
    intro b96 wd98 H97
    exact r_nil (n_lp ⟨_, rfl, (.tuple #[.slice (some ⟨b96, 0, none⟩) 2 2]), rfl, H97⟩)
  · intro η7 wd102 Δ103 hE99 hR100 H101
    have H101 : Hp w0 ((Δ103 ++ (Bx b4 38 [.int .i64 b_.Origin, .int .i64 b_.Expiry, .int .i64 b_.Left] :: Bx b1 38 [.int .i64 a_.Origin, .int .i64 a_.Expiry, .int .i64 a_.Left] :: Γ))) wd102 := H101
    refine sp_op [(15, .slice (some ⟨(oA (vA ((η7 10).1))).block, 0, none⟩) 2 2)] (ac (hE99 10 (by decide)) an) ?_
    refine r_callf Try.call49 (cmp_Or_int_ok [y8, y14] (some ⟨(oA (vA ((η7 10).1))).block, 0, none⟩) 2 2 rfl (((show (Row K3 (.slice (some ⟨(oA (vA ((η7 10).1))).block, 0, none⟩) 2 2) [y8, y14]) _ from ((H101)).memr (hR100 _ (List.mem_of_getElem? (i := 0) rfl) rfl))).cap) (fun _ H => ((show (Row K3 (.slice (some ⟨(oA (vA ((η7 10).1))).block, 0, none⟩) 2 2) [y8, y14]) _ from (H).memr (hR100 _ (List.mem_of_getElem? (i := 0) rfl) rfl)).rd)) y23 H101 hy24) ?_
    rintro e107 wd106 ⟨rfl, H109⟩
    refine ⟨_, rfl, ?_⟩
    exact r_nil (n_lp ⟨_, rfl, undef, rfl, H109⟩)
  · intro η7 wd113 Δ114 hE110 hR111 H112
    have H112 : Hp w0 ((Δ114 ++ (Bx b4 38 [.int .i64 b_.Origin, .int .i64 b_.Expiry, .int .i64 b_.Left] :: Bx b1 38 [.int .i64 a_.Origin, .int .i64 a_.Expiry, .int .i64 a_.Left] :: Γ))) wd113 := H112
    refine sp_op [(16, .int .i64 y23)] (ac (hE110 11 (by decide)) an) ?_
    refine r_pure (.int .i64 y23) rfl ?_
    exact r_nil (n_lp ⟨_, rfl, undef, rfl, H112⟩)
  · intro η7 wd116 hV117 H115
    have H118 : Hp w0 (Row K3 (.slice (some ⟨(oA (vA ((η7 10).1))).block, 0, none⟩) 2 2) [y8, y14] :: Bx b4 38 [.int .i64 b_.Origin, .int .i64 b_.Expiry, .int .i64 b_.Left] :: Bx b1 38 [.int .i64 a_.Origin, .int .i64 a_.Expiry, .int .i64 a_.Left] :: Γ) wd116 := H115
    refine n_frame [(4, .int .i64 y23)] (ac (hV117 12 rfl) an) ?_
    refine n_sq ?_
    have hq_ := Option.some.inj hm
    subst hq_
    refine st_ret1 rfl rfl (Nat.le_of_ble_eq_true rfl) rfl ?_
    exact ⟨rfl, H118.d.d.d⟩

set_option maxHeartbeats 2000000 in
theorem vintage_Losses_Add_ok {w0 w : World} {Γ : List (World → Prop)} (b1 : Nat) (l_ : vintage_Losses) (A2 : Option Addr) (c3 : Nat) (origin : Int) (expiry : Int) (n_ : Int) (r0_ : Int) (r1_ : vintage_Losses) (H : Hp w0 (Bx b1 75 [.slice A2 l_.f_l.length c3] :: Row K38 (.slice A2 l_.f_l.length c3) l_.f_l :: Γ) w) (hm : vintage_Losses_Add l_ origin expiry n_ = some (r0_, r1_)) : Calls Try.prog 12 #[.pointer (some ⟨b1, 0, none⟩), .int .i64 origin, .int .i64 expiry, .int .i64 n_] w (fun e w => ∃ (Ax1 : Option Addr) (nx2 cx3 : Nat), e = .returned (.int .i64 r0_) ∧ Hp w0 (Bx b1 75 [.slice Ax1 nx2 cx3] :: Row K38 (.slice Ax1 nx2 cx3) r1_.f_l :: Γ) w) := by
  unfold vintage_Losses_Add at hm
  refine st_enter Try.func12 rfl Try.ntmps12 (Nat.le_of_ble_eq_true rfl) ?_
  refine st_seq ?_
  refine st_region ?_
  refine r_box [.int .i64 origin] H rfl ?_
  intro b4 wd6 H5
  refine r_box [.int .i64 expiry] H5 rfl ?_
  intro b7 wd9 H8
  refine r_pure (.int .i64 0) rfl ?_
  refine r_seq ?_
  refine st_seq ?_
  refine st_region ?_
  refine r_pure (.pointer (some ⟨b1, 0, none⟩)) rfl ?_
  refine r_pure (.pointer (some ⟨b1, 0, none⟩)) rfl ?_
  refine r_fa FA75_0 ⟨b1, 0, none⟩ rfl rfl ?_
  refine r_ld1 (.slice A2 l_.f_l.length c3) LD26 rfl ((H8.g2).cell _ rfl) ?_
  refine r_func (.func (.func 44) #[] #[.pointer (some ⟨b4, 0, none⟩), .pointer (some ⟨b7, 0, none⟩)]) rfl ?_
  obtain ⟨y10, hy11, hm⟩ := bind_some hm
  refine r_callf Try.call43 (slices_IndexFunc_api_Vintage_ok l_.f_l A2 l_.f_l.length c3 rfl (((H8).g3).cap) (fun _ H => (H.g3.rd)) (.func (.func 44) #[] #[.pointer (some ⟨b4, 0, none⟩), .pointer (some ⟨b7, 0, none⟩)]) (fun x => vintage_Losses_Add_c1 x origin expiry) ⟨44, [.pointer (some ⟨b4, 0, none⟩), .pointer (some ⟨b7, 0, none⟩)], rfl, Try.call44, fun x y hy Δ w H hΔ => vintage_Losses_Add_c1_ok x b4 origin (fun _ H => ((hΔ _ H).g1)) b7 expiry (fun _ H => ((hΔ _ H).g0)) y H hy⟩ y10 H8 hy11) ?_
  rintro e13 wd12 ⟨rfl, H15⟩
  refine ⟨_, rfl, ?_⟩
  refine r_pure (.int .i64 y10) rfl ?_
  refine r_seq ?_
  refine st_seq ?_
  refine st_block ?_
  refine st_cut (fun ρ w => ∃ q16 : Bool, (∃ base, ρ = updl base [(0, .pointer (some ⟨b1, 0, none⟩)), (3, .int .i64 n_), (5, .pointer (some ⟨b4, 0, none⟩)), (6, .pointer (some ⟨b7, 0, none⟩)), (9, .int .i64 y10), (16, .bool q16)]) ∧ Hp w0 (Row K38 (.slice A2 l_.f_l.length c3) l_.f_l :: Bx b1 75 [.slice A2 l_.f_l.length c3] :: Bx b4 3 [.int .i64 origin] :: Bx b7 3 [.int .i64 expiry] :: Γ) w ∧ vintage_Losses_Add.j1 l_ n_ y10 origin expiry q16 = some (r0_, r1_)) ?_ ?_
  · refine st_region ?_
    refine r_ld1 (.int .i64 origin) LD3 rfl ((H15.g1).cell _ rfl) ?_
    refine r_ld1 (.int .i64 expiry) LD3 rfl ((H15.g0).cell _ rfl) ?_
    obtain ⟨y245, hy246, hm⟩ := bind_some hm
    refine r_callf Try.call45 (vintage_right_ok origin expiry y245 H15 hy246) ?_
    rintro e248 wd247 ⟨rfl, H250⟩
    refine ⟨_, rfl, ?_⟩
    refine r_pure (.bool (!y245)) rfl ?_
    refine r_pure (.bool (!y245)) rfl ?_
    rcases ite_some hm with ⟨hb251, hm⟩ | ⟨hb251, hm⟩
    · refine r_not (wn_f rfl rfl (by decide) rfl hb251) ?_
      refine r_not (wn_f rfl rfl (by decide) rfl hb251) ?_
      refine r_pick_t (.bool true) hb251 rfl rfl ?_
      refine r_pure (.bool true) rfl ?_
      refine r_not (wn_f rfl rfl (by decide) rfl rfl) ?_
      refine r_not (wn_f rfl rfl (by decide) rfl rfl) ?_
      refine r_not (wn_f rfl rfl (by decide) rfl rfl) ?_
      refine r_pick_t (.bool true) rfl rfl rfl ?_
      refine r_pure (.bool true) rfl ?_
      refine r_nil ?_
      refine n_cut ⟨true, upk (ac rfl (ac rfl (ac rfl (ac rfl (ac rfl (ac rfl an)))))), H250.u1.u2.u3, hm⟩
    · refine r_pure (.int .i64 n_) rfl ?_ (wn_t rfl rfl (by decide) rfl hb251)
      refine r_pure (.bool (decide (n_ < 1))) rfl ?_ (wn_t rfl rfl (by decide) rfl hb251)
      refine r_pick_f (.bool (decide (n_ < 1))) hb251 rfl rfl ?_
      refine r_pure (.bool (decide (n_ < 1))) rfl ?_
      rcases ite_some hm with ⟨hb252, hm⟩ | ⟨hb252, hm⟩
      · refine r_not (wn_f rfl rfl (by decide) rfl hb252) ?_
        refine r_not (wn_f rfl rfl (by decide) rfl hb252) ?_
        refine r_not (wn_f rfl rfl (by decide) rfl hb252) ?_
        refine r_pick_t (.bool true) hb252 rfl rfl ?_
        refine r_pure (.bool true) rfl ?_
        refine r_nil ?_
        refine n_cut ⟨true, upk (ac rfl (ac rfl (ac rfl (ac rfl (ac rfl (ac rfl an)))))), H250.u1.u2.u3, hm⟩
      · refine r_pure (.int .i64 n_) rfl ?_ (wn_t rfl rfl (by decide) rfl hb252)
        obtain ⟨y253, hy254, hm⟩ := bind_some hm
        refine r_callf Try.call46 (rate_Money_ok n_ y253 H250 hy254) ?_ (wn_t rfl rfl (by decide) rfl hb252)
        rintro e256 wd255 ⟨rfl, H258⟩
        refine ⟨_, rfl, ?_⟩
        refine r_pure (.bool (!y253)) rfl ?_ (wn_t rfl rfl (by decide) rfl hb252)
        refine r_pick_f (.bool (!y253)) hb252 rfl rfl ?_
        refine r_pure (.bool (!y253)) rfl ?_
        refine r_nil ?_
        refine n_cut ⟨!y253, upk (ac rfl (ac rfl (ac rfl (ac rfl (ac rfl (ac rfl an)))))), H258.u1.u2.u3, hm⟩
  · rintro ρ w ⟨q16, ⟨base, rfl⟩, H17, hm⟩
    unfold vintage_Losses_Add.j1 at hm
    rcases ite_some hm with ⟨hb18, hm⟩ | ⟨hb18, hm⟩
    · refine st_condt hb18 rfl ?_
      refine st_seq ?_
      refine st_region ?_
      refine r_pure (.int .i64 1) rfl ?_
      refine r_seq ?_
      obtain ⟨rfl, rfl⟩ := some_inj2 hm
      refine st_ret1 rfl rfl (Nat.le_of_ble_eq_true rfl) rfl ?_
      exact ⟨A2, l_.f_l.length, c3, rfl, H17.u2.d.u2.d.u1⟩
    · refine st_condf hb18 rfl ?_
      refine st_seq ?_
      refine st_region ?_
      refine r_pure (.pointer (some ⟨b1, 0, none⟩)) rfl ?_
      obtain ⟨y19, hy20, hm⟩ := bind_some hm
      refine r_callf Try.call23 (vintage_Losses_Left_ok b1 (⟨l_.f_l⟩ : vintage_Losses) A2 l_.f_l.length c3 rfl (((H17).g0).cap) (fun _ H => (H.g0.rd)) (fun _ H => (H.g1)) y19 H17 hy20) ?_
      rintro e22 wd21 ⟨rfl, H24⟩
      refine ⟨_, rfl, ?_⟩
      refine r_pure (.int .i64 n_) rfl ?_
      refine r_pure (.int .i64 (w64 (y19 + n_))) rfl ?_
      obtain ⟨y25, hy26, hm⟩ := bind_some hm
      refine r_callf Try.call46 (rate_Money_ok (w64 (y19 + n_)) y25 H24 hy26) ?_
      rintro e28 wd27 ⟨rfl, H30⟩
      refine ⟨_, rfl, ?_⟩
      refine r_pure (.bool (!y25)) rfl ?_
      refine r_pure (.bool (!y25)) rfl ?_
      refine r_seq ?_
      rcases ite_some hm with ⟨hb31, hm⟩ | ⟨hb31, hm⟩
      · refine st_condt hb31 rfl ?_
        refine st_seq ?_
        refine st_region ?_
        refine r_pure (.int .i64 6) rfl ?_
        refine r_seq ?_
        obtain ⟨rfl, rfl⟩ := some_inj2 hm
        refine st_ret1 rfl rfl (Nat.le_of_ble_eq_true rfl) rfl ?_
        exact ⟨A2, l_.f_l.length, c3, rfl, H30.u2.d.u2.d.u1⟩
      · refine st_condf hb31 rfl ?_
        refine st_seq ?_
        refine st_region ?_
        refine r_pure (.int .i64 y10) rfl ?_
        refine r_pure (.bool (decide (y10 ≥ 0))) rfl ?_
        refine r_pure (.bool (decide (y10 ≥ 0))) rfl ?_
        refine r_seq ?_
        rcases ite_some hm with ⟨hb32, hm⟩ | ⟨hb32, hm⟩
        · refine st_condt hb32 rfl ?_
          refine st_seq ?_
          obtain ⟨⟨h034, h135⟩, hm⟩ := gd_some hm
          have hj36 := rd_get h034 h135
          refine Flow.run' [[], [0], [0, 1], [0, 1, 2], [], [], [5], [5, 6], [5, 6, 7], [], [5, 6, 7, 8, 9], [5, 6, 7, 8, 9, 10], [5, 6, 7, 8, 9, 10, 11], [], [5, 6, 7, 8, 9, 10, 11, 12, 13], [0, 1, 2, 3, 4, 5, 6, 7, 8, 9, 10, 11, 12, 13, 14], [0, 1, 2, 3, 4, 5, 6, 7, 8, 9, 10, 11, 12, 13, 14, 15], [0, 1, 2, 3, 4, 5, 6, 7, 8, 9, 10, 11, 12, 13, 14, 15, 16]] [(40, 0), (41, 1), (42, 2), (43, 3), (44, 4), (45, 5), (46, 6), (47, 7), (48, 8), (49, 9), (50, 10), (51, 11), (52, 12), (53, 13), (54, 14), (55, 15), (56, 16)] [(fun η33 v => v.1 = .pointer (some ⟨b1, 0, none⟩)), (fun η33 v => v.1 = .pointer (some ⟨b1, 0, none⟩)), (fun η33 v => v.1 = .pointer (some ⟨b1, 0, none⟩)), (fun η33 v => v.1 = .slice A2 l_.f_l.length c3), (fun η33 v => v.1 = .int .i64 y10), (fun η33 v => v.1 = .pointer (some ⟨b1, 0, none⟩)), (fun η33 v => v.1 = .pointer (some ⟨b1, 0, none⟩)), (fun η33 v => v.1 = .pointer (some ⟨b1, 0, none⟩)), (fun η33 v => v.1 = .slice A2 l_.f_l.length c3), (fun η33 v => v.1 = .int .i64 y10), (fun η33 v => v.1 = .pointer (some ((oA A2).add (Int.toNat y10 * 3)))), (fun η33 v => v.1 = .pointer (some (((oA A2).add (Int.toNat y10 * 3)).add 2))), (fun η33 v => v.1 = .int .i64 ((rd l_.f_l y10).Left)), (fun η33 v => v.1 = .int .i64 n_), (fun η33 v => v.1 = .int .i64 (w64 ((rd l_.f_l y10).Left + n_))), (fun η33 v => v.1 = .pointer (some ((oA A2).add (Int.toNat y10 * 3)))), (fun η33 v => v.1 = .pointer (some (((oA A2).add (Int.toNat y10 * 3)).add 2))), (fun _ _ => True)] [⟨none, (some 17), fun η33 => Row K38 (.slice A2 l_.f_l.length c3) l_.f_l⟩, ⟨(some 17), none, fun η33 => Row K38 (.slice A2 l_.f_l.length c3) (l_.f_l.set (Int.toNat y10) (⟨(rd l_.f_l y10).Origin, (rd l_.f_l y10).Expiry, w64 ((rd l_.f_l y10).Left + n_)⟩ : api_Vintage))⟩] rfl (by kernel_rfl) (by kernel_rfl) H30 ⟨?_, ?_, ?_, ?_, ?_, ?_, ?_, ?_, ?_, ?_, ?_, ?_, ?_, ?_, ?_, ?_, ?_, ?_, trivial⟩ ?_
          · intro η33 wd43 Δ44 hE40 hR41 H42
            have H42 : Hp w0 ((Δ44 ++ (Bx b1 75 [.slice A2 l_.f_l.length c3] :: Bx b4 3 [.int .i64 origin] :: Bx b7 3 [.int .i64 expiry] :: Γ))) wd43 := H42
            refine sp_op [(0, .pointer (some ⟨b1, 0, none⟩))] (ac rfl an) ?_
            refine r_pure (.pointer (some ⟨b1, 0, none⟩)) rfl ?_
            exact r_nil (n_lp ⟨_, rfl, undef, rfl, H42⟩)
          · intro η33 wd48 Δ49 hE45 hR46 H47
            have H47 : Hp w0 ((Δ49 ++ (Bx b1 75 [.slice A2 l_.f_l.length c3] :: Bx b4 3 [.int .i64 origin] :: Bx b7 3 [.int .i64 expiry] :: Γ))) wd48 := H47
            refine sp_op [(40, .pointer (some ⟨b1, 0, none⟩))] (ac (hE45 0 (by decide)) an) ?_
            refine r_pure (.pointer (some ⟨b1, 0, none⟩)) rfl ?_
            exact r_nil (n_lp ⟨_, rfl, undef, rfl, H47⟩)
          · intro η33 wd53 Δ54 hE50 hR51 H52
            have H52 : Hp w0 ((Δ54 ++ (Bx b1 75 [.slice A2 l_.f_l.length c3] :: Bx b4 3 [.int .i64 origin] :: Bx b7 3 [.int .i64 expiry] :: Γ))) wd53 := H52
            refine sp_op [(41, .pointer (some ⟨b1, 0, none⟩))] (ac (hE50 1 (by decide)) an) ?_
            refine r_fa FA75_0 ⟨b1, 0, none⟩ rfl rfl ?_
            exact r_nil (n_lp ⟨_, rfl, undef, rfl, H52⟩)
          · intro η33 wd58 Δ59 hE55 hR56 H57
            have H57 : Hp w0 ((Δ59 ++ (Bx b1 75 [.slice A2 l_.f_l.length c3] :: Bx b4 3 [.int .i64 origin] :: Bx b7 3 [.int .i64 expiry] :: Γ))) wd58 := H57
            refine sp_op [(42, .pointer (some ⟨b1, 0, none⟩))] (ac (hE55 2 (by decide)) an) ?_
            refine r_ld1 (.slice A2 l_.f_l.length c3) LD26 rfl (((H57).tl.g0).cell _ rfl) ?_
            exact r_nil (n_lp ⟨_, rfl, undef, rfl, H57⟩)
          · intro η33 wd63 Δ64 hE60 hR61 H62
            have H62 : Hp w0 ((Δ64 ++ (Bx b1 75 [.slice A2 l_.f_l.length c3] :: Bx b4 3 [.int .i64 origin] :: Bx b7 3 [.int .i64 expiry] :: Γ))) wd63 := H62
            refine sp_op [(9, .int .i64 y10)] (ac rfl an) ?_
            refine r_pure (.int .i64 y10) rfl ?_
            exact r_nil (n_lp ⟨_, rfl, undef, rfl, H62⟩)
          · intro η33 wd68 Δ69 hE65 hR66 H67
            have H67 : Hp w0 ((Δ69 ++ (Bx b1 75 [.slice A2 l_.f_l.length c3] :: Bx b4 3 [.int .i64 origin] :: Bx b7 3 [.int .i64 expiry] :: Γ))) wd68 := H67
            refine sp_op [(0, .pointer (some ⟨b1, 0, none⟩))] (ac rfl an) ?_
            refine r_pure (.pointer (some ⟨b1, 0, none⟩)) rfl ?_
            exact r_nil (n_lp ⟨_, rfl, undef, rfl, H67⟩)
          · intro η33 wd73 Δ74 hE70 hR71 H72
            have H72 : Hp w0 ((Δ74 ++ (Bx b1 75 [.slice A2 l_.f_l.length c3] :: Bx b4 3 [.int .i64 origin] :: Bx b7 3 [.int .i64 expiry] :: Γ))) wd73 := H72
            refine sp_op [(45, .pointer (some ⟨b1, 0, none⟩))] (ac (hE70 5 (by decide)) an) ?_
            refine r_pure (.pointer (some ⟨b1, 0, none⟩)) rfl ?_
            exact r_nil (n_lp ⟨_, rfl, undef, rfl, H72⟩)
          · intro η33 wd78 Δ79 hE75 hR76 H77
            have H77 : Hp w0 ((Δ79 ++ (Bx b1 75 [.slice A2 l_.f_l.length c3] :: Bx b4 3 [.int .i64 origin] :: Bx b7 3 [.int .i64 expiry] :: Γ))) wd78 := H77
            refine sp_op [(46, .pointer (some ⟨b1, 0, none⟩))] (ac (hE75 6 (by decide)) an) ?_
            refine r_fa FA75_0 ⟨b1, 0, none⟩ rfl rfl ?_
            exact r_nil (n_lp ⟨_, rfl, undef, rfl, H77⟩)
          · intro η33 wd83 Δ84 hE80 hR81 H82
            have H82 : Hp w0 ((Δ84 ++ (Bx b1 75 [.slice A2 l_.f_l.length c3] :: Bx b4 3 [.int .i64 origin] :: Bx b7 3 [.int .i64 expiry] :: Γ))) wd83 := H82
            refine sp_op [(47, .pointer (some ⟨b1, 0, none⟩))] (ac (hE80 7 (by decide)) an) ?_
            refine r_ld1 (.slice A2 l_.f_l.length c3) LD26 rfl (((H82).tl.g0).cell _ rfl) ?_
            exact r_nil (n_lp ⟨_, rfl, undef, rfl, H82⟩)
          · intro η33 wd88 Δ89 hE85 hR86 H87
            have H87 : Hp w0 ((Δ89 ++ (Bx b1 75 [.slice A2 l_.f_l.length c3] :: Bx b4 3 [.int .i64 origin] :: Bx b7 3 [.int .i64 expiry] :: Γ))) wd88 := H87
            refine sp_op [(9, .int .i64 y10)] (ac rfl an) ?_
            refine r_pure (.int .i64 y10) rfl ?_
            exact r_nil (n_lp ⟨_, rfl, undef, rfl, H87⟩)
          · intro η33 wd93 Δ94 hE90 hR91 H92
            have H92 : Hp w0 ((Δ94 ++ (Bx b1 75 [.slice A2 l_.f_l.length c3] :: Bx b4 3 [.int .i64 origin] :: Bx b7 3 [.int .i64 expiry] :: Γ))) wd93 := H92
            refine sp_op [(48, .slice A2 l_.f_l.length c3), (49, .int .i64 y10)] (ac (hE90 8 (by decide)) (ac (hE90 9 (by decide)) an)) ?_
            have hA98 := ((show (Row K38 (.slice A2 l_.f_l.length c3) l_.f_l) _ from (H92).memr (hR91 _ (List.mem_of_getElem? (i := 0) rfl) rfl)).rd).adO hj36
            refine r_ix IX26 rfl rfl hA98 h034 h135 ?_
            exact r_nil (n_lp ⟨_, rfl, undef, rfl, H92⟩)
          · intro η33 wd102 Δ103 hE99 hR100 H101
            have H101 : Hp w0 ((Δ103 ++ (Bx b1 75 [.slice A2 l_.f_l.length c3] :: Bx b4 3 [.int .i64 origin] :: Bx b7 3 [.int .i64 expiry] :: Γ))) wd102 := H101
            refine sp_op [(50, .pointer (some ((oA A2).add (Int.toNat y10 * 3))))] (ac (hE99 10 (by decide)) an) ?_
            refine r_fa FA38_2 (((oA A2).add (Int.toNat y10 * 3)).add 2) rfl rfl ?_
            exact r_nil (n_lp ⟨_, rfl, undef, rfl, H101⟩)
          · intro η33 wd107 Δ108 hE104 hR105 H106
            have H106 : Hp w0 ((Δ108 ++ (Bx b1 75 [.slice A2 l_.f_l.length c3] :: Bx b4 3 [.int .i64 origin] :: Bx b7 3 [.int .i64 expiry] :: Γ))) wd107 := H106
            refine sp_op [(51, .pointer (some (((oA A2).add (Int.toNat y10 * 3)).add 2)))] (ac (hE104 11 (by decide)) an) ?_
            have hA109 := ((show (Row K38 (.slice A2 l_.f_l.length c3) l_.f_l) _ from (H106).memr (hR105 _ (List.mem_of_getElem? (i := 0) rfl) rfl)).rd).adO hj36
            refine r_ld1 (.int .i64 ((rd l_.f_l y10).Left)) LD3 rfl (((show (Row K38 (.slice A2 l_.f_l.length c3) l_.f_l) _ from (H106).memr (hR105 _ (List.mem_of_getElem? (i := 0) rfl) rfl)).rd).cA hA109 hj36 2 _ rfl) ?_
            exact r_nil (n_lp ⟨_, rfl, undef, rfl, H106⟩)
          · intro η33 wd113 Δ114 hE110 hR111 H112
            have H112 : Hp w0 ((Δ114 ++ (Bx b1 75 [.slice A2 l_.f_l.length c3] :: Bx b4 3 [.int .i64 origin] :: Bx b7 3 [.int .i64 expiry] :: Γ))) wd113 := H112
            refine sp_op [(3, .int .i64 n_)] (ac rfl an) ?_
            refine r_pure (.int .i64 n_) rfl ?_
            exact r_nil (n_lp ⟨_, rfl, undef, rfl, H112⟩)
          · intro η33 wd118 Δ119 hE115 hR116 H117
            have H117 : Hp w0 ((Δ119 ++ (Bx b1 75 [.slice A2 l_.f_l.length c3] :: Bx b4 3 [.int .i64 origin] :: Bx b7 3 [.int .i64 expiry] :: Γ))) wd118 := H117
            refine sp_op [(52, .int .i64 ((rd l_.f_l y10).Left)), (53, .int .i64 n_)] (ac (hE115 12 (by decide)) (ac (hE115 13 (by decide)) an)) ?_
            refine r_pure (.int .i64 (w64 ((rd l_.f_l y10).Left + n_))) rfl ?_
            exact r_nil (n_lp ⟨_, rfl, undef, rfl, H117⟩)
          · intro η33 wd123 Δ124 hE120 hR121 H122
            have H122 : Hp w0 ((Δ124 ++ (Bx b1 75 [.slice A2 l_.f_l.length c3] :: Bx b4 3 [.int .i64 origin] :: Bx b7 3 [.int .i64 expiry] :: Γ))) wd123 := H122
            refine sp_op [(43, .slice A2 l_.f_l.length c3), (44, .int .i64 y10)] (ac (hE120 3 (by decide)) (ac (hE120 4 (by decide)) an)) ?_
            have hA125 := ((show (Row K38 (.slice A2 l_.f_l.length c3) l_.f_l) _ from (H122).memr (hR121 _ (List.mem_of_getElem? (i := 0) rfl) rfl)).rd).adO hj36
            refine r_ix IX26 rfl rfl hA125 h034 h135 ?_
            exact r_nil (n_lp ⟨_, rfl, undef, rfl, H122⟩)
          · intro η33 wd129 Δ130 hE126 hR127 H128
            have H128 : Hp w0 ((Δ130 ++ (Bx b1 75 [.slice A2 l_.f_l.length c3] :: Bx b4 3 [.int .i64 origin] :: Bx b7 3 [.int .i64 expiry] :: Γ))) wd129 := H128
            refine sp_op [(55, .pointer (some ((oA A2).add (Int.toNat y10 * 3))))] (ac (hE126 15 (by decide)) an) ?_
            refine r_fa FA38_2 (((oA A2).add (Int.toNat y10 * 3)).add 2) rfl rfl ?_
            exact r_nil (n_lp ⟨_, rfl, undef, rfl, H128⟩)
          · intro η33 wd134 Δ135 hE131 hR132 H133
            have H133 : Hp w0 (Row K38 (.slice A2 l_.f_l.length c3) l_.f_l :: (Δ135 ++ (Bx b1 75 [.slice A2 l_.f_l.length c3] :: Bx b4 3 [.int .i64 origin] :: Bx b7 3 [.int .i64 expiry] :: Γ))) wd134 := H133
            refine sp_op [(54, .int .i64 (w64 ((rd l_.f_l y10).Left + n_))), (56, .pointer (some (((oA A2).add (Int.toNat y10 * 3)).add 2)))] (ac (hE131 14 (by decide)) (ac (hE131 16 (by decide)) an)) ?_
            have hA138 := (H133.g0.rd).adO hj36
            refine r_stx1 (K := K38) ((⟨(rd l_.f_l y10).Origin, (rd l_.f_l y10).Expiry, w64 ((rd l_.f_l y10).Left + n_)⟩ : api_Vintage)) hA138 LD3 rfl rfl rfl H133 hj36 (by decide) rfl ?_
            intro wd137 H136
            exact r_nil (n_lp ⟨_, rfl, (.tuple #[.slice A2 l_.f_l.length c3]), trivial, H136⟩)
          · intro η33 wd140 hV141 H139
            have H142 : Hp w0 (Row K38 (.slice A2 l_.f_l.length c3) (l_.f_l.set (Int.toNat y10) (⟨(rd l_.f_l y10).Origin, (rd l_.f_l y10).Expiry, w64 ((rd l_.f_l y10).Left + n_)⟩ : api_Vintage)) :: Bx b1 75 [.slice A2 l_.f_l.length c3] :: Bx b4 3 [.int .i64 origin] :: Bx b7 3 [.int .i64 expiry] :: Γ) wd140 := H139
            refine n_frame [] an ?_
            refine n_sq ?_
            refine st_seq ?_
            refine st_region ?_
            refine r_pure (.int .i64 0) rfl ?_
            refine r_seq ?_
            obtain ⟨rfl, rfl⟩ := some_inj2 hm
            refine st_ret1 rfl rfl (Nat.le_of_ble_eq_true rfl) rfl ?_
            exact ⟨A2, l_.f_l.length, c3, rfl, H142.u2.d.u2.d.u1⟩
        · refine st_condf hb32 rfl ?_
          refine st_seq ?_
          refine st_region ?_
          refine r_pure (.pointer (some ⟨b1, 0, none⟩)) rfl ?_
          refine r_pure (.pointer (some ⟨b1, 0, none⟩)) rfl ?_
          refine r_fa FA75_0 ⟨b1, 0, none⟩ rfl rfl ?_
          refine r_ld1 (.slice A2 l_.f_l.length c3) LD26 rfl ((H30.g1).cell _ rfl) ?_
          refine r_len Try.underlying26 rfl ?_
          refine r_pure (.bool (decide ((l_.f_l.length : Int) ≥ 12))) rfl ?_
          refine r_pure (.bool (decide ((l_.f_l.length : Int) ≥ 12))) rfl ?_
          refine r_seq ?_
          rcases ite_some hm with ⟨hb143, hm⟩ | ⟨hb143, hm⟩
          · refine st_condt hb143 rfl ?_
            refine st_seq ?_
            refine st_region ?_
            refine r_pure (.int .i64 5) rfl ?_
            refine r_seq ?_
            obtain ⟨rfl, rfl⟩ := some_inj2 hm
            refine st_ret1 rfl rfl (Nat.le_of_ble_eq_true rfl) rfl ?_
            exact ⟨A2, l_.f_l.length, c3, rfl, H30.u2.d.u2.d.u1⟩
          · refine st_condf hb143 rfl ?_
            refine st_skip ?_
            refine n_bl ?_
            refine n_sq ?_
            refine st_seq ?_
            obtain ⟨hf148, hm⟩ := gd_some hm
            refine Flow.run' [[], [], [1], [1, 2], [1, 2, 3], [], [], [], [5, 6, 7], [5, 6, 7, 8], [1, 2, 3, 4, 5, 6, 7, 8, 9], [0, 1, 2, 3, 4, 5, 6, 7, 8, 9, 10], [0, 1, 2, 3, 4, 5, 6, 7, 8, 9, 10, 11], [0, 1, 2, 3, 4, 5, 6, 7, 8, 9, 10, 11, 12]] [(64, 0), (65, 1), (66, 2), (67, 3), (68, 4), (69, 5), (70, 6), (71, 7), (72, 8), (73, 9), (74, 10), (75, 11), (76, 12)] [(fun η144 v => v.1 = .pointer (some ⟨b1, 0, none⟩)), (fun η144 v => v.1 = .pointer (some ⟨b1, 0, none⟩)), (fun η144 v => v.1 = .pointer (some ⟨b1, 0, none⟩)), (fun η144 v => v.1 = .pointer (some ⟨b1, 0, none⟩)), (fun η144 v => v.1 = .slice A2 l_.f_l.length c3), (fun η144 v => v.1 = .int .i64 origin), (fun η144 v => v.1 = .int .i64 expiry), (fun η144 v => v.1 = .int .i64 n_), (fun η144 v => v.1 = .agg #[.int .i64 origin, .int .i64 expiry, .int .i64 n_]), (fun η144 v => v.1 = .slice (some ⟨(oA (vA (v.1))).block, 0, none⟩) 1 1), (fun η144 v => v.1 = .slice (vA (v.1)) ((l_.f_l ++ [(⟨origin, expiry, n_⟩ : api_Vintage)]).length) (vC (v.1))), (fun η144 v => v.1 = .pointer (some ⟨b1, 0, none⟩)), (fun η144 v => v.1 = .pointer (some ⟨b1, 0, none⟩)), (fun _ _ => True)] [⟨none, (some 10), fun η144 => Row K38 (.slice A2 l_.f_l.length c3) l_.f_l⟩, ⟨none, (some 13), fun η144 => Bx b1 75 [.slice A2 l_.f_l.length c3]⟩, ⟨(some 9), none, fun η144 => Row K38 (.slice (some ⟨(oA (vA ((η144 9).1))).block, 0, none⟩) 1 1) [(⟨origin, expiry, n_⟩ : api_Vintage)]⟩, ⟨(some 10), none, fun η144 => Row K38 (.slice (vA ((η144 10).1)) ((l_.f_l ++ [(⟨origin, expiry, n_⟩ : api_Vintage)]).length) (vC ((η144 10).1))) (l_.f_l ++ [(⟨origin, expiry, n_⟩ : api_Vintage)])⟩, ⟨(some 13), none, fun η144 => Bx b1 75 [.slice (vA ((η144 10).1)) ((l_.f_l ++ [(⟨origin, expiry, n_⟩ : api_Vintage)]).length) (vC ((η144 10).1))]⟩] rfl (by kernel_rfl) (by kernel_rfl) H30.u1.u1 ⟨?_, ?_, ?_, ?_, ?_, ?_, ?_, ?_, ?_, ?_, ?_, ?_, ?_, ?_, trivial⟩ ?_
            · intro η144 wd158 Δ159 hE155 hR156 H157
              have H157 : Hp w0 ((Δ159 ++ (Bx b4 3 [.int .i64 origin] :: Bx b7 3 [.int .i64 expiry] :: Γ))) wd158 := H157
              refine sp_op [(0, .pointer (some ⟨b1, 0, none⟩))] (ac rfl an) ?_
              refine r_pure (.pointer (some ⟨b1, 0, none⟩)) rfl ?_
              exact r_nil (n_lp ⟨_, rfl, undef, rfl, H157⟩)
            · intro η144 wd163 Δ164 hE160 hR161 H162
              have H162 : Hp w0 ((Δ164 ++ (Bx b4 3 [.int .i64 origin] :: Bx b7 3 [.int .i64 expiry] :: Γ))) wd163 := H162
              refine sp_op [(0, .pointer (some ⟨b1, 0, none⟩))] (ac rfl an) ?_
              refine r_pure (.pointer (some ⟨b1, 0, none⟩)) rfl ?_
              exact r_nil (n_lp ⟨_, rfl, undef, rfl, H162⟩)
            · intro η144 wd168 Δ169 hE165 hR166 H167
              have H167 : Hp w0 ((Δ169 ++ (Bx b4 3 [.int .i64 origin] :: Bx b7 3 [.int .i64 expiry] :: Γ))) wd168 := H167
              refine sp_op [(65, .pointer (some ⟨b1, 0, none⟩))] (ac (hE165 1 (by decide)) an) ?_
              refine r_pure (.pointer (some ⟨b1, 0, none⟩)) rfl ?_
              exact r_nil (n_lp ⟨_, rfl, undef, rfl, H167⟩)
            · intro η144 wd173 Δ174 hE170 hR171 H172
              have H172 : Hp w0 ((Δ174 ++ (Bx b4 3 [.int .i64 origin] :: Bx b7 3 [.int .i64 expiry] :: Γ))) wd173 := H172
              refine sp_op [(66, .pointer (some ⟨b1, 0, none⟩))] (ac (hE170 2 (by decide)) an) ?_
              refine r_fa FA75_0 ⟨b1, 0, none⟩ rfl rfl ?_
              exact r_nil (n_lp ⟨_, rfl, undef, rfl, H172⟩)
            · intro η144 wd178 Δ179 hE175 hR176 H177
              have H177 : Hp w0 ((Δ179 ++ (Bx b4 3 [.int .i64 origin] :: Bx b7 3 [.int .i64 expiry] :: Γ))) wd178 := H177
              refine sp_op [(67, .pointer (some ⟨b1, 0, none⟩))] (ac (hE175 3 (by decide)) an) ?_
              refine r_ld1 (.slice A2 l_.f_l.length c3) LD26 rfl (((show (Bx b1 75 [.slice A2 l_.f_l.length c3]) _ from (H177).memr (hR176 _ (List.mem_of_getElem? (i := 1) rfl) rfl))).cell _ rfl) ?_
              exact r_nil (n_lp ⟨_, rfl, undef, rfl, H177⟩)
            · intro η144 wd183 Δ184 hE180 hR181 H182
              have H182 : Hp w0 ((Δ184 ++ (Bx b4 3 [.int .i64 origin] :: Bx b7 3 [.int .i64 expiry] :: Γ))) wd183 := H182
              refine sp_op [(5, .pointer (some ⟨b4, 0, none⟩))] (ac rfl an) ?_
              refine r_ld1 (.int .i64 origin) LD3 rfl (((H182).tl.g0).cell _ rfl) ?_
              exact r_nil (n_lp ⟨_, rfl, undef, rfl, H182⟩)
            · intro η144 wd188 Δ189 hE185 hR186 H187
              have H187 : Hp w0 ((Δ189 ++ (Bx b4 3 [.int .i64 origin] :: Bx b7 3 [.int .i64 expiry] :: Γ))) wd188 := H187
              refine sp_op [(6, .pointer (some ⟨b7, 0, none⟩))] (ac rfl an) ?_
              refine r_ld1 (.int .i64 expiry) LD3 rfl (((H187).tl.g1).cell _ rfl) ?_
              exact r_nil (n_lp ⟨_, rfl, undef, rfl, H187⟩)
            · intro η144 wd193 Δ194 hE190 hR191 H192
              have H192 : Hp w0 ((Δ194 ++ (Bx b4 3 [.int .i64 origin] :: Bx b7 3 [.int .i64 expiry] :: Γ))) wd193 := H192
              refine sp_op [(3, .int .i64 n_)] (ac rfl an) ?_
              refine r_pure (.int .i64 n_) rfl ?_
              exact r_nil (n_lp ⟨_, rfl, undef, rfl, H192⟩)
            · intro η144 wd198 Δ199 hE195 hR196 H197
              have H197 : Hp w0 ((Δ199 ++ (Bx b4 3 [.int .i64 origin] :: Bx b7 3 [.int .i64 expiry] :: Γ))) wd198 := H197
              refine sp_op [(69, .int .i64 origin), (70, .int .i64 expiry), (71, .int .i64 n_)] (ac (hE195 5 (by decide)) (ac (hE195 6 (by decide)) (ac (hE195 7 (by decide)) an))) ?_
              refine r_build [.int .i64 origin, .int .i64 expiry, .int .i64 n_] FL38 rfl ?_
              exact r_nil (n_lp ⟨_, rfl, undef, rfl, H197⟩)
            · intro η144 wd203 Δ204 hE200 hR201 H202
              have H202 : Hp w0 ((Δ204 ++ (Bx b4 3 [.int .i64 origin] :: Bx b7 3 [.int .i64 expiry] :: Γ))) wd203 := H202
              refine sp_op [(72, .agg #[.int .i64 origin, .int .i64 expiry, .int .i64 n_])] (ac (hE200 8 (by decide)) an) ?_
              refine r_buildSlice (K := K38) [(⟨origin, expiry, n_⟩ : api_Vintage)] EL26 rfl rfl rfl (by decide) (by decide) rfl H202 ?_
              intro b205 wd207 H206
              exact r_nil (n_lp ⟨_, rfl, (.tuple #[.slice (some ⟨b205, 0, none⟩) 1 1]), rfl, H206⟩)
            · intro η144 wd211 Δ212 hE208 hR209 H210
              have H210 : Hp w0 (Row K38 (.slice A2 l_.f_l.length c3) l_.f_l :: (Δ212 ++ (Bx b4 3 [.int .i64 origin] :: Bx b7 3 [.int .i64 expiry] :: Γ))) wd211 := H210
              refine sp_op [(68, .slice A2 l_.f_l.length c3), (73, .slice (some ⟨(oA (vA ((η144 9).1))).block, 0, none⟩) 1 1)] (ac (hE208 4 (by decide)) (ac (hE208 9 (by decide)) an)) ?_
              refine r_append (K := K38) (ys := [(⟨origin, expiry, n_⟩ : api_Vintage)]) AP26 rfl rfl rfl rfl H210 ((show (Row K38 (.slice (some ⟨(oA (vA ((η144 9).1))).block, 0, none⟩) 1 1) [(⟨origin, expiry, n_⟩ : api_Vintage)]) _ from (H210.d).memr (hR209 _ (List.mem_of_getElem? (i := 2) rfl) rfl)).src) (fit_le hf148 (by decide)) ?_
              intro A214 c215 wd216 H217
              exact r_nil (n_lp ⟨_, rfl, (.tuple #[.slice A214 ((l_.f_l ++ [(⟨origin, expiry, n_⟩ : api_Vintage)]).length) c215]), rfl, H217⟩)
            · intro η144 wd221 Δ222 hE218 hR219 H220
              have H220 : Hp w0 ((Δ222 ++ (Bx b4 3 [.int .i64 origin] :: Bx b7 3 [.int .i64 expiry] :: Γ))) wd221 := H220
              refine sp_op [(64, .pointer (some ⟨b1, 0, none⟩))] (ac (hE218 0 (by decide)) an) ?_
              refine r_pure (.pointer (some ⟨b1, 0, none⟩)) rfl ?_
              exact r_nil (n_lp ⟨_, rfl, undef, rfl, H220⟩)
            · intro η144 wd226 Δ227 hE223 hR224 H225
              have H225 : Hp w0 ((Δ227 ++ (Bx b4 3 [.int .i64 origin] :: Bx b7 3 [.int .i64 expiry] :: Γ))) wd226 := H225
              refine sp_op [(75, .pointer (some ⟨b1, 0, none⟩))] (ac (hE223 11 (by decide)) an) ?_
              refine r_fa FA75_0 ⟨b1, 0, none⟩ rfl rfl ?_
              exact r_nil (n_lp ⟨_, rfl, undef, rfl, H225⟩)
            · intro η144 wd231 Δ232 hE228 hR229 H230
              have H230 : Hp w0 (Bx b1 75 [.slice A2 l_.f_l.length c3] :: (Δ232 ++ (Bx b4 3 [.int .i64 origin] :: Bx b7 3 [.int .i64 expiry] :: Γ))) wd231 := H230
              refine sp_op [(74, .slice (vA ((η144 10).1)) ((l_.f_l ++ [(⟨origin, expiry, n_⟩ : api_Vintage)]).length) (vC ((η144 10).1))), (76, .pointer (some ⟨b1, 0, none⟩))] (ac (hE228 10 (by decide)) (ac (hE228 12 (by decide)) an)) ?_
              refine r_st1 LD26 rfl rfl rfl H230 rfl ?_
              intro wd234 H233
              exact r_nil (n_lp ⟨_, rfl, (.tuple #[.pointer (some ⟨b1, 0, none⟩), .slice (vA ((η144 10).1)) ((l_.f_l ++ [(⟨origin, expiry, n_⟩ : api_Vintage)]).length) (vC ((η144 10).1))]), trivial, H233⟩)
            · intro η144 wd236 hV237 H235
              have H238 : Hp w0 (Row K38 (.slice (some ⟨(oA (vA ((η144 9).1))).block, 0, none⟩) 1 1) [(⟨origin, expiry, n_⟩ : api_Vintage)] :: Row K38 (.slice (vA ((η144 10).1)) ((l_.f_l ++ [(⟨origin, expiry, n_⟩ : api_Vintage)]).length) (vC ((η144 10).1))) (l_.f_l ++ [(⟨origin, expiry, n_⟩ : api_Vintage)]) :: Bx b1 75 [.slice (vA ((η144 10).1)) ((l_.f_l ++ [(⟨origin, expiry, n_⟩ : api_Vintage)]).length) (vC ((η144 10).1))] :: Bx b4 3 [.int .i64 origin] :: Bx b7 3 [.int .i64 expiry] :: Γ) wd236 := H235
              refine n_frame [(0, .pointer (some ⟨b1, 0, none⟩))] (ac rfl an) ?_
              refine n_sq ?_
              refine st_seq ?_
              refine st_region ?_
              refine r_pure (.pointer (some ⟨b1, 0, none⟩)) rfl ?_
              refine r_pure (.pointer (some ⟨b1, 0, none⟩)) rfl ?_
              refine r_fa FA75_0 ⟨b1, 0, none⟩ rfl rfl ?_
              refine r_ld1 (.slice (vA ((η144 10).1)) ((l_.f_l ++ [(⟨origin, expiry, n_⟩ : api_Vintage)]).length) (vC ((η144 10).1))) LD26 rfl ((H238.g2).cell _ rfl) ?_
              obtain ⟨y239, hy240, hm⟩ := bind_some hm
              refine r_callf Try.call47 (slices_SortFunc_api_Vintage_ok (l_.f_l ++ [(⟨origin, expiry, n_⟩ : api_Vintage)]) (vA ((η144 10).1)) ((l_.f_l ++ [(⟨origin, expiry, n_⟩ : api_Vintage)]).length) (vC ((η144 10).1)) (.func (.func 48) #[] #[]) (fun x => vintage_Losses_Add_c2 x.1 x.2) ⟨48, [], rfl, Try.call48, fun x y hy Δ w H hΔ => vintage_Losses_Add_c2_ok x.1 x.2 y H hy⟩ y239 H238.u1 hy240) ?_
              rintro e242 wd241 ⟨rfl, H244⟩
              refine ⟨_, rfl, ?_⟩
              refine r_seq ?_
              refine st_seq ?_
              refine st_region ?_
              refine r_pure (.int .i64 0) rfl ?_
              refine r_seq ?_
              obtain ⟨rfl, rfl⟩ := some_inj2 hm
              refine st_ret1 rfl rfl (Nat.le_of_ble_eq_true rfl) rfl ?_
              exact ⟨(vA ((η144 10).1)), (l_.f_l ++ [(⟨origin, expiry, n_⟩ : api_Vintage)]).length, (vC ((η144 10).1)), rfl, H244.u1.d.u2.d.u2.d.u1⟩

set_option maxHeartbeats 2000000 in
theorem scutageref09_Year_ok {w0 w : World} {Γ : List (World → Prop)} (y_ : Int) (r0_ : Bool) (H : Hp w0 (Γ) w) (hm : scutageref09_Year y_ = some r0_) : Calls Try.prog 51 #[.int .i64 y_] w (fun e w => e = .returned (.bool r0_) ∧ Hp w0 (Γ) w) := by
  unfold scutageref09_Year at hm
  refine st_enter Try.func51 rfl Try.ntmps51 (Nat.le_of_ble_eq_true rfl) ?_
  refine st_seq ?_
  refine st_region ?_
  refine r_pure (.bool false) rfl ?_
  refine r_seq ?_
  refine st_cut (fun ρ w => ∃ q1 : Bool, (∃ base, ρ = updl base [(2, .bool q1)]) ∧ Hp w0 (Γ) w ∧ scutageref09_Year.j1 q1 = some r0_) ?_ ?_
  · refine st_region ?_
    refine r_pure (.int .i64 y_) rfl ?_
    refine r_pure (.bool (decide (y_ ≥ 0))) rfl ?_
    refine r_pure (.bool (decide (y_ ≥ 0))) rfl ?_
    rcases ite_some hm with ⟨hb3, hm⟩ | ⟨hb3, hm⟩
    · refine r_pure (.int .i64 y_) rfl ?_ (wn_t rfl rfl (by decide) rfl hb3)
      refine r_pure (.bool (decide (y_ ≤ 99))) rfl ?_ (wn_t rfl rfl (by decide) rfl hb3)
      refine r_pick_t (.bool (decide (y_ ≤ 99))) hb3 rfl rfl ?_
      refine r_pure (.bool (decide (y_ ≤ 99))) rfl ?_
      refine r_nil ?_
      refine n_cut ⟨decide (y_ ≤ 99), upk (ac rfl an), H, hm⟩
    · refine r_not (wn_f rfl rfl (by decide) rfl hb3) ?_
      refine r_not (wn_f rfl rfl (by decide) rfl hb3) ?_
      refine r_pick_f (.bool false) hb3 rfl rfl ?_
      refine r_pure (.bool false) rfl ?_
      refine r_nil ?_
      refine n_cut ⟨false, upk (ac rfl an), H, hm⟩
  · rintro ρ w ⟨q1, ⟨base, rfl⟩, H2, hm⟩
    unfold scutageref09_Year.j1 at hm
    have hq_ := Option.some.inj hm
    subst hq_
    refine st_ret1 rfl rfl (Nat.le_of_ble_eq_true rfl) rfl ?_
    exact ⟨rfl, H2⟩

set_option maxHeartbeats 2000000 in
theorem scutageref09_Losses_Left_ok {w0 w : World} {Γ : List (World → Prop)} (b1 : Nat) (l_ : scutageref09_Losses) (A2 : Option Addr) (n7 c3 : Nat) (hn6 : n7 = l_.V.length) (hc4 : l_.V.length ≤ c3) (hv5 : ∀ u, Hp w0 Γ u → SlR K38 A2 l_.V u) (hv8 : ∀ u, Hp w0 Γ u → Bx b1 28 [.slice A2 n7 c3] u) (r0_ : Int) (H : Hp w0 (Γ) w) (hm : scutageref09_Losses_Left l_ = some r0_) : Calls Try.prog 24 #[.pointer (some ⟨b1, 0, none⟩)] w (fun e w => e = .returned (.int .i64 r0_) ∧ Hp w0 (Γ) w) := by
  subst hn6
  unfold scutageref09_Losses_Left at hm
  refine st_enter Try.func24 rfl Try.ntmps24 (Nat.le_of_ble_eq_true rfl) ?_
  refine st_seq ?_
  refine st_region ?_
  refine r_pure (.int .i64 0) rfl ?_
  refine r_seq ?_
  refine st_seq ?_
  refine st_region ?_
  refine r_pure (.int .i64 0) rfl ?_
  refine r_seq ?_
  refine st_seq ?_
  refine st_seq ?_
  refine st_region ?_
  refine r_pure (.pointer (some ⟨b1, 0, none⟩)) rfl ?_
  refine r_pure (.pointer (some ⟨b1, 0, none⟩)) rfl ?_
  refine r_fa FA28_0 ⟨b1, 0, none⟩ rfl rfl ?_
  refine r_ld1 (.slice A2 l_.V.length c3) LD26 rfl ((hv8 _ H).cell _ rfl) ?_
  refine r_len Try.underlying26 rfl ?_
  refine r_pure (.int .i64 0) rfl ?_
  refine r_seq ?_
  refine st_block ?_
  have hlim30 := (hv5 _ H).lim
  obtain ⟨tl13, hl14, hm12⟩ := bind_some hm
  refine st_loopL (scutageref09_Losses_Left.l1) (fun ys19 s ρ w => ∃ i15 : Int, ∃ v10 : Int, ∃ dn16 : List api_Vintage, (i15, v10) = s ∧ l_.V = dn16 ++ ys19 ∧ i15 = (dn16.length : Int) ∧ (∃ base, ρ = updl base [(3, .int .i64 v10), (9, .slice A2 l_.V.length c3), (10, .int .i64 (l_.V.length : Int)), (11, .int .i64 i15)]) ∧ Hp w0 (Γ) w) hl14 ⟨0, 0, [], rfl, rfl, rfl, upk (ac rfl (ac rfl (ac rfl (ac rfl an)))), H⟩ ?_
  rintro m ys19 IH23 s ρ w ⟨i15, v10, dn16, rfl, hxs17, hi18, ⟨base, rfl⟩, H11⟩ hm
  rcases ys19 with _ | ⟨y20, ys19⟩
  · rw [scutageref09_Losses_Left.l1] at hm
    have hb24 := range_end hxs17 hi18
    refine st_seq ?_
    refine st_region ?_
    refine r_pure (.bool (decide (i15 < (l_.V.length : Int)))) rfl ?_
    refine r_seq ?_
    refine st_seq ?_
    refine st_condf hb24 rfl ?_
    have hq_ := Option.some.inj hm
    refine st_exit rfl ?_
    subst hq_
    refine n_sq ?_
    refine st_seq ?_
    refine st_region ?_
    refine r_pure (.int .i64 v10) rfl ?_
    refine r_pure (.int .i64 v10) rfl ?_
    refine r_seq ?_
    have hq_ := Option.some.inj hm12
    subst hq_
    refine st_ret1 rfl rfl (Nat.le_of_ble_eq_true rfl) rfl ?_
    exact ⟨rfl, H11⟩
  · rw [scutageref09_Losses_Left.l1] at hm
    have hb25 := range_in hxs17 hi18
    obtain ⟨h026, h127, hj28⟩ := range_ix hxs17 hi18
    have hnx29 := range_next hxs17 hi18 hlim30
    refine st_seq ?_
    refine st_region ?_
    refine r_pure (.bool (decide (i15 < (l_.V.length : Int)))) rfl ?_
    refine r_seq ?_
    refine st_seq ?_
    refine st_condt hb25 rfl ?_
    refine st_skip ?_
    refine n_sq ?_
    refine st_seq ?_
    refine st_block ?_
    refine st_seq ?_
    refine st_region ?_
    have hA31 := (hv5 _ H11).adO hj28
    refine r_ix IX26 rfl rfl hA31 h026 h127 ?_
    refine r_ldA [.int .i64 y20.Origin, .int .i64 y20.Expiry, .int .i64 y20.Left] LD38 rfl rfl ((hv5 _ H11).csA hA31 hj28) ?_
    refine r_alloc [.int .i64 0, .int .i64 0, .int .i64 0] Try.zeroValue38 H11 rfl ?_
    intro b32 wd34 H33
    refine r_stA [.int .i64 y20.Origin, .int .i64 y20.Expiry, .int .i64 y20.Left] LD38 rfl rfl rfl rfl H33 (Nat.le_of_ble_eq_true rfl) rfl ?_
    intro wd36 H35
    refine r_seq ?_
    refine st_region ?_
    refine r_pure (.int .i64 v10) rfl ?_
    refine r_fa FA38_2 ⟨b32, 2, none⟩ rfl rfl ?_
    refine r_ld1 (.int .i64 y20.Left) LD3 rfl ((H35.g0).cell _ rfl) ?_
    refine r_pure (.int .i64 (w64 (v10 + y20.Left))) rfl ?_
    refine r_pure (.int .i64 (w64 (v10 + y20.Left))) rfl ?_
    refine r_nil ?_
    refine n_bl ?_
    refine n_sq ?_
    refine st_region ?_
    refine r_pure (.int .i64 (w64 (i15 + 1))) rfl ?_
    refine r_pure (.int .i64 (w64 (i15 + 1))) rfl ?_
    refine r_nil ?_
    refine n_round (IH23 _ _ rfl _ _ _ ⟨i15 + 1, w64 (v10 + y20.Left), dn16 ++ [y20], rfl, range_more hxs17, range_len hi18, upk (ac rfl (ac rfl (ac rfl (ac hnx29 an)))), H35.d⟩ hm)

set_option maxHeartbeats 2000000 in
theorem scutageref09_Losses_Add_ok {w0 w : World} {Γ : List (World → Prop)} (b1 : Nat) (l_ : scutageref09_Losses) (A2 : Option Addr) (c3 : Nat) (origin : Int) (expiry : Int) (n_ : Int) (r0_ : Int) (r1_ : scutageref09_Losses) (H : Hp w0 (Bx b1 28 [.slice A2 l_.V.length c3] :: Row K38 (.slice A2 l_.V.length c3) l_.V :: Γ) w) (hm : scutageref09_Losses_Add l_ origin expiry n_ = some (r0_, r1_)) : Calls Try.prog 14 #[.pointer (some ⟨b1, 0, none⟩), .int .i64 origin, .int .i64 expiry, .int .i64 n_] w (fun e w => ∃ (Ax1 : Option Addr) (nx2 cx3 : Nat), e = .returned (.int .i64 r0_) ∧ Hp w0 (Bx b1 28 [.slice Ax1 nx2 cx3] :: Row K38 (.slice Ax1 nx2 cx3) r1_.V :: Γ) w) := by
  unfold scutageref09_Losses_Add at hm
  refine st_enter Try.func14 rfl Try.ntmps14 (Nat.le_of_ble_eq_true rfl) ?_
  refine st_seq ?_
  refine st_region ?_
  refine r_pure (.int .i64 0) rfl ?_
  refine r_seq ?_
  refine st_seq ?_
  refine st_cut (fun ρ w => ∃ q4 : Bool, (∃ base, ρ = updl base [(0, .pointer (some ⟨b1, 0, none⟩)), (1, .int .i64 origin), (2, .int .i64 expiry), (3, .int .i64 n_), (32, .bool q4)]) ∧ Hp w0 (Row K38 (.slice A2 l_.V.length c3) l_.V :: Bx b1 28 [.slice A2 l_.V.length c3] :: Γ) w ∧ scutageref09_Losses_Add.j1 l_ n_ origin expiry q4 = some (r0_, r1_)) ?_ ?_
  · refine st_region ?_
    refine r_pure (.int .i64 origin) rfl ?_
    obtain ⟨y104, hy105, hm⟩ := bind_some hm
    refine r_callf Try.call51 (scutageref09_Year_ok origin y104 H hy105) ?_
    rintro e107 wd106 ⟨rfl, H109⟩
    refine ⟨_, rfl, ?_⟩
    refine r_pure (.bool (!y104)) rfl ?_
    refine r_pure (.bool (!y104)) rfl ?_
    rcases ite_some hm with ⟨hb110, hm⟩ | ⟨hb110, hm⟩
    · refine r_not (wn_f rfl rfl (by decide) rfl hb110) ?_
      refine r_not (wn_f rfl rfl (by decide) rfl hb110) ?_
      refine r_not (wn_f rfl rfl (by decide) rfl hb110) ?_
      refine r_pick_t (.bool true) hb110 rfl rfl ?_
      refine r_pure (.bool true) rfl ?_
      refine r_not (wn_f rfl rfl (by decide) rfl rfl) ?_
      refine r_not (wn_f rfl rfl (by decide) rfl rfl) ?_
      refine r_pick_t (.bool true) rfl rfl rfl ?_
      refine r_pure (.bool true) rfl ?_
      refine r_not (wn_f rfl rfl (by decide) rfl rfl) ?_
      refine r_not (wn_f rfl rfl (by decide) rfl rfl) ?_
      refine r_pick_t (.bool true) rfl rfl rfl ?_
      refine r_pure (.bool true) rfl ?_
      refine r_not (wn_f rfl rfl (by decide) rfl rfl) ?_
      refine r_not (wn_f rfl rfl (by decide) rfl rfl) ?_
      refine r_pick_t (.bool true) rfl rfl rfl ?_
      refine r_nil ?_
      refine n_cut ⟨true, upk (ac rfl (ac rfl (ac rfl (ac rfl (ac rfl an))))), H109.u1, hm⟩
    · refine r_pure (.int .i64 expiry) rfl ?_ (wn_t rfl rfl (by decide) rfl hb110)
      refine r_pure (.int .i64 origin) rfl ?_ (wn_t rfl rfl (by decide) rfl hb110)
      refine r_pure (.bool (decide (expiry < origin))) rfl ?_ (wn_t rfl rfl (by decide) rfl hb110)
      refine r_pick_f (.bool (decide (expiry < origin))) hb110 rfl rfl ?_
      refine r_pure (.bool (decide (expiry < origin))) rfl ?_
      rcases ite_some hm with ⟨hb111, hm⟩ | ⟨hb111, hm⟩
      · refine r_not (wn_f rfl rfl (by decide) rfl hb111) ?_
        refine r_not (wn_f rfl rfl (by decide) rfl hb111) ?_
        refine r_pick_t (.bool true) hb111 rfl rfl ?_
        refine r_pure (.bool true) rfl ?_
        refine r_not (wn_f rfl rfl (by decide) rfl rfl) ?_
        refine r_not (wn_f rfl rfl (by decide) rfl rfl) ?_
        refine r_pick_t (.bool true) rfl rfl rfl ?_
        refine r_pure (.bool true) rfl ?_
        refine r_not (wn_f rfl rfl (by decide) rfl rfl) ?_
        refine r_not (wn_f rfl rfl (by decide) rfl rfl) ?_
        refine r_pick_t (.bool true) rfl rfl rfl ?_
        refine r_nil ?_
        refine n_cut ⟨true, upk (ac rfl (ac rfl (ac rfl (ac rfl (ac rfl an))))), H109.u1, hm⟩
      · refine r_pure (.int .i64 expiry) rfl ?_ (wn_t rfl rfl (by decide) rfl hb111)
        refine r_pure (.bool (decide (expiry > 198))) rfl ?_ (wn_t rfl rfl (by decide) rfl hb111)
        refine r_pick_f (.bool (decide (expiry > 198))) hb111 rfl rfl ?_
        refine r_pure (.bool (decide (expiry > 198))) rfl ?_
        rcases ite_some hm with ⟨hb112, hm⟩ | ⟨hb112, hm⟩
        · refine r_not (wn_f rfl rfl (by decide) rfl hb112) ?_
          refine r_not (wn_f rfl rfl (by decide) rfl hb112) ?_
          refine r_pick_t (.bool true) hb112 rfl rfl ?_
          refine r_pure (.bool true) rfl ?_
          refine r_not (wn_f rfl rfl (by decide) rfl rfl) ?_
          refine r_not (wn_f rfl rfl (by decide) rfl rfl) ?_
          refine r_pick_t (.bool true) rfl rfl rfl ?_
          refine r_nil ?_
          refine n_cut ⟨true, upk (ac rfl (ac rfl (ac rfl (ac rfl (ac rfl an))))), H109.u1, hm⟩
        · refine r_pure (.int .i64 n_) rfl ?_ (wn_t rfl rfl (by decide) rfl hb112)
          refine r_pure (.bool (decide (n_ < 1))) rfl ?_ (wn_t rfl rfl (by decide) rfl hb112)
          refine r_pick_f (.bool (decide (n_ < 1))) hb112 rfl rfl ?_
          refine r_pure (.bool (decide (n_ < 1))) rfl ?_
          rcases ite_some hm with ⟨hb113, hm⟩ | ⟨hb113, hm⟩
          · refine r_not (wn_f rfl rfl (by decide) rfl hb113) ?_
            refine r_not (wn_f rfl rfl (by decide) rfl hb113) ?_
            refine r_pick_t (.bool true) hb113 rfl rfl ?_
            refine r_nil ?_
            refine n_cut ⟨true, upk (ac rfl (ac rfl (ac rfl (ac rfl (ac rfl an))))), H109.u1, hm⟩
          · refine r_pure (.int .i64 n_) rfl ?_ (wn_t rfl rfl (by decide) rfl hb113)
            refine r_pure (.bool (decide (n_ > 100000000000))) rfl ?_ (wn_t rfl rfl (by decide) rfl hb113)
            refine r_pick_f (.bool (decide (n_ > 100000000000))) hb113 rfl rfl ?_
            refine r_nil ?_
            refine n_cut ⟨decide (n_ > 100000000000), upk (ac rfl (ac rfl (ac rfl (ac rfl (ac rfl an))))), H109.u1, hm⟩
  · rintro ρ w ⟨q4, ⟨base, rfl⟩, H5, hm⟩
    unfold scutageref09_Losses_Add.j1 at hm
    rcases ite_some hm with ⟨hb6, hm⟩ | ⟨hb6, hm⟩
    · refine st_condt hb6 rfl ?_
      refine st_seq ?_
      refine st_region ?_
      refine r_pure (.int .i64 1) rfl ?_
      refine r_seq ?_
      obtain ⟨rfl, rfl⟩ := some_inj2 hm
      refine st_ret1 rfl rfl (Nat.le_of_ble_eq_true rfl) rfl ?_
      exact ⟨A2, l_.V.length, c3, rfl, H5.u1⟩
    · refine st_condf hb6 rfl ?_
      refine st_skip ?_
      refine n_sq ?_
      refine st_seq ?_
      refine st_seq ?_
      refine st_region ?_
      refine r_pure (.pointer (some ⟨b1, 0, none⟩)) rfl ?_
      obtain ⟨y7, hy8, hm⟩ := bind_some hm
      refine r_callf Try.call24 (scutageref09_Losses_Left_ok b1 (⟨l_.V⟩ : scutageref09_Losses) A2 l_.V.length c3 rfl (((H5).g0).cap) (fun _ H => (H.g0.rd)) (fun _ H => (H.g1)) y7 H5 hy8) ?_
      rintro e10 wd9 ⟨rfl, H12⟩
      refine ⟨_, rfl, ?_⟩
      refine r_pure (.int .i64 n_) rfl ?_
      refine r_pure (.int .i64 (w64 (y7 + n_))) rfl ?_
      refine r_pure (.bool (decide (w64 (y7 + n_) > 100000000000))) rfl ?_
      refine r_seq ?_
      rcases ite_some hm with ⟨hb13, hm⟩ | ⟨hb13, hm⟩
      · refine st_condt hb13 rfl ?_
        refine st_seq ?_
        refine st_region ?_
        refine r_pure (.int .i64 6) rfl ?_
        refine r_seq ?_
        obtain ⟨rfl, rfl⟩ := some_inj2 hm
        refine st_ret1 rfl rfl (Nat.le_of_ble_eq_true rfl) rfl ?_
        exact ⟨A2, l_.V.length, c3, rfl, H12.u1⟩
      · refine st_condf hb13 rfl ?_
        refine st_skip ?_
        refine n_sq ?_
        refine st_seq ?_
        refine st_region ?_
        refine r_pure (.slice none 0 0) rfl ?_
        refine r_seq ?_
        refine st_seq ?_
        refine st_region ?_
        refine r_pure (.bool false) rfl ?_
        refine r_seq ?_
        refine st_seq ?_
        refine st_seq ?_
        refine st_region ?_
        refine r_pure (.pointer (some ⟨b1, 0, none⟩)) rfl ?_
        refine r_pure (.pointer (some ⟨b1, 0, none⟩)) rfl ?_
        refine r_fa FA28_0 ⟨b1, 0, none⟩ rfl rfl ?_
        refine r_ld1 (.slice A2 l_.V.length c3) LD26 rfl ((H12.g1).cell _ rfl) ?_
        refine r_len Try.underlying26 rfl ?_
        refine r_pure (.int .i64 0) rfl ?_
        refine r_seq ?_
        refine st_block ?_
        have H20 := H12.add (A := Row K38 (.slice none 0 0) []) Row.nil
        have hlim45 := (H20.g1.rd).lim
        obtain ⟨tl28, hl29, hm27⟩ := bind_some hm
        refine st_loopL (scutageref09_Losses_Add.l1 origin n_ expiry) (fun ys34 s ρ w => ∃ i30 : Int, ∃ xs24 : List api_Vintage, ∃ q25 : Bool, ∃ dn31 : List api_Vintage, ∃ A21 : Option Addr, ∃ n22 : Nat, ∃ c23 : Nat, (i30, xs24, q25) = s ∧ l_.V = dn31 ++ ys34 ∧ i30 = (dn31.length : Int) ∧ (∃ base, ρ = updl base [(0, .pointer (some ⟨b1, 0, none⟩)), (1, .int .i64 origin), (2, .int .i64 expiry), (3, .int .i64 n_), (9, .slice A21 n22 c23), (10, .bool q25), (41, .slice A2 l_.V.length c3), (42, .int .i64 (l_.V.length : Int)), (43, .int .i64 i30)]) ∧ Hp w0 (Row K38 (.slice A2 l_.V.length c3) l_.V :: Bx b1 28 [.slice A2 l_.V.length c3] :: Row K38 (.slice A21 n22 c23) xs24 :: Γ) w) hl29 ⟨0, ([] : List api_Vintage), false, [], none, 0, 0, rfl, rfl, rfl, upk (ac rfl (ac rfl (ac rfl (ac rfl (ac rfl (ac rfl (ac rfl (ac rfl (ac rfl an))))))))), H20.u2.u2⟩ ?_
        rintro m ys34 IH38 s ρ w ⟨i30, xs24, q25, dn31, A21, n22, c23, rfl, hxs32, hi33, ⟨base, rfl⟩, H26⟩ hm
        obtain rfl := (H26.g2).leneq
        rcases ys34 with _ | ⟨y35, ys34⟩
        · rw [scutageref09_Losses_Add.l1] at hm
          have hb39 := range_end hxs32 hi33
          refine st_seq ?_
          refine st_region ?_
          refine r_pure (.bool (decide (i30 < (l_.V.length : Int)))) rfl ?_
          refine r_seq ?_
          refine st_seq ?_
          refine st_condf hb39 rfl ?_
          have hq_ := Option.some.inj hm
          refine st_exit rfl ?_
          subst hq_
          refine n_sq ?_
          refine st_cut (fun ρ w => ∃ A46 : Option Addr, ∃ n47 : Nat, ∃ c48 : Nat, ∃ xs49 : List api_Vintage, (∃ base, ρ = updl base [(0, .pointer (some ⟨b1, 0, none⟩)), (9, .slice A46 n47 c48)]) ∧ Hp w0 (Row K38 (.slice A2 l_.V.length c3) l_.V :: Bx b1 28 [.slice A2 l_.V.length c3] :: Row K38 (.slice A46 n47 c48) xs49 :: Γ) w ∧ scutageref09_Losses_Add.j2 l_ xs49 = some (r0_, r1_)) ?_ ?_
          · refine st_seq ?_
            refine st_region ?_
            refine r_pure (.bool q25) rfl ?_
            refine r_pure (.bool (!q25)) rfl ?_
            refine r_seq ?_
            rcases ite_some hm27 with ⟨hb54, hm⟩ | ⟨hb54, hm⟩
            · refine st_condt hb54 rfl ?_
              refine st_region ?_
              refine r_pure (.slice A21 xs24.length c23) rfl ?_
              refine r_pure (.int .i64 origin) rfl ?_
              refine r_pure (.int .i64 expiry) rfl ?_
              refine r_pure (.int .i64 n_) rfl ?_
              refine r_build [.int .i64 origin, .int .i64 expiry, .int .i64 n_] FL38 rfl ?_
              refine r_buildSlice (K := K38) [(⟨origin, expiry, n_⟩ : api_Vintage)] EL26 rfl rfl rfl (by decide) (by decide) rfl H26 ?_
              intro b55 wd57 H56
              obtain ⟨hf58, hm⟩ := gd_some hm
              refine r_append (K := K38) (ys := [(⟨origin, expiry, n_⟩ : api_Vintage)]) AP26 rfl rfl rfl rfl H56.u3 (((H56.u3).g1).src) (fit_le hf58 (by decide)) ?_
              intro A59 c60 wd61 H62
              refine r_pure (.slice A59 ((xs24 ++ [(⟨origin, expiry, n_⟩ : api_Vintage)]).length) c60) rfl ?_
              refine r_nil ?_
              refine n_cut ⟨A59, (xs24 ++ [(⟨origin, expiry, n_⟩ : api_Vintage)]).length, c60, xs24 ++ [(⟨origin, expiry, n_⟩ : api_Vintage)], upk (ac rfl (ac rfl an)), H62.u1.d.u2.u2, hm⟩
            · refine st_condf hb54 rfl ?_
              refine st_skip ?_
              refine n_cut ⟨A21, xs24.length, c23, xs24, upk (ac rfl (ac rfl an)), H26.u2.u2.u2, hm⟩
          · rintro ρ w ⟨A46, n47, c48, xs49, ⟨base, rfl⟩, H50, hm⟩
            obtain rfl := (H50.g2).leneq
            unfold scutageref09_Losses_Add.j2 at hm
            refine st_seq ?_
            refine st_seq ?_
            refine st_region ?_
            refine r_pure (.slice A46 xs49.length c48) rfl ?_
            refine r_len Try.underlying26 rfl ?_
            refine r_pure (.bool (decide ((xs49.length : Int) > 12))) rfl ?_
            refine r_seq ?_
            rcases ite_some hm with ⟨hb51, hm⟩ | ⟨hb51, hm⟩
            · refine st_condt hb51 rfl ?_
              refine st_seq ?_
              refine st_region ?_
              refine r_pure (.int .i64 5) rfl ?_
              refine r_seq ?_
              obtain ⟨rfl, rfl⟩ := some_inj2 hm
              refine st_ret1 rfl rfl (Nat.le_of_ble_eq_true rfl) rfl ?_
              exact ⟨A2, l_.V.length, c3, rfl, H50.u2.d.u1⟩
            · refine st_condf hb51 rfl ?_
              refine st_skip ?_
              refine n_sq ?_
              refine st_seq ?_
              refine st_region ?_
              refine r_pure (.pointer (some ⟨b1, 0, none⟩)) rfl ?_
              refine r_pure (.slice A46 xs49.length c48) rfl ?_
              refine r_pure (.pointer (some ⟨b1, 0, none⟩)) rfl ?_
              refine r_fa FA28_0 ⟨b1, 0, none⟩ rfl rfl ?_
              refine r_st1 LD26 rfl rfl rfl H50.u1 rfl ?_
              intro wd53 H52
              refine r_seq ?_
              refine st_seq ?_
              refine st_region ?_
              refine r_pure (.int .i64 0) rfl ?_
              refine r_seq ?_
              obtain ⟨rfl, rfl⟩ := some_inj2 hm
              refine st_ret1 rfl rfl (Nat.le_of_ble_eq_true rfl) rfl ?_
              exact ⟨A46, xs49.length, c48, rfl, H52.u1.d.u1.u1⟩
        · rw [scutageref09_Losses_Add.l1] at hm
          have hb40 := range_in hxs32 hi33
          obtain ⟨h041, h142, hj43⟩ := range_ix hxs32 hi33
          have hnx44 := range_next hxs32 hi33 hlim45
          refine st_seq ?_
          refine st_region ?_
          refine r_pure (.bool (decide (i30 < (l_.V.length : Int)))) rfl ?_
          refine r_seq ?_
          refine st_seq ?_
          refine st_condt hb40 rfl ?_
          refine st_skip ?_
          refine n_sq ?_
          refine st_seq ?_
          refine st_block ?_
          refine st_seq ?_
          refine st_region ?_
          have hA63 := (H26.g0.rd).adO hj43
          refine r_ix IX26 rfl rfl hA63 h041 h142 ?_
          refine r_ldA [.int .i64 y35.Origin, .int .i64 y35.Expiry, .int .i64 y35.Left] LD38 rfl rfl ((H26.g0.rd).csA hA63 hj43) ?_
          refine r_alloc [.int .i64 0, .int .i64 0, .int .i64 0] Try.zeroValue38 H26 rfl ?_
          intro b64 wd66 H65
          refine r_stA [.int .i64 y35.Origin, .int .i64 y35.Expiry, .int .i64 y35.Left] LD38 rfl rfl rfl rfl H65 (Nat.le_of_ble_eq_true rfl) rfl ?_
          intro wd68 H67
          refine r_seq ?_
          refine st_cut (fun ρ w => ∃ A69 : Option Addr, ∃ n70 : Nat, ∃ c71 : Nat, ∃ xs72 : List api_Vintage, ∃ q73 : Bool, ∃ v74 : Int, (∃ base, ρ = updl base [(0, .pointer (some ⟨b1, 0, none⟩)), (1, .int .i64 origin), (2, .int .i64 expiry), (3, .int .i64 n_), (9, .slice A69 n70 c71), (10, .bool q73), (12, .pointer (some ⟨b64, 0, none⟩)), (41, .slice A2 l_.V.length c3), (42, .int .i64 (l_.V.length : Int)), (43, .int .i64 i30)]) ∧ Hp w0 (Row K38 (.slice A2 l_.V.length c3) l_.V :: Bx b1 28 [.slice A2 l_.V.length c3] :: Row K38 (.slice A69 n70 c71) xs72 :: Bx b64 38 [.int .i64 y35.Origin, .int .i64 y35.Expiry, .int .i64 v74] :: Γ) w ∧ scutageref09_Losses_Add.j3 y35 (scutageref09_Losses_Add.l1 origin n_ expiry ys34) i30 xs72 q73 v74 = some tl28) ?_ ?_
          · refine st_cut (fun ρ w => ∃ q84 : Bool, (∃ base, ρ = updl base [(0, .pointer (some ⟨b1, 0, none⟩)), (1, .int .i64 origin), (2, .int .i64 expiry), (3, .int .i64 n_), (9, .slice A21 xs24.length c23), (10, .bool q25), (12, .pointer (some ⟨b64, 0, none⟩)), (41, .slice A2 l_.V.length c3), (42, .int .i64 (l_.V.length : Int)), (43, .int .i64 i30), (56, .bool q84)]) ∧ Hp w0 (Row K38 (.slice A2 l_.V.length c3) l_.V :: Bx b1 28 [.slice A2 l_.V.length c3] :: Row K38 (.slice A21 xs24.length c23) xs24 :: Bx b64 38 [.int .i64 y35.Origin, .int .i64 y35.Expiry, .int .i64 y35.Left] :: Γ) w ∧ scutageref09_Losses_Add.j4 y35 (scutageref09_Losses_Add.l1 origin n_ expiry ys34) i30 xs24 n_ q25 expiry origin q84 = some tl28) ?_ ?_
            · refine st_region ?_
              refine r_fa FA38_0 ⟨b64, 0, none⟩ rfl rfl ?_
              refine r_ld1 (.int .i64 y35.Origin) LD3 rfl ((H67.g0).cell _ rfl) ?_
              refine r_pure (.int .i64 origin) rfl ?_
              refine r_pure (.bool (y35.Origin == origin)) rfl ?_
              refine r_pure (.bool (y35.Origin == origin)) rfl ?_
              rcases ite_some hm with ⟨hb103, hm⟩ | ⟨hb103, hm⟩
              · refine r_fa FA38_1 ⟨b64, 1, none⟩ rfl rfl ?_ (wn_t rfl rfl (by decide) rfl hb103)
                refine r_ld1 (.int .i64 y35.Expiry) LD3 rfl ((H67.g0).cell _ rfl) ?_ (wn_t rfl rfl (by decide) rfl hb103)
                refine r_pure (.int .i64 expiry) rfl ?_ (wn_t rfl rfl (by decide) rfl hb103)
                refine r_pure (.bool (y35.Expiry == expiry)) rfl ?_ (wn_t rfl rfl (by decide) rfl hb103)
                refine r_pick_t (.bool (y35.Expiry == expiry)) hb103 rfl rfl ?_
                refine r_nil ?_
                refine n_cut ⟨y35.Expiry == expiry, upk (ac rfl (ac rfl (ac rfl (ac rfl (ac rfl (ac rfl (ac rfl (ac rfl (ac rfl (ac rfl (ac rfl an))))))))))), H67.u3.u3.u3, hm⟩
              · refine r_not (wn_f rfl rfl (by decide) rfl hb103) ?_
                refine r_not (wn_f rfl rfl (by decide) rfl hb103) ?_
                refine r_not (wn_f rfl rfl (by decide) rfl hb103) ?_
                refine r_not (wn_f rfl rfl (by decide) rfl hb103) ?_
                refine r_pick_f (.bool false) hb103 rfl rfl ?_
                refine r_nil ?_
                refine n_cut ⟨false, upk (ac rfl (ac rfl (ac rfl (ac rfl (ac rfl (ac rfl (ac rfl (ac rfl (ac rfl (ac rfl (ac rfl an))))))))))), H67.u3.u3.u3, hm⟩
            · rintro ρ w ⟨q84, ⟨base, rfl⟩, H85, hm⟩
              unfold scutageref09_Losses_Add.j4 at hm
              rcases ite_some hm with ⟨hb86, hm⟩ | ⟨hb86, hm⟩
              · refine st_condt hb86 rfl ?_
                refine st_seq ?_
                refine st_region ?_
                refine r_fa FA38_2 ⟨b64, 2, none⟩ rfl rfl ?_
                refine r_ld1 (.int .i64 y35.Left) LD3 rfl ((H85.g3).cell _ rfl) ?_
                refine r_pure (.int .i64 n_) rfl ?_
                refine r_pure (.int .i64 (w64 (y35.Left + n_))) rfl ?_
                refine r_fa FA38_2 ⟨b64, 2, none⟩ rfl rfl ?_
                refine r_st1 LD3 rfl rfl rfl H85.u3 rfl ?_
                intro wd88 H87
                refine r_seq ?_
                refine st_region ?_
                refine r_pure (.bool true) rfl ?_
                refine r_nil ?_
                refine n_cut ⟨A21, xs24.length, c23, xs24, true, w64 (y35.Left + n_), upk (ac rfl (ac rfl (ac rfl (ac rfl (ac rfl (ac rfl (ac rfl (ac rfl (ac rfl (ac rfl an)))))))))), H87.u3.u3.u3, hm⟩
              · refine st_condf hb86 rfl ?_
                refine st_cut (fun ρ w => ∃ q89 : Bool, (∃ base, ρ = updl base [(0, .pointer (some ⟨b1, 0, none⟩)), (1, .int .i64 origin), (2, .int .i64 expiry), (3, .int .i64 n_), (9, .slice A21 xs24.length c23), (10, .bool q25), (12, .pointer (some ⟨b64, 0, none⟩)), (41, .slice A2 l_.V.length c3), (42, .int .i64 (l_.V.length : Int)), (43, .int .i64 i30), (81, .bool q89)]) ∧ Hp w0 (Row K38 (.slice A2 l_.V.length c3) l_.V :: Bx b1 28 [.slice A2 l_.V.length c3] :: Row K38 (.slice A21 xs24.length c23) xs24 :: Bx b64 38 [.int .i64 y35.Origin, .int .i64 y35.Expiry, .int .i64 y35.Left] :: Γ) w ∧ scutageref09_Losses_Add.j5 xs24 origin expiry n_ y35 (scutageref09_Losses_Add.l1 origin n_ expiry ys34) i30 q25 q89 = some tl28) ?_ ?_
                · refine st_region ?_
                  refine r_pure (.bool q25) rfl ?_
                  refine r_pure (.bool (!q25)) rfl ?_
                  refine r_pure (.bool (!q25)) rfl ?_
                  rcases ite_some hm with ⟨hb100, hm⟩ | ⟨hb100, hm⟩
                  · refine r_fa FA38_1 ⟨b64, 1, none⟩ rfl rfl ?_ (wn_t rfl rfl (by decide) rfl hb100)
                    refine r_ld1 (.int .i64 y35.Expiry) LD3 rfl ((H85.g3).cell _ rfl) ?_ (wn_t rfl rfl (by decide) rfl hb100)
                    refine r_pure (.int .i64 expiry) rfl ?_ (wn_t rfl rfl (by decide) rfl hb100)
                    refine r_pure (.bool (decide (y35.Expiry > expiry))) rfl ?_ (wn_t rfl rfl (by decide) rfl hb100)
                    refine r_pure (.bool (decide (y35.Expiry > expiry))) rfl ?_ (wn_t rfl rfl (by decide) rfl hb100)
                    rcases ite_some hm with ⟨hb101, hm⟩ | ⟨hb101, hm⟩
                    · refine r_not (wn_f rfl rfl (by decide) rfl hb101) ?_
                      refine r_not (wn_f rfl rfl (by decide) rfl hb101) ?_
                      refine r_not (wn_f rfl rfl (by decide) rfl hb101) ?_
                      refine r_not (wn_f rfl rfl (by decide) rfl hb101) ?_
                      refine r_not (wn_f rfl rfl (by decide) rfl hb101) ?_
                      refine r_not (wn_u rfl rfl (by decide) rfl rfl) ?_
                      refine r_not (wn_u rfl rfl (by decide) rfl rfl) ?_
                      refine r_not (wn_u rfl rfl (by decide) rfl rfl) ?_
                      refine r_not (wn_u rfl rfl (by decide) rfl rfl) ?_
                      refine r_not (wn_f rfl rfl (by decide) rfl hb101) ?_
                      refine r_pick_t (.bool true) hb101 rfl rfl ?_ (wn_t rfl rfl (by decide) rfl hb100)
                      refine r_pick_t (.bool true) hb100 rfl rfl ?_
                      refine r_nil ?_
                      refine n_cut ⟨true, upk (ac rfl (ac rfl (ac rfl (ac rfl (ac rfl (ac rfl (ac rfl (ac rfl (ac rfl (ac rfl (ac rfl an))))))))))), H85.u3.u3.u3.u3, hm⟩
                    · refine r_fa FA38_1 ⟨b64, 1, none⟩ rfl rfl ?_ (wn_t rfl rfl (by decide) rfl hb101)
                      refine r_ld1 (.int .i64 y35.Expiry) LD3 rfl ((H85.g3).cell _ rfl) ?_ (wn_t rfl rfl (by decide) rfl hb101)
                      refine r_pure (.int .i64 expiry) rfl ?_ (wn_t rfl rfl (by decide) rfl hb101)
                      refine r_pure (.bool (y35.Expiry == expiry)) rfl ?_ (wn_t rfl rfl (by decide) rfl hb101)
                      refine r_pure (.bool (y35.Expiry == expiry)) rfl ?_ (wn_t rfl rfl (by decide) rfl hb101)
                      rcases ite_some hm with ⟨hb102, hm⟩ | ⟨hb102, hm⟩
                      · refine r_fa FA38_0 ⟨b64, 0, none⟩ rfl rfl ?_ (wn_t rfl rfl (by decide) rfl hb102)
                        refine r_ld1 (.int .i64 y35.Origin) LD3 rfl ((H85.g3).cell _ rfl) ?_ (wn_t rfl rfl (by decide) rfl hb102)
                        refine r_pure (.int .i64 origin) rfl ?_ (wn_t rfl rfl (by decide) rfl hb102)
                        refine r_pure (.bool (decide (y35.Origin > origin))) rfl ?_ (wn_t rfl rfl (by decide) rfl hb102)
                        refine r_pick_t (.bool (decide (y35.Origin > origin))) hb102 rfl rfl ?_ (wn_t rfl rfl (by decide) rfl hb101)
                        refine r_pick_f (.bool (decide (y35.Origin > origin))) hb101 rfl rfl ?_ (wn_t rfl rfl (by decide) rfl hb100)
                        refine r_pick_t (.bool (decide (y35.Origin > origin))) hb100 rfl rfl ?_
                        refine r_nil ?_
                        refine n_cut ⟨decide (y35.Origin > origin), upk (ac rfl (ac rfl (ac rfl (ac rfl (ac rfl (ac rfl (ac rfl (ac rfl (ac rfl (ac rfl (ac rfl an))))))))))), H85.u3.u3.u3.u3, hm⟩
                      · refine r_not (wn_f rfl rfl (by decide) rfl hb102) ?_
                        refine r_not (wn_f rfl rfl (by decide) rfl hb102) ?_
                        refine r_not (wn_f rfl rfl (by decide) rfl hb102) ?_
                        refine r_not (wn_f rfl rfl (by decide) rfl hb102) ?_
                        refine r_pick_f (.bool false) hb102 rfl rfl ?_ (wn_t rfl rfl (by decide) rfl hb101)
                        refine r_pick_f (.bool false) hb101 rfl rfl ?_ (wn_t rfl rfl (by decide) rfl hb100)
                        refine r_pick_t (.bool false) hb100 rfl rfl ?_
                        refine r_nil ?_
                        refine n_cut ⟨false, upk (ac rfl (ac rfl (ac rfl (ac rfl (ac rfl (ac rfl (ac rfl (ac rfl (ac rfl (ac rfl (ac rfl an))))))))))), H85.u3.u3.u3.u3, hm⟩
                  · refine r_not (wn_f rfl rfl (by decide) rfl hb100) ?_
                    refine r_not (wn_f rfl rfl (by decide) rfl hb100) ?_
                    refine r_not (wn_f rfl rfl (by decide) rfl hb100) ?_
                    refine r_not (wn_f rfl rfl (by decide) rfl hb100) ?_
                    refine r_not (wn_f rfl rfl (by decide) rfl hb100) ?_
                    refine r_not (wn_u rfl rfl (by decide) rfl rfl) ?_
                    refine r_not (wn_u rfl rfl (by decide) rfl rfl) ?_
                    refine r_not (wn_u rfl rfl (by decide) rfl rfl) ?_
                    refine r_not (wn_u rfl rfl (by decide) rfl rfl) ?_
                    refine r_not (wn_u rfl rfl (by decide) rfl rfl) ?_
                    refine r_not (wn_u rfl rfl (by decide) rfl rfl) ?_
                    refine r_not (wn_u rfl rfl (by decide) rfl rfl) ?_
                    refine r_not (wn_u rfl rfl (by decide) rfl rfl) ?_
                    refine r_not (wn_u rfl rfl (by decide) rfl rfl) ?_
                    refine r_not (wn_u rfl rfl (by decide) rfl rfl) ?_
                    refine r_not (wn_f rfl rfl (by decide) rfl hb100) ?_
                    refine r_pick_f (.bool false) hb100 rfl rfl ?_
                    refine r_nil ?_
                    refine n_cut ⟨false, upk (ac rfl (ac rfl (ac rfl (ac rfl (ac rfl (ac rfl (ac rfl (ac rfl (ac rfl (ac rfl (ac rfl an))))))))))), H85.u3.u3.u3.u3, hm⟩
                · rintro ρ w ⟨q89, ⟨base, rfl⟩, H90, hm⟩
                  unfold scutageref09_Losses_Add.j5 at hm
                  rcases ite_some hm with ⟨hb91, hm⟩ | ⟨hb91, hm⟩
                  · refine st_condt hb91 rfl ?_
                    refine st_region ?_
                    refine r_pure (.slice A21 xs24.length c23) rfl ?_
                    refine r_pure (.int .i64 origin) rfl ?_
                    refine r_pure (.int .i64 expiry) rfl ?_
                    refine r_pure (.int .i64 n_) rfl ?_
                    refine r_build [.int .i64 origin, .int .i64 expiry, .int .i64 n_] FL38 rfl ?_
                    refine r_buildSlice (K := K38) [(⟨origin, expiry, n_⟩ : api_Vintage)] EL26 rfl rfl rfl (by decide) (by decide) rfl H90 ?_
                    intro b92 wd94 H93
                    obtain ⟨hf95, hm⟩ := gd_some hm
                    refine r_append (K := K38) (ys := [(⟨origin, expiry, n_⟩ : api_Vintage)]) AP26 rfl rfl rfl rfl H93.u3 (((H93.u3).g1).src) (fit_le hf95 (by decide)) ?_
                    intro A96 c97 wd98 H99
                    refine r_pure (.slice A96 ((xs24 ++ [(⟨origin, expiry, n_⟩ : api_Vintage)]).length) c97) rfl ?_
                    refine r_pure (.bool true) rfl ?_
                    refine r_nil ?_
                    refine n_cut ⟨A96, (xs24 ++ [(⟨origin, expiry, n_⟩ : api_Vintage)]).length, c97, xs24 ++ [(⟨origin, expiry, n_⟩ : api_Vintage)], true, y35.Left, upk (ac rfl (ac rfl (ac rfl (ac rfl (ac rfl (ac rfl (ac rfl (ac rfl (ac rfl (ac rfl an)))))))))), H99.u1.d.u3.u1.u3.u3, hm⟩
                  · refine st_condf hb91 rfl ?_
                    refine st_skip ?_
                    refine n_cut ⟨A21, xs24.length, c23, xs24, q25, y35.Left, upk (ac rfl (ac rfl (ac rfl (ac rfl (ac rfl (ac rfl (ac rfl (ac rfl (ac rfl (ac rfl an)))))))))), H90.u3.u3.u3.u3, hm⟩
          · rintro ρ w ⟨A69, n70, c71, xs72, q73, v74, ⟨base, rfl⟩, H75, hm⟩
            obtain rfl := (H75.g2).leneq
            unfold scutageref09_Losses_Add.j3 at hm
            refine st_region ?_
            refine r_pure (.slice A69 xs72.length c71) rfl ?_
            refine r_ldA [.int .i64 y35.Origin, .int .i64 y35.Expiry, .int .i64 v74] LD38 rfl rfl ((H75.g3).cells rfl) ?_
            refine r_buildSlice (K := K38) [(⟨y35.Origin, y35.Expiry, v74⟩ : api_Vintage)] EL26 rfl rfl rfl (by decide) (by decide) rfl H75 ?_
            intro b76 wd78 H77
            obtain ⟨hf79, hm⟩ := gd_some hm
            refine r_append (K := K38) (ys := [(⟨y35.Origin, y35.Expiry, v74⟩ : api_Vintage)]) AP26 rfl rfl rfl rfl H77.u3 (((H77.u3).g1).src) (fit_le hf79 (by decide)) ?_
            intro A80 c81 wd82 H83
            refine r_pure (.slice A80 ((xs72 ++ [(⟨y35.Origin, y35.Expiry, v74⟩ : api_Vintage)]).length) c81) rfl ?_
            refine r_nil ?_
            refine n_bl ?_
            refine n_sq ?_
            refine st_region ?_
            refine r_pure (.int .i64 (w64 (i30 + 1))) rfl ?_
            refine r_pure (.int .i64 (w64 (i30 + 1))) rfl ?_
            refine r_nil ?_
            refine n_round (IH38 _ _ rfl _ _ _ ⟨i30 + 1, xs72 ++ [(⟨y35.Origin, y35.Expiry, v74⟩ : api_Vintage)], q73, dn31 ++ [y35], A80, (xs72 ++ [(⟨y35.Origin, y35.Expiry, v74⟩ : api_Vintage)]).length, c81, rfl, range_more hxs32, range_len hi33, upk (ac rfl (ac rfl (ac rfl (ac rfl (ac rfl (ac rfl (ac rfl (ac rfl (ac hnx44 an))))))))), H83.u1.d.u3.d.u2.u2⟩ hm)

set_option maxHeartbeats 2000000 in
theorem slices_Clone_api_Vintage_ok {w0 w : World} {Γ : List (World → Prop)} (s_ : List api_Vintage) (A1 : Option Addr) (n6 c2 : Nat) (hn5 : n6 = s_.length) (hc3 : s_.length ≤ c2) (hv4 : ∀ u, Hp w0 Γ u → SlR K38 A1 s_ u) (r0_ : List api_Vintage) (H : Hp w0 (Γ) w) (hm : slices_Clone_api_Vintage s_ = some r0_) : Calls Try.prog 54 #[.slice A1 n6 c2] w (fun e w => ∃ (Ax1 : Option Addr) (nx2 cx3 : Nat), e = .returned (.slice Ax1 nx2 cx3) ∧ Hp w0 (Row K38 (.slice Ax1 nx2 cx3) r0_ :: Γ) w) := by
  subst hn5
  unfold slices_Clone_api_Vintage at hm
  refine st_enter Try.func54 rfl Try.ntmps54 (Nat.le_of_ble_eq_true rfl) ?_
  refine st_seq ?_
  refine st_region ?_
  refine r_pure (.slice none 0 0) rfl ?_
  refine r_seq ?_
  refine st_seq ?_
  refine st_seq ?_
  refine st_region ?_
  refine r_pure (.slice A1 s_.length c2) rfl ?_
  rcases A1 with _ | ad7
  · obtain rfl := (hv4 _ H).none_nil
    have hm : some ([] : List api_Vintage) = some r0_ := hm
    refine r_eqsn Try.underlying26 rfl rfl rfl ?_
    refine r_seq ?_
    refine st_condt rfl rfl ?_
    refine st_seq ?_
    refine st_region ?_
    refine r_pure (.slice none 0 0) rfl ?_
    refine r_seq ?_
    have H8 := H.add (A := Row K38 (.slice none 0 0) []) Row.nil
    have hq_ := Option.some.inj hm
    subst hq_
    refine st_ret1 rfl rfl (Nat.le_of_ble_eq_true rfl) rfl ?_
    exact ⟨none, 0, 0, rfl, H8⟩
  · refine r_eqsn Try.underlying26 rfl rfl rfl ?_
    refine r_seq ?_
    refine st_condf rfl rfl ?_
    refine st_skip ?_
    refine n_sq ?_
    refine st_seq ?_
    refine st_region ?_
    refine r_buildSlice (K := K38) ([] : List api_Vintage) EL26 rfl rfl rfl (by decide) (by decide) rfl H ?_
    intro b9 wd11 H10
    refine r_pure (.slice (some ad7) s_.length c2) rfl ?_
    obtain ⟨hf12, hm⟩ := gd_some hm
    refine r_append (K := K38) (ys := s_) AP26 rfl rfl rfl rfl H10 ((hv4 _ H10.d).src) (fit_le hf12 (by decide)) ?_
    intro A13 c14 wd15 H16
    refine r_pure (.slice A13 ((([] : List api_Vintage) ++ s_).length) c14) rfl ?_
    refine r_seq ?_
    have hq_ := Option.some.inj hm
    subst hq_
    refine st_ret1 rfl rfl (Nat.le_of_ble_eq_true rfl) rfl ?_
    exact ⟨A13, (([] : List api_Vintage) ++ s_).length, c14, rfl, H16⟩

set_option maxHeartbeats 2000000 in
theorem vintage_Losses_Rows_ok {w0 w : World} {Γ : List (World → Prop)} (b1 : Nat) (l_ : vintage_Losses) (A2 : Option Addr) (n7 c3 : Nat) (hn6 : n7 = l_.f_l.length) (hc4 : l_.f_l.length ≤ c3) (hv5 : ∀ u, Hp w0 Γ u → SlR K38 A2 l_.f_l u) (hv8 : ∀ u, Hp w0 Γ u → Bx b1 75 [.slice A2 n7 c3] u) (r0_ : List api_Vintage) (H : Hp w0 (Γ) w) (hm : vintage_Losses_Rows l_ = some r0_) : Calls Try.prog 22 #[.pointer (some ⟨b1, 0, none⟩)] w (fun e w => ∃ (Ax1 : Option Addr) (nx2 cx3 : Nat), e = .returned (.slice Ax1 nx2 cx3) ∧ Hp w0 (Row K38 (.slice Ax1 nx2 cx3) r0_ :: Γ) w) := by
  subst hn6
  unfold vintage_Losses_Rows at hm
  refine st_enter Try.func22 rfl Try.ntmps22 (Nat.le_of_ble_eq_true rfl) ?_
  refine st_seq ?_
  refine st_region ?_
  refine r_pure (.slice none 0 0) rfl ?_
  refine r_seq ?_
  refine st_seq ?_
  refine st_region ?_
  refine r_pure (.pointer (some ⟨b1, 0, none⟩)) rfl ?_
  refine r_pure (.pointer (some ⟨b1, 0, none⟩)) rfl ?_
  refine r_fa FA75_0 ⟨b1, 0, none⟩ rfl rfl ?_
  refine r_ld1 (.slice A2 l_.f_l.length c3) LD26 rfl ((hv8 _ H).cell _ rfl) ?_
  obtain ⟨y9, hy10, hm⟩ := bind_some hm
  refine r_callf Try.call54 (slices_Clone_api_Vintage_ok l_.f_l A2 l_.f_l.length c3 rfl hc4 (fun _ H => (hv5 _ H)) y9 H hy10) ?_
  rintro e12 wd11 ⟨A15, n16, c17, rfl, H14⟩
  obtain rfl := (H14.g0).leneq
  refine ⟨_, rfl, ?_⟩
  refine r_pure (.slice A15 y9.length c17) rfl ?_
  refine r_seq ?_
  have hq_ := Option.some.inj hm
  subst hq_
  refine st_ret1 rfl rfl (Nat.le_of_ble_eq_true rfl) rfl ?_
  exact ⟨A15, y9.length, c17, rfl, H14⟩

set_option maxHeartbeats 2000000 in
theorem scutagekeep_Same_api_Vintage_ok {w0 w : World} {Γ : List (World → Prop)} (a_ : List api_Vintage) (A1 : Option Addr) (n6 c2 : Nat) (hn5 : n6 = a_.length) (hc3 : a_.length ≤ c2) (hv4 : ∀ u, Hp w0 Γ u → SlR K38 A1 a_ u) (b_ : List api_Vintage) (A7 : Option Addr) (n12 c8 : Nat) (hn11 : n12 = b_.length) (hc9 : b_.length ≤ c8) (hv10 : ∀ u, Hp w0 Γ u → SlR K38 A7 b_ u) (r0_ : Bool) (H : Hp w0 (Γ) w) (hm : scutagekeep_Same_api_Vintage a_ b_ = some r0_) : Calls Try.prog 21 #[.slice A1 n6 c2, .slice A7 n12 c8] w (fun e w => e = .returned (.bool r0_) ∧ Hp w0 (Γ) w) := by
  subst hn5
  subst hn11
  unfold scutagekeep_Same_api_Vintage at hm
  refine st_enter Try.func21 rfl Try.ntmps21 (Nat.le_of_ble_eq_true rfl) ?_
  refine st_seq ?_
  refine st_region ?_
  refine r_pure (.bool false) rfl ?_
  refine r_seq ?_
  refine st_seq ?_
  refine st_seq ?_
  refine st_region ?_
  refine r_pure (.slice A1 a_.length c2) rfl ?_
  refine r_len Try.underlying26 rfl ?_
  refine r_pure (.slice A7 b_.length c8) rfl ?_
  refine r_len Try.underlying26 rfl ?_
  refine r_pure (.bool ((a_.length : Int) != (b_.length : Int))) rfl ?_
  refine r_seq ?_
  rcases ite_some hm with ⟨hb13, hm⟩ | ⟨hb13, hm⟩
  · refine st_condt hb13 rfl ?_
    refine st_seq ?_
    refine st_region ?_
    refine r_pure (.bool false) rfl ?_
    refine r_seq ?_
    have hq_ := Option.some.inj hm
    subst hq_
    refine st_ret1 rfl rfl (Nat.le_of_ble_eq_true rfl) rfl ?_
    exact ⟨rfl, H⟩
  · refine st_condf hb13 rfl ?_
    refine st_skip ?_
    refine n_sq ?_
    refine st_seq ?_
    refine st_seq ?_
    refine st_region ?_
    refine r_pure (.int .i64 0) rfl ?_
    refine r_seq ?_
    refine st_block ?_
    obtain ⟨tl18, hl19, hm17⟩ := bind_some hm
    refine st_loopF (scutagekeep_Same_api_Vintage.l1 a_ b_) (fun s ρ w => ∃ v15 : Int, v15 = s ∧ (∃ base, ρ = updl base [(0, .slice A1 a_.length c2), (1, .slice A7 b_.length c8), (5, .int .i64 v15)]) ∧ Hp w0 (Γ) w) hl19 (fun _ => rfl) ⟨0, rfl, upk (ac rfl (ac rfl (ac rfl an))), H⟩ ?_
    rintro fuel25 IH27 s ρ w ⟨v15, rfl, ⟨base, rfl⟩, H16⟩ hm
    rw [scutagekeep_Same_api_Vintage.l1] at hm
    refine st_seq ?_
    refine st_seq ?_
    refine st_region ?_
    refine r_pure (.int .i64 v15) rfl ?_
    refine r_pure (.slice A1 a_.length c2) rfl ?_
    refine r_len Try.underlying26 rfl ?_
    refine r_pure (.bool (decide (v15 < (a_.length : Int)))) rfl ?_
    refine r_seq ?_
    rcases ite_some hm with ⟨hb28, hm⟩ | ⟨hb28, hm⟩
    · refine st_condt hb28 rfl ?_
      refine st_skip ?_
      refine n_sq ?_
      refine st_seq ?_
      refine st_block ?_
      refine st_seq ?_
      obtain ⟨⟨h030, h131⟩, hm⟩ := gd_some hm
      have hj32 := rd_get h030 h131
      obtain ⟨⟨h034, h135⟩, hm⟩ := gd_some hm
      have hj36 := rd_get h034 h135
      refine Flow.run' [[], [], [0, 1], [0, 1, 2], [], [], [4, 5], [4, 5, 6], [0, 1, 2, 3, 4, 5, 6, 7]] [(17, 0), (18, 1), (19, 2), (20, 3), (21, 4), (22, 5), (23, 6), (24, 7), (25, 8)] [(fun η29 v => v.1 = .slice A1 a_.length c2), (fun η29 v => v.1 = .int .i64 v15), (fun η29 v => v.1 = .pointer (some ((oA A1).add (Int.toNat v15 * 3)))), (fun η29 v => v.1 = .agg #[.int .i64 ((rd a_ v15).Origin), .int .i64 ((rd a_ v15).Expiry), .int .i64 ((rd a_ v15).Left)]), (fun η29 v => v.1 = .slice A7 b_.length c8), (fun η29 v => v.1 = .int .i64 v15), (fun η29 v => v.1 = .pointer (some ((oA A7).add (Int.toNat v15 * 3)))), (fun η29 v => v.1 = .agg #[.int .i64 ((rd b_ v15).Origin), .int .i64 ((rd b_ v15).Expiry), .int .i64 ((rd b_ v15).Left)]), (fun η29 v => v.1 = .bool (!(((rd a_ v15).Origin) == ((rd b_ v15).Origin) && (((rd a_ v15).Expiry) == ((rd b_ v15).Expiry) && (((rd a_ v15).Left) == ((rd b_ v15).Left))))))] [] rfl (by kernel_rfl) (by kernel_rfl) H16 ⟨?_, ?_, ?_, ?_, ?_, ?_, ?_, ?_, ?_, trivial⟩ ?_
      · intro η29 wd41 Δ42 hE38 hR39 H40
        have H40 : Hp w0 ((Δ42 ++ Γ)) wd41 := H40
        refine sp_op [(0, .slice A1 a_.length c2)] (ac rfl an) ?_
        refine r_pure (.slice A1 a_.length c2) rfl ?_
        exact r_nil (n_lp ⟨_, rfl, undef, rfl, H40⟩)
      · intro η29 wd46 Δ47 hE43 hR44 H45
        have H45 : Hp w0 ((Δ47 ++ Γ)) wd46 := H45
        refine sp_op [(5, .int .i64 v15)] (ac rfl an) ?_
        refine r_pure (.int .i64 v15) rfl ?_
        exact r_nil (n_lp ⟨_, rfl, undef, rfl, H45⟩)
      · intro η29 wd51 Δ52 hE48 hR49 H50
        have H50 : Hp w0 ((Δ52 ++ Γ)) wd51 := H50
        refine sp_op [(17, .slice A1 a_.length c2), (18, .int .i64 v15)] (ac (hE48 0 (by decide)) (ac (hE48 1 (by decide)) an)) ?_
        have hA56 := (hv4 _ (H50).tl).adO hj32
        refine r_ix IX26 rfl rfl hA56 h030 h131 ?_
        exact r_nil (n_lp ⟨_, rfl, undef, rfl, H50⟩)
      · intro η29 wd60 Δ61 hE57 hR58 H59
        have H59 : Hp w0 ((Δ61 ++ Γ)) wd60 := H59
        refine sp_op [(19, .pointer (some ((oA A1).add (Int.toNat v15 * 3))))] (ac (hE57 2 (by decide)) an) ?_
        have hA62 := (hv4 _ (H59).tl).adO hj32
        refine r_ldA [.int .i64 ((rd a_ v15).Origin), .int .i64 ((rd a_ v15).Expiry), .int .i64 ((rd a_ v15).Left)] LD38 rfl rfl ((hv4 _ (H59).tl).csA hA62 hj32) ?_
        exact r_nil (n_lp ⟨_, rfl, undef, rfl, H59⟩)
      · intro η29 wd66 Δ67 hE63 hR64 H65
        have H65 : Hp w0 ((Δ67 ++ Γ)) wd66 := H65
        refine sp_op [(1, .slice A7 b_.length c8)] (ac rfl an) ?_
        refine r_pure (.slice A7 b_.length c8) rfl ?_
        exact r_nil (n_lp ⟨_, rfl, undef, rfl, H65⟩)
      · intro η29 wd71 Δ72 hE68 hR69 H70
        have H70 : Hp w0 ((Δ72 ++ Γ)) wd71 := H70
        refine sp_op [(5, .int .i64 v15)] (ac rfl an) ?_
        refine r_pure (.int .i64 v15) rfl ?_
        exact r_nil (n_lp ⟨_, rfl, undef, rfl, H70⟩)
      · intro η29 wd76 Δ77 hE73 hR74 H75
        have H75 : Hp w0 ((Δ77 ++ Γ)) wd76 := H75
        refine sp_op [(21, .slice A7 b_.length c8), (22, .int .i64 v15)] (ac (hE73 4 (by decide)) (ac (hE73 5 (by decide)) an)) ?_
        have hA81 := (hv10 _ (H75).tl).adO hj36
        refine r_ix IX26 rfl rfl hA81 h034 h135 ?_
        exact r_nil (n_lp ⟨_, rfl, undef, rfl, H75⟩)
      · intro η29 wd85 Δ86 hE82 hR83 H84
        have H84 : Hp w0 ((Δ86 ++ Γ)) wd85 := H84
        refine sp_op [(23, .pointer (some ((oA A7).add (Int.toNat v15 * 3))))] (ac (hE82 6 (by decide)) an) ?_
        have hA87 := (hv10 _ (H84).tl).adO hj36
        refine r_ldA [.int .i64 ((rd b_ v15).Origin), .int .i64 ((rd b_ v15).Expiry), .int .i64 ((rd b_ v15).Left)] LD38 rfl rfl ((hv10 _ (H84).tl).csA hA87 hj36) ?_
        exact r_nil (n_lp ⟨_, rfl, undef, rfl, H84⟩)
      · intro η29 wd91 Δ92 hE88 hR89 H90
        have H90 : Hp w0 ((Δ92 ++ Γ)) wd91 := H90
        refine sp_op [(20, .agg #[.int .i64 ((rd a_ v15).Origin), .int .i64 ((rd a_ v15).Expiry), .int .i64 ((rd a_ v15).Left)]), (24, .agg #[.int .i64 ((rd b_ v15).Origin), .int .i64 ((rd b_ v15).Expiry), .int .i64 ((rd b_ v15).Left)])] (ac (hE88 3 (by decide)) (ac (hE88 7 (by decide)) an)) ?_
        refine r_neS (EQ38 ((rd a_ v15).Origin) ((rd b_ v15).Origin) ((rd a_ v15).Expiry) ((rd b_ v15).Expiry) ((rd a_ v15).Left) ((rd b_ v15).Left)) (by decide) Try.eqGuardType38 rfl rfl ?_
        exact r_nil (n_lp ⟨_, rfl, undef, rfl, H90⟩)
      · intro η29 wd94 hV95 H93
        have H96 : Hp w0 (Γ) wd94 := H93
        refine n_frame [(0, .slice A1 a_.length c2), (1, .slice A7 b_.length c8), (5, .int .i64 v15), (25, .bool (!(((rd a_ v15).Origin) == ((rd b_ v15).Origin) && (((rd a_ v15).Expiry) == ((rd b_ v15).Expiry) && (((rd a_ v15).Left) == ((rd b_ v15).Left))))))] (ac rfl (ac rfl (ac rfl (ac (hV95 8 rfl) an)))) ?_
        refine n_sq ?_
        rcases ite_some hm with ⟨hb97, hm⟩ | ⟨hb97, hm⟩
        · refine st_condt hb97 rfl ?_
          refine st_seq ?_
          refine st_region ?_
          refine r_pure (.bool false) rfl ?_
          refine r_seq ?_
          have hq_ := Option.some.inj hm
          subst hq_
          have hq_ := Option.some.inj (show some (false : Bool) = some r0_ from hm17)
          subst hq_
          refine st_ret1 rfl rfl (Nat.le_of_ble_eq_true rfl) rfl ?_
          exact ⟨rfl, H96⟩
        · refine st_condf hb97 rfl ?_
          refine st_skip ?_
          refine n_bl ?_
          refine n_sq ?_
          refine st_region ?_
          refine r_pure (.int .i64 v15) rfl ?_
          refine r_pure (.int .i64 (w64 (v15 + 1))) rfl ?_
          refine r_pure (.int .i64 (w64 (v15 + 1))) rfl ?_
          refine r_nil ?_
          refine n_round (IH27 _ _ _ ⟨w64 (v15 + 1), rfl, upk (ac rfl (ac rfl (ac rfl an))), H96⟩ hm)
    · refine st_condf hb28 rfl ?_
      have hq_ := Option.some.inj hm
      refine st_exit rfl ?_
      subst hq_
      refine n_sq ?_
      refine st_seq ?_
      refine st_region ?_
      refine r_pure (.bool true) rfl ?_
      refine r_seq ?_
      have hq_ := Option.some.inj hm17
      subst hq_
      refine st_ret1 rfl rfl (Nat.le_of_ble_eq_true rfl) rfl ?_
      exact ⟨rfl, H16⟩

set_option maxHeartbeats 2000000 in
theorem vintage_Losses_Expire_ok {w0 w : World} {Γ : List (World → Prop)} (b1 : Nat) (l_ : vintage_Losses) (A2 : Option Addr) (c3 : Nat) (year : Int) (r0_ : Int) (r1_ : vintage_Losses) (H : Hp w0 (Bx b1 75 [.slice A2 l_.f_l.length c3] :: Row K38 (.slice A2 l_.f_l.length c3) l_.f_l :: Γ) w) (hm : vintage_Losses_Expire l_ year = some (r0_, r1_)) : Calls Try.prog 13 #[.pointer (some ⟨b1, 0, none⟩), .int .i64 year] w (fun e w => ∃ (Ax1 : Option Addr) (nx2 cx3 : Nat), e = .returned (.int .i64 r0_) ∧ Hp w0 (Bx b1 75 [.slice Ax1 nx2 cx3] :: Row K38 (.slice Ax1 nx2 cx3) r1_.f_l :: Γ) w) := by
  unfold vintage_Losses_Expire at hm
  refine st_enter Try.func13 rfl Try.ntmps13 (Nat.le_of_ble_eq_true rfl) ?_
  refine st_seq ?_
  refine st_region ?_
  refine r_pure (.int .i64 0) rfl ?_
  refine r_seq ?_
  obtain ⟨tl16, hl17, hm15⟩ := bind_some hm
  refine st_scopeX 0 rfl (vintage_Losses_Expire.l1 year) (fun s ρ w => ∃ xs12 : List api_Vintage, ∃ v13 : Int, ∃ A9 : Option Addr, ∃ n10 : Nat, ∃ c11 : Nat, (xs12, v13) = s ∧ (∃ base, ρ = updl base [(0, .pointer (some ⟨b1, 0, none⟩)), (1, .int .i64 year), (5, .int .i64 v13)]) ∧ Hp w0 (Row K38 (.slice A9 n10 c11) xs12 :: Bx b1 75 [.slice A9 n10 c11] :: Γ) w) (m0 := 4611686018427387903) hl17 (fun _ => rfl) (fun J_ => ?_) ?_
  · refine st_region ?_
    refine r_pure (.int .i64 0) rfl ?_
    refine r_nil ?_
    refine n_cut ⟨l_.f_l, 0, A2, l_.f_l.length, c3, rfl, upk (ac rfl (ac rfl (ac rfl an))), H.u1⟩
  rintro J_ fuel23 s ρ w IH25 ⟨xs12, v13, A9, n10, c11, rfl, ⟨base, rfl⟩, H14⟩ hm
  obtain rfl := (H14.g0).leneq
  rw [vintage_Losses_Expire.l1] at hm
  refine st_seq ?_
  refine st_cut (fun ρ w => ∃ q26 : Bool, (∃ base, ρ = updl base [(0, .pointer (some ⟨b1, 0, none⟩)), (1, .int .i64 year), (5, .int .i64 v13), (22, .bool q26)]) ∧ Hp w0 (Row K38 (.slice A9 xs12.length c11) xs12 :: Bx b1 75 [.slice A9 xs12.length c11] :: Γ) w ∧ vintage_Losses_Expire.j1 xs12 (vintage_Losses_Expire.l1 year fuel23) v13 q26 = some tl16) ?_ ?_
  · refine st_region ?_
    refine r_pure (.pointer (some ⟨b1, 0, none⟩)) rfl ?_
    refine r_pure (.pointer (some ⟨b1, 0, none⟩)) rfl ?_
    refine r_fa FA75_0 ⟨b1, 0, none⟩ rfl rfl ?_
    refine r_ld1 (.slice A9 xs12.length c11) LD26 rfl ((H14.g1).cell _ rfl) ?_
    refine r_len Try.underlying26 rfl ?_
    refine r_pure (.bool (decide ((xs12.length : Int) > 0))) rfl ?_
    refine r_pure (.bool (decide ((xs12.length : Int) > 0))) rfl ?_
    rcases ite_some hm with ⟨hb37, hm⟩ | ⟨hb37, hm⟩
    · refine r_pure (.pointer (some ⟨b1, 0, none⟩)) rfl ?_ (wn_t rfl rfl (by decide) rfl hb37)
      refine r_pure (.pointer (some ⟨b1, 0, none⟩)) rfl ?_ (wn_t rfl rfl (by decide) rfl hb37)
      refine r_fa FA75_0 ⟨b1, 0, none⟩ rfl rfl ?_ (wn_t rfl rfl (by decide) rfl hb37)
      refine r_ld1 (.slice A9 xs12.length c11) LD26 rfl ((H14.g1).cell _ rfl) ?_ (wn_t rfl rfl (by decide) rfl hb37)
      obtain ⟨⟨h038, h139⟩, hm⟩ := gd_some hm
      have hj40 := rd_get h038 h139
      have hA41 := (H14.g0.rd).adO hj40
      refine r_ix IX26 rfl rfl hA41 h038 h139 ?_ (wn_t rfl rfl (by decide) rfl hb37)
      refine r_fa FA38_1 (((oA A9).add (Int.toNat 0 * 3)).add 1) rfl rfl ?_ (wn_t rfl rfl (by decide) rfl hb37)
      refine r_ld1 (.int .i64 ((rd xs12 0).Expiry)) LD3 rfl ((H14.g0.rd).cA hA41 hj40 1 _ rfl) ?_ (wn_t rfl rfl (by decide) rfl hb37)
      refine r_pure (.int .i64 year) rfl ?_ (wn_t rfl rfl (by decide) rfl hb37)
      refine r_pure (.bool (decide ((rd xs12 0).Expiry < year))) rfl ?_ (wn_t rfl rfl (by decide) rfl hb37)
      refine r_pick_t (.bool (decide ((rd xs12 0).Expiry < year))) hb37 rfl rfl ?_
      refine r_nil ?_
      refine n_cut ⟨decide ((rd xs12 0).Expiry < year), upk (ac rfl (ac rfl (ac rfl (ac rfl an)))), H14.u1.u1, hm⟩
    · refine r_not (wn_f rfl rfl (by decide) rfl hb37) ?_
      refine r_not (wn_f rfl rfl (by decide) rfl hb37) ?_
      refine r_not (wn_f rfl rfl (by decide) rfl hb37) ?_
      refine r_not (wn_f rfl rfl (by decide) rfl hb37) ?_
      refine r_not (wn_f rfl rfl (by decide) rfl hb37) ?_
      refine r_not (wn_f rfl rfl (by decide) rfl hb37) ?_
      refine r_not (wn_f rfl rfl (by decide) rfl hb37) ?_
      refine r_not (wn_f rfl rfl (by decide) rfl hb37) ?_
      refine r_not (wn_f rfl rfl (by decide) rfl hb37) ?_
      refine r_pick_f (.bool false) hb37 rfl rfl ?_
      refine r_nil ?_
      refine n_cut ⟨false, upk (ac rfl (ac rfl (ac rfl (ac rfl an)))), H14.u1.u1, hm⟩
  · rintro ρ w ⟨q26, ⟨base, rfl⟩, H27, hm⟩
    unfold vintage_Losses_Expire.j1 at hm
    rcases ite_some hm with ⟨hb28, hm⟩ | ⟨hb28, hm⟩
    · refine st_condt hb28 rfl ?_
      refine st_seq ?_
      refine st_region ?_
      refine r_pure (.int .i64 v13) rfl ?_
      refine r_pure (.pointer (some ⟨b1, 0, none⟩)) rfl ?_
      refine r_pure (.pointer (some ⟨b1, 0, none⟩)) rfl ?_
      refine r_fa FA75_0 ⟨b1, 0, none⟩ rfl rfl ?_
      refine r_ld1 (.slice A9 xs12.length c11) LD26 rfl ((H27.g1).cell _ rfl) ?_
      obtain ⟨⟨h029, h130⟩, hm⟩ := gd_some hm
      have hj31 := rd_get h029 h130
      have hA32 := (H27.g0.rd).adO hj31
      refine r_ix IX26 rfl rfl hA32 h029 h130 ?_
      refine r_fa FA38_2 (((oA A9).add (Int.toNat 0 * 3)).add 2) rfl rfl ?_
      refine r_ld1 (.int .i64 ((rd xs12 0).Left)) LD3 rfl ((H27.g0.rd).cA hA32 hj31 2 _ rfl) ?_
      refine r_pure (.int .i64 (w64 (v13 + (rd xs12 0).Left))) rfl ?_
      refine r_pure (.int .i64 (w64 (v13 + (rd xs12 0).Left))) rfl ?_
      refine r_seq ?_
      refine st_seq ?_
      refine st_region ?_
      refine r_pure (.pointer (some ⟨b1, 0, none⟩)) rfl ?_
      refine r_pure (.pointer (some ⟨b1, 0, none⟩)) rfl ?_
      refine r_pure (.pointer (some ⟨b1, 0, none⟩)) rfl ?_
      refine r_fa FA75_0 ⟨b1, 0, none⟩ rfl rfl ?_
      refine r_ld1 (.slice A9 xs12.length c11) LD26 rfl ((H27.g1).cell _ rfl) ?_
      obtain ⟨hs33, hm⟩ := gd_some hm
      refine r_cut2 (xs := xs12) (lo := (1 : Int)) (hi := (xs12.length : Int)) IX26 rfl rfl (H27.g0.cap) rfl ⟨_, rfl⟩ hs33 ?_
      refine r_pure (.pointer (some ⟨b1, 0, none⟩)) rfl ?_
      refine r_fa FA75_0 ⟨b1, 0, none⟩ rfl rfl ?_
      have H36 : Hp w0 (Row K38 (.slice (cutA A9 (1 : Int) (c11 : Int) 3) ((sb xs12 (1 : Int) (xs12.length : Int)).length) (c11 - Int.toNat (1 : Int))) (sb xs12 (1 : Int) (xs12.length : Int)) :: _) _ := H27.imp fun _ h_ => h_.sb hs33.1 hs33.2.1 (by have := (H27.g0.cap); have := hs33; omega) (Int.le_refl _) hs33.2.2
      refine r_st1 LD26 rfl rfl rfl H36.u1 rfl ?_
      intro wd35 H34
      refine r_seq ?_
      refine st_goto rfl (IH25 _ _ _ ⟨sb xs12 (1 : Int) (xs12.length : Int), w64 (v13 + (rd xs12 0).Left), (cutA A9 (1 : Int) (c11 : Int) 3), (sb xs12 (1 : Int) (xs12.length : Int)).length, (c11 - Int.toNat (1 : Int)), rfl, upk (ac rfl (ac rfl (ac rfl an))), H34.u1⟩ hm)
    · refine st_condf hb28 rfl ?_
      refine st_skip ?_
      refine n_sq ?_
      refine st_seq ?_
      refine st_region ?_
      refine r_pure (.int .i64 v13) rfl ?_
      refine r_pure (.int .i64 v13) rfl ?_
      refine r_seq ?_
      have hq_ := Option.some.inj hm
      subst hq_
      obtain ⟨rfl, rfl⟩ := some_inj2 (show some ((v13, (⟨xs12⟩ : vintage_Losses)) : (Int × vintage_Losses)) = some (r0_, r1_) from hm15)
      refine st_ret1 rfl rfl (Nat.le_of_ble_eq_true rfl) rfl ?_
      exact ⟨A9, xs12.length, c11, rfl, H27.u1⟩

set_option maxHeartbeats 2000000 in
theorem scutageref09_Losses_Expire_ok {w0 w : World} {Γ : List (World → Prop)} (b1 : Nat) (l_ : scutageref09_Losses) (A2 : Option Addr) (c3 : Nat) (year : Int) (r0_ : Int) (r1_ : scutageref09_Losses) (H : Hp w0 (Bx b1 28 [.slice A2 l_.V.length c3] :: Row K38 (.slice A2 l_.V.length c3) l_.V :: Γ) w) (hm : scutageref09_Losses_Expire l_ year = some (r0_, r1_)) : Calls Try.prog 15 #[.pointer (some ⟨b1, 0, none⟩), .int .i64 year] w (fun e w => ∃ (Ax1 : Option Addr) (nx2 cx3 : Nat), e = .returned (.int .i64 r0_) ∧ Hp w0 (Bx b1 28 [.slice Ax1 nx2 cx3] :: Row K38 (.slice Ax1 nx2 cx3) r1_.V :: Γ) w) := by
  unfold scutageref09_Losses_Expire at hm
  refine st_enter Try.func15 rfl Try.ntmps15 (Nat.le_of_ble_eq_true rfl) ?_
  refine st_seq ?_
  refine st_region ?_
  refine r_pure (.int .i64 0) rfl ?_
  refine r_seq ?_
  refine st_seq ?_
  refine st_region ?_
  refine r_pure (.int .i64 0) rfl ?_
  refine r_seq ?_
  refine st_seq ?_
  refine st_region ?_
  refine r_pure (.slice none 0 0) rfl ?_
  refine r_seq ?_
  refine st_seq ?_
  refine st_seq ?_
  refine st_region ?_
  refine r_pure (.pointer (some ⟨b1, 0, none⟩)) rfl ?_
  refine r_pure (.pointer (some ⟨b1, 0, none⟩)) rfl ?_
  refine r_fa FA28_0 ⟨b1, 0, none⟩ rfl rfl ?_
  refine r_ld1 (.slice A2 l_.V.length c3) LD26 rfl ((H.g0).cell _ rfl) ?_
  refine r_len Try.underlying26 rfl ?_
  refine r_pure (.int .i64 0) rfl ?_
  refine r_seq ?_
  refine st_block ?_
  have H11 := H.add (A := Row K38 (.slice none 0 0) []) Row.nil
  have hlim35 := (H11.g2.rd).lim
  obtain ⟨tl18, hl19, hm17⟩ := bind_some hm
  refine st_loopL (scutageref09_Losses_Expire.l1 year) (fun ys24 s ρ w => ∃ i20 : Int, ∃ v10 : Int, ∃ xs15 : List api_Vintage, ∃ dn21 : List api_Vintage, ∃ A12 : Option Addr, ∃ n13 : Nat, ∃ c14 : Nat, (i20, v10, xs15) = s ∧ l_.V = dn21 ++ ys24 ∧ i20 = (dn21.length : Int) ∧ (∃ base, ρ = updl base [(0, .pointer (some ⟨b1, 0, none⟩)), (1, .int .i64 year), (5, .int .i64 v10), (6, .slice A12 n13 c14), (12, .slice A2 l_.V.length c3), (13, .int .i64 (l_.V.length : Int)), (14, .int .i64 i20)]) ∧ Hp w0 (Row K38 (.slice A2 l_.V.length c3) l_.V :: Bx b1 28 [.slice A2 l_.V.length c3] :: Row K38 (.slice A12 n13 c14) xs15 :: Γ) w) hl19 ⟨0, 0, ([] : List api_Vintage), [], none, 0, 0, rfl, rfl, rfl, upk (ac rfl (ac rfl (ac rfl (ac rfl (ac rfl (ac rfl (ac rfl an))))))), H11.u1.u2⟩ ?_
  rintro m ys24 IH28 s ρ w ⟨i20, v10, xs15, dn21, A12, n13, c14, rfl, hxs22, hi23, ⟨base, rfl⟩, H16⟩ hm
  obtain rfl := (H16.g2).leneq
  rcases ys24 with _ | ⟨y25, ys24⟩
  · rw [scutageref09_Losses_Expire.l1] at hm
    have hb29 := range_end hxs22 hi23
    refine st_seq ?_
    refine st_region ?_
    refine r_pure (.bool (decide (i20 < (l_.V.length : Int)))) rfl ?_
    refine r_seq ?_
    refine st_seq ?_
    refine st_condf hb29 rfl ?_
    have hq_ := Option.some.inj hm
    refine st_exit rfl ?_
    subst hq_
    refine n_sq ?_
    refine st_seq ?_
    refine st_region ?_
    refine r_pure (.pointer (some ⟨b1, 0, none⟩)) rfl ?_
    refine r_pure (.slice A12 xs15.length c14) rfl ?_
    refine r_pure (.pointer (some ⟨b1, 0, none⟩)) rfl ?_
    refine r_fa FA28_0 ⟨b1, 0, none⟩ rfl rfl ?_
    refine r_st1 LD26 rfl rfl rfl H16.u1 rfl ?_
    intro wd37 H36
    refine r_seq ?_
    refine st_seq ?_
    refine st_region ?_
    refine r_pure (.int .i64 v10) rfl ?_
    refine r_pure (.int .i64 v10) rfl ?_
    refine r_seq ?_
    obtain ⟨rfl, rfl⟩ := some_inj2 hm17
    refine st_ret1 rfl rfl (Nat.le_of_ble_eq_true rfl) rfl ?_
    exact ⟨A12, xs15.length, c14, rfl, H36.u1.d.u1.u1⟩
  · rw [scutageref09_Losses_Expire.l1] at hm
    have hb30 := range_in hxs22 hi23
    obtain ⟨h031, h132, hj33⟩ := range_ix hxs22 hi23
    have hnx34 := range_next hxs22 hi23 hlim35
    refine st_seq ?_
    refine st_region ?_
    refine r_pure (.bool (decide (i20 < (l_.V.length : Int)))) rfl ?_
    refine r_seq ?_
    refine st_seq ?_
    refine st_condt hb30 rfl ?_
    refine st_skip ?_
    refine n_sq ?_
    refine st_cut (fun ρ w => ∃ A39 : Option Addr, ∃ n40 : Nat, ∃ c41 : Nat, ∃ v38 : Int, ∃ xs42 : List api_Vintage, (∃ base, ρ = updl base [(0, .pointer (some ⟨b1, 0, none⟩)), (1, .int .i64 year), (5, .int .i64 v38), (6, .slice A39 n40 c41), (12, .slice A2 l_.V.length c3), (13, .int .i64 (l_.V.length : Int)), (14, .int .i64 i20)]) ∧ Hp w0 (Row K38 (.slice A2 l_.V.length c3) l_.V :: Bx b1 28 [.slice A2 l_.V.length c3] :: Row K38 (.slice A39 n40 c41) xs42 :: Γ) w ∧ scutageref09_Losses_Expire.j1 (scutageref09_Losses_Expire.l1 year ys24) i20 v38 xs42 = some tl18) ?_ ?_
    · refine st_block ?_
      refine st_seq ?_
      refine st_region ?_
      have hA44 := (H16.g0.rd).adO hj33
      refine r_ix IX26 rfl rfl hA44 h031 h132 ?_
      refine r_ldA [.int .i64 y25.Origin, .int .i64 y25.Expiry, .int .i64 y25.Left] LD38 rfl rfl ((H16.g0.rd).csA hA44 hj33) ?_
      refine r_alloc [.int .i64 0, .int .i64 0, .int .i64 0] Try.zeroValue38 H16 rfl ?_
      intro b45 wd47 H46
      refine r_stA [.int .i64 y25.Origin, .int .i64 y25.Expiry, .int .i64 y25.Left] LD38 rfl rfl rfl rfl H46 (Nat.le_of_ble_eq_true rfl) rfl ?_
      intro wd49 H48
      refine r_seq ?_
      refine st_seq ?_
      refine st_region ?_
      refine r_fa FA38_1 ⟨b45, 1, none⟩ rfl rfl ?_
      refine r_ld1 (.int .i64 y25.Expiry) LD3 rfl ((H48.g0).cell _ rfl) ?_
      refine r_pure (.int .i64 year) rfl ?_
      refine r_pure (.bool (decide (y25.Expiry < year))) rfl ?_
      refine r_seq ?_
      rcases ite_some hm with ⟨hb50, hm⟩ | ⟨hb50, hm⟩
      · refine st_condt hb50 rfl ?_
        refine st_region ?_
        refine r_pure (.int .i64 v10) rfl ?_
        refine r_fa FA38_2 ⟨b45, 2, none⟩ rfl rfl ?_
        refine r_ld1 (.int .i64 y25.Left) LD3 rfl ((H48.g0).cell _ rfl) ?_
        refine r_pure (.int .i64 (w64 (v10 + y25.Left))) rfl ?_
        refine r_pure (.int .i64 (w64 (v10 + y25.Left))) rfl ?_
        refine r_nil ?_
        refine n_bl ?_
        refine n_cut ⟨A12, xs15.length, c14, w64 (v10 + y25.Left), xs15, upk (ac rfl (ac rfl (ac rfl (ac rfl (ac rfl (ac rfl (ac rfl an))))))), H48.d.u2.u2.u2, hm⟩
      · refine st_condf hb50 rfl ?_
        refine st_region ?_
        refine r_pure (.slice A12 xs15.length c14) rfl ?_
        refine r_ldA [.int .i64 y25.Origin, .int .i64 y25.Expiry, .int .i64 y25.Left] LD38 rfl rfl ((H48.g0).cells rfl) ?_
        refine r_buildSlice (K := K38) [y25] EL26 rfl rfl rfl (by decide) (by decide) rfl H48 ?_
        intro b51 wd53 H52
        obtain ⟨hf54, hm⟩ := gd_some hm
        refine r_append (K := K38) (ys := [y25]) AP26 rfl rfl rfl rfl H52.u4 (((H52.u4).g1).src) (fit_le hf54 (by decide)) ?_
        intro A55 c56 wd57 H58
        refine r_pure (.slice A55 ((xs15 ++ [y25]).length) c56) rfl ?_
        refine r_nil ?_
        refine n_bl ?_
        refine n_cut ⟨A55, (xs15 ++ [y25]).length, c56, v10, xs15 ++ [y25], upk (ac rfl (ac rfl (ac rfl (ac rfl (ac rfl (ac rfl (ac rfl an))))))), H58.u1.d.u1.d.u2.u2, hm⟩
    · rintro ρ w ⟨A39, n40, c41, v38, xs42, ⟨base, rfl⟩, H43, hm⟩
      obtain rfl := (H43.g2).leneq
      unfold scutageref09_Losses_Expire.j1 at hm
      refine st_region ?_
      refine r_pure (.int .i64 (w64 (i20 + 1))) rfl ?_
      refine r_pure (.int .i64 (w64 (i20 + 1))) rfl ?_
      refine r_nil ?_
      refine n_round (IH28 _ _ rfl _ _ _ ⟨i20 + 1, v38, xs42, dn21 ++ [y25], A39, xs42.length, c41, rfl, range_more hxs22, range_len hi23, upk (ac rfl (ac rfl (ac rfl (ac rfl (ac rfl (ac rfl (ac hnx34 an))))))), H43.u2.u2.u2⟩ hm)

set_option maxHeartbeats 2000000 in
theorem scutagekeep_Copy_int_ok {w0 w : World} {Γ : List (World → Prop)} (l_ : List Int) (A1 : Option Addr) (n6 c2 : Nat) (hn5 : n6 = l_.length) (hc3 : l_.length ≤ c2) (hv4 : ∀ u, Hp w0 Γ u → SlR K3 A1 l_ u) (r0_ : List Int) (H : Hp w0 (Γ) w) (hm : scutagekeep_Copy_int l_ = some r0_) : Calls Try.prog 17 #[.slice A1 n6 c2] w (fun e w => ∃ (Ax1 : Option Addr) (nx2 cx3 : Nat), e = .returned (.slice Ax1 nx2 cx3) ∧ Hp w0 (Row K3 (.slice Ax1 nx2 cx3) r0_ :: Γ) w) := by
  subst hn5
  unfold scutagekeep_Copy_int at hm
  refine st_enter Try.func17 rfl Try.ntmps17 (Nat.le_of_ble_eq_true rfl) ?_
  refine st_seq ?_
  refine st_region ?_
  refine r_pure (.slice none 0 0) rfl ?_
  refine r_seq ?_
  refine st_seq ?_
  refine st_region ?_
  refine r_pure (.slice A1 l_.length c2) rfl ?_
  obtain ⟨hf8, hm⟩ := gd_some hm
  have H7 := H.add (A := Row K3 (.slice none 0 0) []) Row.nil
  refine r_append (K := K3) (ys := l_) AP29 rfl rfl rfl rfl H7 ((hv4 _ H7.d).src) (fit_le hf8 (by decide)) ?_
  intro A9 c10 wd11 H12
  refine r_pure (.slice A9 ((([] : List Int) ++ l_).length) c10) rfl ?_
  refine r_seq ?_
  have hq_ := Option.some.inj hm
  subst hq_
  refine st_ret1 rfl rfl (Nat.le_of_ble_eq_true rfl) rfl ?_
  exact ⟨A9, (([] : List Int) ++ l_).length, c10, rfl, H12⟩

set_option maxHeartbeats 2000000 in
theorem scutagekeep_Cut_int_ok {w0 w : World} {Γ : List (World → Prop)} (l_ : List Int) (A1 : Option Addr) (n6 c2 : Nat) (hn5 : n6 = l_.length) (hc3 : l_.length ≤ c2) (hv4 : ∀ u, Hp w0 Γ u → SlR K3 A1 l_ u) (n_ : Int) (r0_ : List Int) (H : Hp w0 (Γ) w) (hm : scutagekeep_Cut_int l_ n_ = some r0_) : Calls Try.prog 16 #[.slice A1 n6 c2, .int .i64 n_] w (fun e w => ∃ (Ax1 : Option Addr) (nx2 cx3 : Nat), e = .returned (.slice Ax1 nx2 cx3) ∧ Hp w0 (Row K3 (.slice Ax1 nx2 cx3) r0_ :: Γ) w) := by
  subst hn5
  unfold scutagekeep_Cut_int at hm
  refine st_enter Try.func16 rfl Try.ntmps16 (Nat.le_of_ble_eq_true rfl) ?_
  refine st_seq ?_
  refine st_region ?_
  refine r_pure (.slice none 0 0) rfl ?_
  refine r_seq ?_
  refine st_seq ?_
  refine st_region ?_
  refine r_pure (.slice A1 l_.length c2) rfl ?_
  refine r_pure (.slice A1 l_.length c2) rfl ?_
  refine r_len Try.underlying29 rfl ?_
  refine r_pure (.int .i64 n_) rfl ?_
  refine r_min rfl rfl ?_
  obtain ⟨hs7, hm⟩ := gd_some hm
  refine r_cut2 (xs := l_) (lo := (0 : Int)) (hi := mn (l_.length : Int) n_) IX29 rfl rfl hc3 ⟨_, rfl⟩ rfl hs7 ?_
  obtain ⟨y8, hy9, hm⟩ := bind_some hm
  refine r_callf Try.call17 (scutagekeep_Copy_int_ok (sb l_ (0 : Int) (mn (l_.length : Int) n_)) (cutA A1 (0 : Int) (c2 : Int) 1) ((sb l_ (0 : Int) (mn (l_.length : Int) n_)).length) (c2 - Int.toNat (0 : Int)) rfl (sb_cap2 hc3 hs7) (fun _ H => ((hv4 _ H).sb (K := K3) (lo := (0 : Int)) (hi := mn (l_.length : Int) n_) (mx := (c2 : Int)) hs7.2.1 (by have := hc3; have := hs7; omega))) y8 H hy9) ?_
  rintro e11 wd10 ⟨A14, n15, c16, rfl, H13⟩
  obtain rfl := (H13.g0).leneq
  refine ⟨_, rfl, ?_⟩
  refine r_pure (.slice A14 y8.length c16) rfl ?_
  refine r_seq ?_
  have hq_ := Option.some.inj hm
  subst hq_
  refine st_ret1 rfl rfl (Nat.le_of_ble_eq_true rfl) rfl ?_
  exact ⟨A14, y8.length, c16, rfl, H13⟩

set_option maxHeartbeats 2000000 in
theorem slices_DeleteFunc_api_Vintage_ok {w0 w : World} {Γ : List (World → Prop)} (s_ : List api_Vintage) (A1 : Option Addr) (n3 c2 : Nat) (fv4 : Value) (del : api_Vintage → Option Bool) (hp5 : FnOk Try.prog w0 Γ fv4 (fun x => [.agg #[.int .i64 x.Origin, .int .i64 x.Expiry, .int .i64 x.Left]]) (fun r => .bool r) del) (r0_ : List api_Vintage) (H : Hp w0 (Row K38 (.slice A1 n3 c2) s_ :: Γ) w) (hm : slices_DeleteFunc_api_Vintage s_ del = some r0_) : Calls Try.prog 52 #[.slice A1 n3 c2, fv4] w (fun e w => ∃ (Ax1 : Option Addr) (nx2 cx3 : Nat), e = .returned (.slice Ax1 nx2 cx3) ∧ Hp w0 (Row K38 (.slice Ax1 nx2 cx3) r0_ :: Γ) w) := by
  obtain ⟨gf6, gcap7, rfl, ge8, gp9⟩ := hp5
  obtain rfl := (H.g0).leneq
  unfold slices_DeleteFunc_api_Vintage at hm
  refine st_enter Try.func52 rfl Try.ntmps52 (Nat.le_of_ble_eq_true rfl) ?_
  refine st_seq ?_
  refine st_region ?_
  refine r_pure (.slice none 0 0) rfl ?_
  refine r_seq ?_
  refine st_seq ?_
  refine st_region ?_
  refine r_pure (.slice A1 s_.length c2) rfl ?_
  refine r_pure (.func (.func gf6) #[] (List.toArray gcap7)) rfl ?_
  obtain ⟨y10, hy11, hm⟩ := bind_some hm
  refine r_callf Try.call43 (slices_IndexFunc_api_Vintage_ok s_ A1 s_.length c2 rfl (((H).g0).cap) (fun _ H => (H.g0.rd)) (.func (.func gf6) #[] (List.toArray gcap7)) del ⟨gf6, gcap7, rfl, ge8, fun x y hy Δ w H hΔ => gp9 x y hy Δ w H (fun u hu => (hΔ u hu).d)⟩ y10 H hy11) ?_
  rintro e13 wd12 ⟨rfl, H15⟩
  refine ⟨_, rfl, ?_⟩
  refine r_pure (.int .i64 y10) rfl ?_
  refine r_seq ?_
  refine st_seq ?_
  refine st_seq ?_
  refine st_region ?_
  refine r_pure (.int .i64 y10) rfl ?_
  refine r_pure (.bool (y10 == (-1))) rfl ?_
  refine r_seq ?_
  rcases ite_some hm with ⟨hb16, hm⟩ | ⟨hb16, hm⟩
  · refine st_condt hb16 rfl ?_
    refine st_seq ?_
    refine st_region ?_
    refine r_pure (.slice A1 s_.length c2) rfl ?_
    refine r_pure (.slice A1 s_.length c2) rfl ?_
    refine r_seq ?_
    have hq_ := Option.some.inj hm
    subst hq_
    refine st_ret1 rfl rfl (Nat.le_of_ble_eq_true rfl) rfl ?_
    exact ⟨A1, s_.length, c2, rfl, H15⟩
  · refine st_condf hb16 rfl ?_
    refine st_skip ?_
    refine n_sq ?_
    refine st_seq ?_
    refine st_seq ?_
    refine st_region ?_
    refine r_pure (.int .i64 y10) rfl ?_
    refine r_pure (.int .i64 (w64 (y10 + 1))) rfl ?_
    refine r_pure (.int .i64 (w64 (y10 + 1))) rfl ?_
    refine r_seq ?_
    refine st_block ?_
    obtain ⟨tl25, hl26, hm24⟩ := bind_some hm
    refine st_loopF (slices_DeleteFunc_api_Vintage.l1 s_ del) (fun s ρ w => ∃ xs20 : List api_Vintage, ∃ v21 : Int, ∃ v22 : Int, (xs20, v21, v22) = s ∧ (∃ base, ρ = updl base [(0, .slice A1 s_.length c2), (1, .func (.func gf6) #[] (List.toArray gcap7)), (5, .int .i64 v21), (6, .int .i64 v22)]) ∧ Hp w0 (Row K38 (.slice A1 s_.length c2) xs20 :: Γ) w) hl26 (fun _ => rfl) ⟨s_, y10, w64 (y10 + 1), rfl, upk (ac rfl (ac rfl (ac rfl (ac rfl an)))), H15⟩ ?_
    rintro fuel32 IH34 s ρ w ⟨xs20, v21, v22, rfl, ⟨base, rfl⟩, H23⟩ hm
    rw [slices_DeleteFunc_api_Vintage.l1] at hm
    refine st_seq ?_
    refine st_seq ?_
    refine st_region ?_
    refine r_pure (.int .i64 v22) rfl ?_
    refine r_pure (.slice A1 s_.length c2) rfl ?_
    refine r_len Try.underlying26 rfl ?_
    refine r_pure (.bool (decide (v22 < (s_.length : Int)))) rfl ?_
    refine r_seq ?_
    rcases ite_some hm with ⟨hb35, hm⟩ | ⟨hb35, hm⟩
    · refine st_condt hb35 rfl ?_
      refine st_skip ?_
      refine n_sq ?_
      refine st_cut (fun ρ w => ∃ xs36 : List api_Vintage, ∃ v37 : Int, (∃ base, ρ = updl base [(0, .slice A1 s_.length c2), (1, .func (.func gf6) #[] (List.toArray gcap7)), (5, .int .i64 v37), (6, .int .i64 v22)]) ∧ Hp w0 (Row K38 (.slice A1 s_.length c2) xs36 :: Γ) w ∧ slices_DeleteFunc_api_Vintage.j1 (slices_DeleteFunc_api_Vintage.l1 s_ del fuel32) v22 xs36 v37 = some tl25) ?_ ?_
      · refine st_block ?_
        refine st_seq ?_
        refine st_region ?_
        refine r_pure (.slice A1 s_.length c2) rfl ?_
        refine r_pure (.int .i64 v22) rfl ?_
        obtain ⟨⟨h039, h140⟩, hm⟩ := gd_some hm
        have hj41 := rd_get h039 h140
        have hA42 := (H23.g0.rd).adO hj41
        refine r_ix IX26 rfl rfl hA42 h039 (by have h1_ := (H23.g0).leneq; have h2_ := h140; rw [← h1_] at h2_; exact h2_) ?_
        refine r_ldA [.int .i64 ((rd xs20 v22).Origin), .int .i64 ((rd xs20 v22).Expiry), .int .i64 ((rd xs20 v22).Left)] LD38 rfl rfl ((H23.g0.rd).csA hA42 hj41) ?_
        refine r_alloc [.int .i64 0, .int .i64 0, .int .i64 0] Try.zeroValue38 H23 rfl ?_
        intro b43 wd45 H44
        refine r_stA [.int .i64 ((rd xs20 v22).Origin), .int .i64 ((rd xs20 v22).Expiry), .int .i64 ((rd xs20 v22).Left)] LD38 rfl rfl rfl rfl H44 (Nat.le_of_ble_eq_true rfl) rfl ?_
        intro wd47 H46
        refine r_seq ?_
        refine st_seq ?_
        refine st_region ?_
        refine r_pure (.func (.func gf6) #[] (List.toArray gcap7)) rfl ?_
        refine r_ldA [.int .i64 ((rd xs20 v22).Origin), .int .i64 ((rd xs20 v22).Expiry), .int .i64 ((rd xs20 v22).Left)] LD38 rfl rfl ((H46.g0).cells rfl) ?_
        obtain ⟨y48, hy49, hm⟩ := bind_some hm
        refine r_callv rfl ge8 (gp9 _ _ hy49 _ _ H46 (fun _ H => H.d.d)) ?_
        rintro e52 wd51 ⟨rfl, H50⟩
        refine ⟨_, rfl, ?_⟩
        refine r_pure (.bool (!y48)) rfl ?_
        refine r_seq ?_
        rcases ite_some hm with ⟨hb53, hm⟩ | ⟨hb53, hm⟩
        · refine st_condt hb53 rfl ?_
          refine st_seq ?_
          refine st_region ?_
          refine r_pure (.slice A1 s_.length c2) rfl ?_
          refine r_pure (.int .i64 v21) rfl ?_
          refine r_ldA [.int .i64 ((rd xs20 v22).Origin), .int .i64 ((rd xs20 v22).Expiry), .int .i64 ((rd xs20 v22).Left)] LD38 rfl rfl ((H50.g0).cells rfl) ?_
          obtain ⟨⟨h054, h155⟩, hm⟩ := gd_some hm
          have hj56 := rd_get h054 h155
          refine r_ix IX26 rfl rfl hA42 h054 (by have h1_ := (H50.g1).leneq; have h2_ := h155; rw [← h1_] at h2_; exact h2_) ?_
          refine r_stxA (K := K38) ((rd xs20 v22)) hA42 LD38 rfl rfl rfl rfl H50.u1 (by have h1_ := h054; have h2_ := h155; first | omega | (simp only [List.length_set] at h1_ h2_ ⊢; omega)) ?_
          intro wd58 H57
          refine r_seq ?_
          refine st_region ?_
          refine r_pure (.int .i64 v21) rfl ?_
          refine r_pure (.int .i64 (w64 (v21 + 1))) rfl ?_
          refine r_pure (.int .i64 (w64 (v21 + 1))) rfl ?_
          refine r_nil ?_
          refine n_bl ?_
          refine n_cut ⟨xs20.set (Int.toNat v21) (rd xs20 v22), w64 (v21 + 1), upk (ac rfl (ac rfl (ac rfl (ac rfl an)))), H57.u1.d, hm⟩
        · refine st_condf hb53 rfl ?_
          refine st_skip ?_
          refine n_bl ?_
          refine n_cut ⟨xs20, v21, upk (ac rfl (ac rfl (ac rfl (ac rfl an)))), H50.d, hm⟩
      · rintro ρ w ⟨xs36, v37, ⟨base, rfl⟩, H38, hm⟩
        unfold slices_DeleteFunc_api_Vintage.j1 at hm
        refine st_region ?_
        refine r_pure (.int .i64 v22) rfl ?_
        refine r_pure (.int .i64 (w64 (v22 + 1))) rfl ?_
        refine r_pure (.int .i64 (w64 (v22 + 1))) rfl ?_
        refine r_nil ?_
        refine n_round (IH34 _ _ _ ⟨xs36, v37, w64 (v22 + 1), rfl, upk (ac rfl (ac rfl (ac rfl (ac rfl an)))), H38⟩ hm)
    · refine st_condf hb35 rfl ?_
      have hq_ := Option.some.inj hm
      refine st_exit rfl ?_
      subst hq_
      refine n_sq ?_
      refine st_seq ?_
      refine st_region ?_
      refine r_pure (.slice A1 s_.length c2) rfl ?_
      refine r_pure (.int .i64 v21) rfl ?_
      obtain ⟨hs59, hm⟩ := gd_some hm24
      refine r_cut2 (xs := xs20) (lo := v21) (hi := (xs20.length : Int)) IX26 rfl (H23.g0).leneq (H23.g0.cap) (by have h_ := (H23.g0).leneq; simp only [BI]; omega) ⟨_, rfl⟩ hs59 ?_
      refine r_clear (K := K38) (lo := v21) (z := (⟨0, 0, 0⟩ : api_Vintage)) Try.underlying26 rfl rfl ZV38 rfl hs59.1 hs59.2.1 H23 ?_
      intro wd61 H60
      refine r_seq ?_
      refine st_seq ?_
      refine st_region ?_
      refine r_pure (.slice A1 s_.length c2) rfl ?_
      refine r_pure (.int .i64 v21) rfl ?_
      obtain ⟨hs62, hm⟩ := gd_some hm
      refine r_cut2 (xs := clr xs20 v21 (⟨0, 0, 0⟩ : api_Vintage)) (lo := (0 : Int)) (hi := v21) IX26 rfl (H60.g0).leneq (H60.g0.cap) ⟨_, rfl⟩ rfl hs62 ?_
      refine r_pure (.slice (cutA A1 (0 : Int) (c2 : Int) 3) ((sb (clr xs20 v21 (⟨0, 0, 0⟩ : api_Vintage)) (0 : Int) v21).length) (c2 - Int.toNat (0 : Int))) rfl ?_
      refine r_seq ?_
      have H63 : Hp w0 (Row K38 (.slice (cutA A1 (0 : Int) (c2 : Int) 3) ((sb (clr xs20 v21 (⟨0, 0, 0⟩ : api_Vintage)) (0 : Int) v21).length) (c2 - Int.toNat (0 : Int))) (sb (clr xs20 v21 (⟨0, 0, 0⟩ : api_Vintage)) (0 : Int) v21) :: _) _ := H60.imp fun _ h_ => h_.sb hs62.1 hs62.2.1 (by have := (H60.g0.cap); have := hs62; omega) (Int.le_refl _) hs62.2.2
      have hq_ := Option.some.inj hm
      subst hq_
      refine st_ret1 rfl rfl (Nat.le_of_ble_eq_true rfl) rfl ?_
      exact ⟨(cutA A1 (0 : Int) (c2 : Int) 3), (sb (clr xs20 v21 (⟨0, 0, 0⟩ : api_Vintage)) (0 : Int) v21).length, (c2 - Int.toNat (0 : Int)), rfl, H63⟩

set_option maxHeartbeats 2000000 in
theorem vintage_Losses_Take_c1_ok {w0 w : World} {Γ : List (World → Prop)} (v_ : api_Vintage) (r0_ : Bool) (H : Hp w0 (Γ) w) (hm : vintage_Losses_Take_c1 v_ = some r0_) : Calls Try.prog 53 #[.agg #[.int .i64 v_.Origin, .int .i64 v_.Expiry, .int .i64 v_.Left]] w (fun e w => e = .returned (.bool r0_) ∧ Hp w0 (Γ) w) := by
  unfold vintage_Losses_Take_c1 at hm
  refine st_enter Try.func53 rfl Try.ntmps53 (Nat.le_of_ble_eq_true rfl) ?_
  refine st_seq ?_
  refine st_region ?_
  refine r_box [.int .i64 v_.Origin, .int .i64 v_.Expiry, .int .i64 v_.Left] H rfl ?_
  intro b1 wd3 H2
  refine r_pure (.bool false) rfl ?_
  refine r_seq ?_
  refine st_seq ?_
  refine st_region ?_
  refine r_fa FA38_2 ⟨b1, 2, none⟩ rfl rfl ?_
  refine r_ld1 (.int .i64 v_.Left) LD3 rfl ((H2.g0).cell _ rfl) ?_
  refine r_pure (.bool (v_.Left == 0)) rfl ?_
  refine r_pure (.bool (v_.Left == 0)) rfl ?_
  refine r_seq ?_
  have hq_ := Option.some.inj hm
  subst hq_
  refine st_ret1 rfl rfl (Nat.le_of_ble_eq_true rfl) rfl ?_
  exact ⟨rfl, H2.d⟩

set_option maxHeartbeats 2000000 in
theorem vintage_Losses_Take_ok {w0 w : World} {Γ : List (World → Prop)} (b1 : Nat) (l_ : vintage_Losses) (A2 : Option Addr) (c3 : Nat) (used : List Int) (A4 : Option Addr) (n9 c5 : Nat) (hn8 : n9 = used.length) (hc6 : used.length ≤ c5) (hv7 : ∀ u, Hp w0 Γ u → SlR K3 A4 used u) (r0_ : Int) (r1_ : vintage_Losses) (H : Hp w0 (Bx b1 75 [.slice A2 l_.f_l.length c3] :: Row K38 (.slice A2 l_.f_l.length c3) l_.f_l :: Γ) w) (hm : vintage_Losses_Take l_ used = some (r0_, r1_)) : Calls Try.prog 18 #[.pointer (some ⟨b1, 0, none⟩), .slice A4 n9 c5] w (fun e w => ∃ (Ax1 : Option Addr) (nx2 cx3 : Nat), e = .returned (.int .i64 r0_) ∧ Hp w0 (Bx b1 75 [.slice Ax1 nx2 cx3] :: Row K38 (.slice Ax1 nx2 cx3) r1_.f_l :: Γ) w) := by
  subst hn8
  unfold vintage_Losses_Take at hm
  refine st_enter Try.func18 rfl Try.ntmps18 (Nat.le_of_ble_eq_true rfl) ?_
  refine st_seq ?_
  refine st_region ?_
  refine r_pure (.int .i64 0) rfl ?_
  refine r_seq ?_
  refine st_seq ?_
  refine st_seq ?_
  refine st_region ?_
  refine r_pure (.slice A4 used.length c5) rfl ?_
  refine r_len Try.underlying29 rfl ?_
  refine r_pure (.pointer (some ⟨b1, 0, none⟩)) rfl ?_
  refine r_pure (.pointer (some ⟨b1, 0, none⟩)) rfl ?_
  refine r_fa FA75_0 ⟨b1, 0, none⟩ rfl rfl ?_
  refine r_ld1 (.slice A2 l_.f_l.length c3) LD26 rfl ((H.g0).cell _ rfl) ?_
  refine r_len Try.underlying26 rfl ?_
  refine r_pure (.bool ((used.length : Int) != (l_.f_l.length : Int))) rfl ?_
  refine r_seq ?_
  rcases ite_some hm with ⟨hb10, hm⟩ | ⟨hb10, hm⟩
  · refine st_condt hb10 rfl ?_
    refine st_seq ?_
    refine st_region ?_
    refine r_pure (.int .i64 1) rfl ?_
    refine r_seq ?_
    obtain ⟨rfl, rfl⟩ := some_inj2 hm
    refine st_ret1 rfl rfl (Nat.le_of_ble_eq_true rfl) rfl ?_
    exact ⟨A2, l_.f_l.length, c3, rfl, H.u1.u1⟩
  · refine st_condf hb10 rfl ?_
    refine st_skip ?_
    refine n_sq ?_
    refine st_seq ?_
    refine st_seq ?_
    refine st_region ?_
    refine r_pure (.slice A4 used.length c5) rfl ?_
    refine r_len Try.underlying29 rfl ?_
    refine r_pure (.int .i64 0) rfl ?_
    refine r_seq ?_
    refine st_block ?_
    have hlim30 := (hv7 _ H.d.d).lim
    obtain ⟨tl13, hl14, hm12⟩ := bind_some hm
    refine st_loopL (vintage_Losses_Take.l1 l_) (fun ys19 s ρ w => ∃ i15 : Int, ∃ dn16 : List Int, i15 = s ∧ used = dn16 ++ ys19 ∧ i15 = (dn16.length : Int) ∧ (∃ base, ρ = updl base [(0, .pointer (some ⟨b1, 0, none⟩)), (1, .slice A4 used.length c5), (18, .slice A4 used.length c5), (19, .int .i64 (used.length : Int)), (20, .int .i64 i15)]) ∧ Hp w0 (Row K38 (.slice A2 l_.f_l.length c3) l_.f_l :: Bx b1 75 [.slice A2 l_.f_l.length c3] :: Γ) w) hl14 ⟨0, [], rfl, rfl, rfl, upk (ac rfl (ac rfl (ac rfl (ac rfl (ac rfl an))))), H.u1⟩ ?_
    rintro m ys19 IH23 s ρ w ⟨i15, dn16, rfl, hxs17, hi18, ⟨base, rfl⟩, H11⟩ hm
    rcases ys19 with _ | ⟨y20, ys19⟩
    · rw [vintage_Losses_Take.l1] at hm
      have hb24 := range_end hxs17 hi18
      refine st_seq ?_
      refine st_region ?_
      refine r_pure (.bool (decide (i15 < (used.length : Int)))) rfl ?_
      refine r_seq ?_
      refine st_seq ?_
      refine st_condf hb24 rfl ?_
      have hq_ := Option.some.inj hm
      refine st_exit rfl ?_
      subst hq_
      refine n_sq ?_
      refine st_seq ?_
      refine st_region ?_
      refine r_pure (.pointer (some ⟨b1, 0, none⟩)) rfl ?_
      obtain ⟨y31, hy32, hm⟩ := bind_some hm12
      refine r_callf Try.call22 (vintage_Losses_Rows_ok b1 (⟨l_.f_l⟩ : vintage_Losses) A2 l_.f_l.length c3 rfl (((H11).g0).cap) (fun _ H => (H.g0.rd)) (fun _ H => (H.g1)) y31 H11 hy32) ?_
      rintro e34 wd33 ⟨A37, n38, c39, rfl, H36⟩
      obtain rfl := (H36.g0).leneq
      refine ⟨_, rfl, ?_⟩
      refine r_pure (.slice A37 y31.length c39) rfl ?_
      refine r_seq ?_
      refine st_seq ?_
      refine st_seq ?_
      refine st_region ?_
      refine r_pure (.slice A4 used.length c5) rfl ?_
      refine r_len Try.underlying29 rfl ?_
      refine r_pure (.int .i64 0) rfl ?_
      refine r_seq ?_
      refine st_block ?_
      have hlim61 := (hv7 _ H36.d.d.d).lim
      obtain ⟨tl44, hl45, hm43⟩ := bind_some hm
      refine st_loopL (vintage_Losses_Take.l2) (fun ys50 s ρ w => ∃ i46 : Int, ∃ xs41 : List api_Vintage, ∃ dn47 : List Int, (i46, xs41) = s ∧ used = dn47 ++ ys50 ∧ i46 = (dn47.length : Int) ∧ (∃ base, ρ = updl base [(0, .pointer (some ⟨b1, 0, none⟩)), (7, .slice A37 y31.length c39), (42, .slice A4 used.length c5), (43, .int .i64 (used.length : Int)), (44, .int .i64 i46)]) ∧ Hp w0 (Row K38 (.slice A2 l_.f_l.length c3) l_.f_l :: Bx b1 75 [.slice A2 l_.f_l.length c3] :: Row K38 (.slice A37 y31.length c39) xs41 :: Γ) w) hl45 ⟨0, y31, [], rfl, rfl, rfl, upk (ac rfl (ac rfl (ac rfl (ac rfl (ac rfl an))))), H36.u2.u2⟩ ?_
      rintro m ys50 IH54 s ρ w ⟨i46, xs41, dn47, rfl, hxs48, hi49, ⟨base, rfl⟩, H42⟩ hm
      rcases ys50 with _ | ⟨y51, ys50⟩
      · rw [vintage_Losses_Take.l2] at hm
        have hb55 := range_end hxs48 hi49
        refine st_seq ?_
        refine st_region ?_
        refine r_pure (.bool (decide (i46 < (used.length : Int)))) rfl ?_
        refine r_seq ?_
        refine st_seq ?_
        refine st_condf hb55 rfl ?_
        have hq_ := Option.some.inj hm
        refine st_exit rfl ?_
        subst hq_
        refine n_sq ?_
        refine st_seq ?_
        refine st_region ?_
        refine r_pure (.pointer (some ⟨b1, 0, none⟩)) rfl ?_
        refine r_pure (.slice A37 y31.length c39) rfl ?_
        obtain ⟨y62, hy63, hm⟩ := bind_some hm43
        refine r_callf Try.call52 (slices_DeleteFunc_api_Vintage_ok xs41 A37 y31.length c39 (.func (.func 53) #[] #[]) (fun x => vintage_Losses_Take_c1 x) ⟨53, [], rfl, Try.call53, fun x y hy Δ w H hΔ => vintage_Losses_Take_c1_ok x y H hy⟩ y62 H42.u2 hy63) ?_
        rintro e65 wd64 ⟨A68, n69, c70, rfl, H67⟩
        obtain rfl := (H67.g0).leneq
        refine ⟨_, rfl, ?_⟩
        refine r_pure (.pointer (some ⟨b1, 0, none⟩)) rfl ?_
        refine r_fa FA75_0 ⟨b1, 0, none⟩ rfl rfl ?_
        refine r_st1 LD26 rfl rfl rfl H67.u2 rfl ?_
        intro wd72 H71
        refine r_seq ?_
        refine st_seq ?_
        refine st_region ?_
        refine r_pure (.int .i64 0) rfl ?_
        refine r_seq ?_
        obtain ⟨rfl, rfl⟩ := some_inj2 hm
        refine st_ret1 rfl rfl (Nat.le_of_ble_eq_true rfl) rfl ?_
        exact ⟨A68, y62.length, c70, rfl, H71.u2.d.u1.u1⟩
      · rw [vintage_Losses_Take.l2] at hm
        have hb56 := range_in hxs48 hi49
        obtain ⟨h057, h158, hj59⟩ := range_ix hxs48 hi49
        have hnx60 := range_next hxs48 hi49 hlim61
        refine st_seq ?_
        refine st_region ?_
        refine r_pure (.bool (decide (i46 < (used.length : Int)))) rfl ?_
        refine r_seq ?_
        refine st_seq ?_
        refine st_condt hb56 rfl ?_
        refine st_skip ?_
        refine n_sq ?_
        refine st_seq ?_
        refine st_block ?_
        refine st_seq ?_
        refine st_region ?_
        refine r_pure (.int .i64 i46) rfl ?_
        have hA73 := (hv7 _ H42.d.d.d).adO hj59
        refine r_ix IX29 rfl rfl hA73 h057 h158 ?_
        refine r_ld1 (.int .i64 y51) LD3 rfl ((hv7 _ H42.d.d.d).c0A hA73 hj59 _ rfl) ?_
        refine r_pure (.int .i64 i46) rfl ?_
        refine r_pure (.int .i64 y51) rfl ?_
        refine r_seq ?_
        refine st_region ?_
        refine r_pure (.slice A37 y31.length c39) rfl ?_
        refine r_pure (.int .i64 i46) rfl ?_
        refine r_pure (.slice A37 y31.length c39) rfl ?_
        refine r_pure (.int .i64 i46) rfl ?_
        obtain ⟨⟨h074, h175⟩, hm⟩ := gd_some hm
        have hj76 := rd_get h074 h175
        have hA77 := (H42.g2.rd).adO hj76
        refine r_ix IX26 rfl rfl hA77 h074 (by have h1_ := (H42.g2).leneq; have h2_ := h175; rw [← h1_] at h2_; exact h2_) ?_
        refine r_fa FA38_2 (((oA A37).add (Int.toNat i46 * 3)).add 2) rfl rfl ?_
        refine r_ld1 (.int .i64 ((rd xs41 i46).Left)) LD3 rfl ((H42.g2.rd).cA hA77 hj76 2 _ rfl) ?_
        refine r_pure (.int .i64 y51) rfl ?_
        refine r_pure (.int .i64 (w64 ((rd xs41 i46).Left - y51))) rfl ?_
        refine r_ix IX26 rfl rfl hA77 h074 (by have h1_ := (H42.g2).leneq; have h2_ := h175; rw [← h1_] at h2_; exact h2_) ?_
        refine r_fa FA38_2 (((oA A37).add (Int.toNat i46 * 3)).add 2) rfl rfl ?_
        refine r_stx1 (K := K38) ((⟨(rd xs41 i46).Origin, (rd xs41 i46).Expiry, w64 ((rd xs41 i46).Left - y51)⟩ : api_Vintage)) hA77 LD3 rfl rfl rfl H42.u2 hj76 (by decide) rfl ?_
        intro wd79 H78
        refine r_nil ?_
        refine n_bl ?_
        refine n_sq ?_
        refine st_region ?_
        refine r_pure (.int .i64 (w64 (i46 + 1))) rfl ?_
        refine r_pure (.int .i64 (w64 (i46 + 1))) rfl ?_
        refine r_nil ?_
        refine n_round (IH54 _ _ rfl _ _ _ ⟨i46 + 1, xs41.set (Int.toNat i46) (⟨(rd xs41 i46).Origin, (rd xs41 i46).Expiry, w64 ((rd xs41 i46).Left - y51)⟩ : api_Vintage), dn47 ++ [y51], rfl, range_more hxs48, range_len hi49, upk (ac rfl (ac rfl (ac rfl (ac rfl (ac hnx60 an))))), H78.u2.u2⟩ hm)
    · rw [vintage_Losses_Take.l1] at hm
      have hb25 := range_in hxs17 hi18
      obtain ⟨h026, h127, hj28⟩ := range_ix hxs17 hi18
      have hnx29 := range_next hxs17 hi18 hlim30
      refine st_seq ?_
      refine st_region ?_
      refine r_pure (.bool (decide (i15 < (used.length : Int)))) rfl ?_
      refine r_seq ?_
      refine st_seq ?_
      refine st_condt hb25 rfl ?_
      refine st_skip ?_
      refine n_sq ?_
      refine st_seq ?_
      refine st_block ?_
      refine st_seq ?_
      refine st_region ?_
      refine r_pure (.int .i64 i15) rfl ?_
      have hA80 := (hv7 _ H11.d.d).adO hj28
      refine r_ix IX29 rfl rfl hA80 h026 h127 ?_
      refine r_ld1 (.int .i64 y20) LD3 rfl ((hv7 _ H11.d.d).c0A hA80 hj28 _ rfl) ?_
      refine r_pure (.int .i64 i15) rfl ?_
      refine r_pure (.int .i64 y20) rfl ?_
      refine r_seq ?_
      refine st_cut (fun ρ w => ∃ q81 : Bool, (∃ base, ρ = updl base [(0, .pointer (some ⟨b1, 0, none⟩)), (1, .slice A4 used.length c5), (18, .slice A4 used.length c5), (19, .int .i64 (used.length : Int)), (20, .int .i64 i15), (38, .bool q81)]) ∧ Hp w0 (Row K38 (.slice A2 l_.f_l.length c3) l_.f_l :: Bx b1 75 [.slice A2 l_.f_l.length c3] :: Γ) w ∧ vintage_Losses_Take.j1 l_ (vintage_Losses_Take.l1 l_ ys19) i15 q81 = some tl13) ?_ ?_
      · refine st_region ?_
        refine r_pure (.int .i64 y20) rfl ?_
        refine r_pure (.bool (decide (y20 < 0))) rfl ?_
        refine r_pure (.bool (decide (y20 < 0))) rfl ?_
        rcases ite_some hm with ⟨hb84, hm⟩ | ⟨hb84, hm⟩
        · refine r_not (wn_f rfl rfl (by decide) rfl hb84) ?_
          refine r_not (wn_f rfl rfl (by decide) rfl hb84) ?_
          refine r_not (wn_f rfl rfl (by decide) rfl hb84) ?_
          refine r_not (wn_f rfl rfl (by decide) rfl hb84) ?_
          refine r_not (wn_f rfl rfl (by decide) rfl hb84) ?_
          refine r_not (wn_f rfl rfl (by decide) rfl hb84) ?_
          refine r_not (wn_f rfl rfl (by decide) rfl hb84) ?_
          refine r_not (wn_f rfl rfl (by decide) rfl hb84) ?_
          refine r_not (wn_f rfl rfl (by decide) rfl hb84) ?_
          refine r_not (wn_f rfl rfl (by decide) rfl hb84) ?_
          refine r_pick_t (.bool true) hb84 rfl rfl ?_
          refine r_nil ?_
          refine n_cut ⟨true, upk (ac rfl (ac rfl (ac rfl (ac rfl (ac rfl (ac rfl an)))))), H11.u1.u1, hm⟩
        · refine r_pure (.int .i64 y20) rfl ?_ (wn_t rfl rfl (by decide) rfl hb84)
          refine r_pure (.pointer (some ⟨b1, 0, none⟩)) rfl ?_ (wn_t rfl rfl (by decide) rfl hb84)
          refine r_pure (.pointer (some ⟨b1, 0, none⟩)) rfl ?_ (wn_t rfl rfl (by decide) rfl hb84)
          refine r_fa FA75_0 ⟨b1, 0, none⟩ rfl rfl ?_ (wn_t rfl rfl (by decide) rfl hb84)
          refine r_ld1 (.slice A2 l_.f_l.length c3) LD26 rfl ((H11.g1).cell _ rfl) ?_ (wn_t rfl rfl (by decide) rfl hb84)
          refine r_pure (.int .i64 i15) rfl ?_ (wn_t rfl rfl (by decide) rfl hb84)
          obtain ⟨⟨h085, h186⟩, hm⟩ := gd_some hm
          have hj87 := rd_get h085 h186
          have hA88 := (H11.g0.rd).adO hj87
          refine r_ix IX26 rfl rfl hA88 h085 h186 ?_ (wn_t rfl rfl (by decide) rfl hb84)
          refine r_fa FA38_2 (((oA A2).add (Int.toNat i15 * 3)).add 2) rfl rfl ?_ (wn_t rfl rfl (by decide) rfl hb84)
          refine r_ld1 (.int .i64 ((rd l_.f_l i15).Left)) LD3 rfl ((H11.g0.rd).cA hA88 hj87 2 _ rfl) ?_ (wn_t rfl rfl (by decide) rfl hb84)
          refine r_pure (.bool (decide (y20 > (rd l_.f_l i15).Left))) rfl ?_ (wn_t rfl rfl (by decide) rfl hb84)
          refine r_pick_f (.bool (decide (y20 > (rd l_.f_l i15).Left))) hb84 rfl rfl ?_
          refine r_nil ?_
          refine n_cut ⟨decide (y20 > (rd l_.f_l i15).Left), upk (ac rfl (ac rfl (ac rfl (ac rfl (ac rfl (ac rfl an)))))), H11.u1.u1, hm⟩
      · rintro ρ w ⟨q81, ⟨base, rfl⟩, H82, hm⟩
        unfold vintage_Losses_Take.j1 at hm
        rcases ite_some hm with ⟨hb83, hm⟩ | ⟨hb83, hm⟩
        · refine st_condt hb83 rfl ?_
          refine st_seq ?_
          refine st_region ?_
          refine r_pure (.int .i64 1) rfl ?_
          refine r_seq ?_
          have hq_ := Option.some.inj hm
          subst hq_
          obtain ⟨rfl, rfl⟩ := some_inj2 (show some ((1, (⟨l_.f_l⟩ : vintage_Losses)) : (Int × vintage_Losses)) = some (r0_, r1_) from hm12)
          refine st_ret1 rfl rfl (Nat.le_of_ble_eq_true rfl) rfl ?_
          exact ⟨A2, l_.f_l.length, c3, rfl, H82.u1⟩
        · refine st_condf hb83 rfl ?_
          refine st_skip ?_
          refine n_bl ?_
          refine n_sq ?_
          refine st_region ?_
          refine r_pure (.int .i64 (w64 (i15 + 1))) rfl ?_
          refine r_pure (.int .i64 (w64 (i15 + 1))) rfl ?_
          refine r_nil ?_
          refine n_round (IH23 _ _ rfl _ _ _ ⟨i15 + 1, dn16 ++ [y20], rfl, range_more hxs17, range_len hi18, upk (ac rfl (ac rfl (ac rfl (ac rfl (ac hnx29 an))))), H82.u1.u1⟩ hm)


end Go.Proofs.Ytcmhekibcbpajaa
