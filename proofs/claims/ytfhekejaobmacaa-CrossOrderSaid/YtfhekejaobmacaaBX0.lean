/- The Go functions come to their models: printed by gen.py. -/
import Derived.Test.YtfhekejaobmacaaBT
set_option linter.unusedVariables false
set_option linter.unusedSimpArgs false
set_option maxRecDepth 100000
namespace Go.Proofs.Ytfhekejaobmacaa
open Go Go.RowKit
attribute [local irreducible] W R N L Hp Row SlR Bx MpP MpE MpW

set_option maxHeartbeats 2000000 in
theorem cross_New_ok {w0 w : World} {Γ : List (World → Prop)}  (r0_ : cross_Cross) (H : Hp w0 (Γ) w) (hm : cross_New = some r0_) : Calls Try.prog 5 #[] w (fun e w => ∃ (bx1 : Nat), ∃ (Ax2 : Option Addr) (nx3 cx4 : Nat), e = .returned (.pointer (some ⟨bx1, 0, none⟩)) ∧ Hp w0 (Bx bx1 53 [.slice Ax2 nx3 cx4] :: Row K38 (.slice Ax2 nx3 cx4) r0_.f_l :: Γ) w) := by
  unfold cross_New at hm
  refine st_enter Try.func5 rfl Try.ntmps5 (Nat.le_of_ble_eq_true rfl) ?_
  refine st_seq ?_
  refine st_region ?_
  refine r_pure (.pointer none) rfl ?_
  refine r_seq ?_
  refine st_seq ?_
  refine st_region ?_
  refine r_build [.slice none 0 0] FL53 rfl ?_
  refine r_box [.slice none 0 0] H rfl ?_
  intro b1 wd3 H2
  refine r_pure (.pointer (some ⟨b1, 0, none⟩)) rfl ?_
  refine r_seq ?_
  have H4 := H2.add (A := Row K38 (.slice none 0 0) []) Row.nil
  have hq_ := Option.some.inj hm
  subst hq_
  refine st_ret1 rfl rfl (Nat.le_of_ble_eq_true rfl) rfl ?_
  exact ⟨b1, none, 0, 0, rfl, H4.u1⟩

set_option maxHeartbeats 2000000 in
theorem scutagekeep_Within_ok {w0 w : World} {Γ : List (World → Prop)} (v_ : Int) (n_ : Int) (r0_ : Int) (H : Hp w0 (Γ) w) (hm : scutagekeep_Within v_ n_ = some r0_) : Calls Try.prog 6 #[.int .i64 v_, .int .i64 n_] w (fun e w => e = .returned (.int .i64 r0_) ∧ Hp w0 (Γ) w) := by
  unfold scutagekeep_Within at hm
  refine st_enter Try.func6 rfl Try.ntmps6 (Nat.le_of_ble_eq_true rfl) ?_
  refine st_seq ?_
  refine st_region ?_
  refine r_pure (.int .i64 0) rfl ?_
  refine r_seq ?_
  refine st_seq ?_
  refine st_seq ?_
  refine st_region ?_
  refine r_pure (.int .i64 n_) rfl ?_
  refine r_pure (.bool (decide (n_ < 1))) rfl ?_
  refine r_seq ?_
  rcases ite_some hm with ⟨hb1, hm⟩ | ⟨hb1, hm⟩
  · refine st_condt hb1 rfl ?_
    refine st_seq ?_
    refine st_region ?_
    refine r_pure (.int .i64 0) rfl ?_
    refine r_seq ?_
    have hq_ := Option.some.inj hm
    subst hq_
    refine st_ret1 rfl rfl (Nat.le_of_ble_eq_true rfl) rfl ?_
    exact ⟨rfl, H⟩
  · refine st_condf hb1 rfl ?_
    refine st_skip ?_
    refine n_sq ?_
    refine st_seq ?_
    refine st_region ?_
    refine r_pure (.int .i64 v_) rfl ?_
    refine r_pure (.int .i64 n_) rfl ?_
    obtain ⟨h2, hm⟩ := gd_some hm
    refine r_rem h2 rfl rfl ?_
    refine r_pure (.int .i64 (Int.tmod v_ n_)) rfl ?_
    refine r_seq ?_
    refine st_cut (fun ρ w => ∃ v3 : Int, (∃ base, ρ = updl base [(5, .int .i64 v3)]) ∧ Hp w0 (Γ) w ∧ scutagekeep_Within.j1 v3 = some r0_) ?_ ?_
    · refine st_seq ?_
      refine st_region ?_
      refine r_pure (.int .i64 (Int.tmod v_ n_)) rfl ?_
      refine r_pure (.bool (decide (Int.tmod v_ n_ < 0))) rfl ?_
      refine r_seq ?_
      rcases ite_some hm with ⟨hb5, hm⟩ | ⟨hb5, hm⟩
      · refine st_condt hb5 rfl ?_
        refine st_region ?_
        refine r_pure (.int .i64 (Int.tmod v_ n_)) rfl ?_
        refine r_pure (.int .i64 n_) rfl ?_
        refine r_pure (.int .i64 (w64 (Int.tmod v_ n_ + n_))) rfl ?_
        refine r_pure (.int .i64 (w64 (Int.tmod v_ n_ + n_))) rfl ?_
        refine r_nil ?_
        refine n_cut ⟨w64 (Int.tmod v_ n_ + n_), upk (ac rfl an), H, hm⟩
      · refine st_condf hb5 rfl ?_
        refine st_skip ?_
        refine n_cut ⟨Int.tmod v_ n_, upk (ac rfl an), H, hm⟩
    · rintro ρ w ⟨v3, ⟨base, rfl⟩, H4, hm⟩
      unfold scutagekeep_Within.j1 at hm
      refine st_seq ?_
      refine st_region ?_
      refine r_pure (.int .i64 v3) rfl ?_
      refine r_pure (.int .i64 v3) rfl ?_
      refine r_seq ?_
      have hq_ := Option.some.inj hm
      subst hq_
      refine st_ret1 rfl rfl (Nat.le_of_ble_eq_true rfl) rfl ?_
      exact ⟨rfl, H4⟩

set_option maxHeartbeats 2000000 in
theorem rate_Money_ok {w0 w : World} {Γ : List (World → Prop)} (n_ : Int) (r0_ : Bool) (H : Hp w0 (Γ) w) (hm : rate_Money n_ = some r0_) : Calls Try.prog 17 #[.int .i64 n_] w (fun e w => e = .returned (.bool r0_) ∧ Hp w0 (Γ) w) := by
  unfold rate_Money at hm
  refine st_enter Try.func17 rfl Try.ntmps17 (Nat.le_of_ble_eq_true rfl) ?_
  refine st_seq ?_
  refine st_region ?_
  refine r_pure (.bool false) rfl ?_
  refine r_seq ?_
  refine st_cut (fun ρ w => ∃ q1 : Bool, (∃ base, ρ = updl base [(2, .bool q1)]) ∧ Hp w0 (Γ) w ∧ rate_Money.j1 q1 = some r0_) ?_ ?_
  · refine st_region ?_
    refine r_pure (.int .i64 n_) rfl ?_
    refine r_pure (.bool (decide (n_ ≥ (-100000000000)))) rfl ?_
    refine r_pure (.bool (decide (n_ ≥ (-100000000000)))) rfl ?_
    rcases ite_some hm with ⟨hb3, hm⟩ | ⟨hb3, hm⟩
    · refine r_pure (.int .i64 n_) rfl ?_ (wn_t rfl rfl (by decide) rfl hb3)
      refine r_pure (.bool (decide (n_ ≤ 100000000000))) rfl ?_ (wn_t rfl rfl (by decide) rfl hb3)
      refine r_pick_t (.bool (decide (n_ ≤ 100000000000))) hb3 rfl rfl ?_
      refine r_pure (.bool (decide (n_ ≤ 100000000000))) rfl ?_
      refine r_nil ?_
      refine n_cut ⟨decide (n_ ≤ 100000000000), upk (ac rfl an), H, hm⟩
    · refine r_not (wn_f rfl rfl (by decide) rfl hb3) ?_
      refine r_not (wn_f rfl rfl (by decide) rfl hb3) ?_
      refine r_pick_f (.bool false) hb3 rfl rfl ?_
      refine r_pure (.bool false) rfl ?_
      refine r_nil ?_
      refine n_cut ⟨false, upk (ac rfl an), H, hm⟩
  · rintro ρ w ⟨q1, ⟨base, rfl⟩, H2, hm⟩
    unfold rate_Money.j1 at hm
    have hq_ := Option.some.inj hm
    subst hq_
    refine st_ret1 rfl rfl (Nat.le_of_ble_eq_true rfl) rfl ?_
    exact ⟨rfl, H2⟩

set_option maxHeartbeats 2000000 in
theorem slices_IndexFunc_cross_Row_ok {w0 w : World} {Γ : List (World → Prop)} (s_ : List cross_Row) (A1 : Option Addr) (n6 c2 : Nat) (hn5 : n6 = s_.length) (hc3 : s_.length ≤ c2) (hv4 : ∀ u, Hp w0 Γ u → SlR K38 A1 s_ u) (fv7 : Value) (f_ : cross_Row → Option Bool) (hp8 : FnOk Try.prog w0 Γ fv7 (fun x => [.agg #[.string x.Seller, .string x.Buyer, .int .i64 x.Amount]]) (fun r => .bool r) f_) (r0_ : Int) (H : Hp w0 (Γ) w) (hm : slices_IndexFunc_cross_Row s_ f_ = some r0_) : Calls Try.prog 19 #[.slice A1 n6 c2, fv7] w (fun e w => e = .returned (.int .i64 r0_) ∧ Hp w0 (Γ) w) := by
  subst hn5
  obtain ⟨gf9, gcap10, rfl, ge11, gp12⟩ := hp8
  unfold slices_IndexFunc_cross_Row at hm
  refine st_enter Try.func19 rfl Try.ntmps19 (Nat.le_of_ble_eq_true rfl) ?_
  refine st_seq ?_
  refine st_region ?_
  refine r_pure (.int .i64 0) rfl ?_
  refine r_seq ?_
  refine st_seq ?_
  refine st_seq ?_
  refine st_region ?_
  refine r_pure (.slice A1 s_.length c2) rfl ?_
  refine r_len Try.underlying34 rfl ?_
  refine r_pure (.int .i64 0) rfl ?_
  refine r_seq ?_
  refine st_block ?_
  have hlim32 := (hv4 _ H).lim
  obtain ⟨tl15, hl16, hm14⟩ := bind_some hm
  refine st_loopL (slices_IndexFunc_cross_Row.l1 f_) (fun ys21 s ρ w => ∃ i17 : Int, ∃ dn18 : List cross_Row, i17 = s ∧ s_ = dn18 ++ ys21 ∧ i17 = (dn18.length : Int) ∧ (∃ base, ρ = updl base [(0, .slice A1 s_.length c2), (1, .func (.func gf9) #[] (List.toArray gcap10)), (7, .int .i64 (s_.length : Int)), (8, .int .i64 i17)]) ∧ Hp w0 (Γ) w) hl16 ⟨0, [], rfl, rfl, rfl, upk (ac rfl (ac rfl (ac rfl (ac rfl an)))), H⟩ ?_
  rintro m ys21 IH25 s ρ w ⟨i17, dn18, rfl, hxs19, hi20, ⟨base, rfl⟩, H13⟩ hm
  rcases ys21 with _ | ⟨y22, ys21⟩
  · rw [slices_IndexFunc_cross_Row.l1] at hm
    have hb26 := range_end hxs19 hi20
    refine st_seq ?_
    refine st_region ?_
    refine r_pure (.bool (decide (i17 < (s_.length : Int)))) rfl ?_
    refine r_seq ?_
    refine st_seq ?_
    refine st_condf hb26 rfl ?_
    have hq_ := Option.some.inj hm
    refine st_exit rfl ?_
    subst hq_
    refine n_sq ?_
    refine st_seq ?_
    refine st_region ?_
    refine r_pure (.int .i64 (-1)) rfl ?_
    refine r_seq ?_
    have hq_ := Option.some.inj hm14
    subst hq_
    refine st_ret1 rfl rfl (Nat.le_of_ble_eq_true rfl) rfl ?_
    exact ⟨rfl, H13⟩
  · rw [slices_IndexFunc_cross_Row.l1] at hm
    have hb27 := range_in hxs19 hi20
    obtain ⟨h028, h129, hj30⟩ := range_ix hxs19 hi20
    have hnx31 := range_next hxs19 hi20 hlim32
    refine st_seq ?_
    refine st_region ?_
    refine r_pure (.bool (decide (i17 < (s_.length : Int)))) rfl ?_
    refine r_seq ?_
    refine st_seq ?_
    refine st_condt hb27 rfl ?_
    refine st_skip ?_
    refine n_sq ?_
    refine st_seq ?_
    refine st_block ?_
    refine st_seq ?_
    refine st_region ?_
    refine r_pure (.int .i64 i17) rfl ?_
    refine r_pure (.int .i64 i17) rfl ?_
    refine r_seq ?_
    refine st_seq ?_
    refine st_region ?_
    refine r_pure (.func (.func gf9) #[] (List.toArray gcap10)) rfl ?_
    refine r_pure (.slice A1 s_.length c2) rfl ?_
    refine r_pure (.int .i64 i17) rfl ?_
    have hA33 := (hv4 _ H13).adO hj30
    refine r_ix IX34 rfl rfl hA33 h028 h129 ?_
    refine r_ldA [.string y22.Seller, .string y22.Buyer, .int .i64 y22.Amount] LD38 rfl rfl ((hv4 _ H13).csA hA33 hj30) ?_
    obtain ⟨y34, hy35, hm⟩ := bind_some hm
    refine r_callv rfl ge11 (gp12 _ _ hy35 _ _ H13 (fun _ H => H)) ?_
    rintro e38 wd37 ⟨rfl, H36⟩
    refine ⟨_, rfl, ?_⟩
    refine r_seq ?_
    rcases ite_some hm with ⟨hb39, hm⟩ | ⟨hb39, hm⟩
    · refine st_condt hb39 rfl ?_
      refine st_seq ?_
      refine st_region ?_
      refine r_pure (.int .i64 i17) rfl ?_
      refine r_pure (.int .i64 i17) rfl ?_
      refine r_seq ?_
      have hq_ := Option.some.inj hm
      subst hq_
      have hq_ := Option.some.inj (show some (i17 : Int) = some r0_ from hm14)
      subst hq_
      refine st_ret1 rfl rfl (Nat.le_of_ble_eq_true rfl) rfl ?_
      exact ⟨rfl, H36⟩
    · refine st_condf hb39 rfl ?_
      refine st_skip ?_
      refine n_bl ?_
      refine n_sq ?_
      refine st_region ?_
      refine r_pure (.int .i64 (w64 (i17 + 1))) rfl ?_
      refine r_pure (.int .i64 (w64 (i17 + 1))) rfl ?_
      refine r_nil ?_
      refine n_round (IH25 _ _ rfl _ _ _ ⟨i17 + 1, dn18 ++ [y22], rfl, range_more hxs19, range_len hi20, upk (ac rfl (ac rfl (ac rfl (ac hnx31 an)))), H36⟩ hm)

set_option maxHeartbeats 2000000 in
theorem cross_Cross_Add_c1_ok {w0 w : World} {Γ : List (World → Prop)} (r_ : cross_Row) (b2 : Nat) (cap1 : ByteArray) (hv3 : ∀ u, Hp w0 Γ u → Bx b2 9 [.string cap1] u) (b5 : Nat) (cap4 : ByteArray) (hv6 : ∀ u, Hp w0 Γ u → Bx b5 9 [.string cap4] u) (r0_ : Bool) (H : Hp w0 (Γ) w) (hm : cross_Cross_Add_c1 r_ cap1 cap4 = some r0_) : Calls Try.prog 18 #[.agg #[.string r_.Seller, .string r_.Buyer, .int .i64 r_.Amount], .pointer (some ⟨b2, 0, none⟩), .pointer (some ⟨b5, 0, none⟩)] w (fun e w => e = .returned (.bool r0_) ∧ Hp w0 (Γ) w) := by
  unfold cross_Cross_Add_c1 at hm
  refine st_enter Try.func18 rfl Try.ntmps18 (Nat.le_of_ble_eq_true rfl) ?_
  refine st_seq ?_
  refine st_region ?_
  refine r_box [.string r_.Seller, .string r_.Buyer, .int .i64 r_.Amount] H rfl ?_
  intro b7 wd9 H8
  refine r_pure (.bool false) rfl ?_
  refine r_seq ?_
  refine st_cut (fun ρ w => ∃ q10 : Bool, (∃ base, ρ = updl base [(4, .bool q10)]) ∧ Hp w0 (Γ) w ∧ cross_Cross_Add_c1.j1 q10 = some r0_) ?_ ?_
  · refine st_region ?_
    refine r_fa FA38_0 ⟨b7, 0, none⟩ rfl rfl ?_
    refine r_ld1 (.string r_.Seller) LD9 rfl ((H8.g0).cell _ rfl) ?_
    refine r_ld1 (.string cap1) LD9 rfl ((hv3 _ H8.d).cell _ rfl) ?_
    refine r_pure (.bool ((r_.Seller).toList == (cap1).toList)) rfl ?_
    refine r_pure (.bool ((r_.Seller).toList == (cap1).toList)) rfl ?_
    rcases ite_some hm with ⟨hb12, hm⟩ | ⟨hb12, hm⟩
    · refine r_fa FA38_1 ⟨b7, 1, none⟩ rfl rfl ?_ (wn_t rfl rfl (by decide) rfl hb12)
      refine r_ld1 (.string r_.Buyer) LD9 rfl ((H8.g0).cell _ rfl) ?_ (wn_t rfl rfl (by decide) rfl hb12)
      refine r_ld1 (.string cap4) LD9 rfl ((hv6 _ H8.d).cell _ rfl) ?_ (wn_t rfl rfl (by decide) rfl hb12)
      refine r_pure (.bool ((r_.Buyer).toList == (cap4).toList)) rfl ?_ (wn_t rfl rfl (by decide) rfl hb12)
      refine r_pick_t (.bool ((r_.Buyer).toList == (cap4).toList)) hb12 rfl rfl ?_
      refine r_pure (.bool ((r_.Buyer).toList == (cap4).toList)) rfl ?_
      refine r_nil ?_
      refine n_cut ⟨(r_.Buyer).toList == (cap4).toList, upk (ac rfl an), H8.d, hm⟩
    · refine r_not (wn_f rfl rfl (by decide) rfl hb12) ?_
      refine r_not (wn_f rfl rfl (by decide) rfl hb12) ?_
      refine r_not (wn_f rfl rfl (by decide) rfl hb12) ?_
      refine r_not (wn_f rfl rfl (by decide) rfl hb12) ?_
      refine r_pick_f (.bool false) hb12 rfl rfl ?_
      refine r_pure (.bool false) rfl ?_
      refine r_nil ?_
      refine n_cut ⟨false, upk (ac rfl an), H8.d, hm⟩
  · rintro ρ w ⟨q10, ⟨base, rfl⟩, H11, hm⟩
    unfold cross_Cross_Add_c1.j1 at hm
    have hq_ := Option.some.inj hm
    subst hq_
    refine st_ret1 rfl rfl (Nat.le_of_ble_eq_true rfl) rfl ?_
    exact ⟨rfl, H11⟩

set_option maxHeartbeats 2000000 in
theorem slices_Clone_cross_Row_ok {w0 w : World} {Γ : List (World → Prop)} (s_ : List cross_Row) (A1 : Option Addr) (n6 c2 : Nat) (hn5 : n6 = s_.length) (hc3 : s_.length ≤ c2) (hv4 : ∀ u, Hp w0 Γ u → SlR K38 A1 s_ u) (r0_ : List cross_Row) (H : Hp w0 (Γ) w) (hm : slices_Clone_cross_Row s_ = some r0_) : Calls Try.prog 25 #[.slice A1 n6 c2] w (fun e w => ∃ (Ax1 : Option Addr) (nx2 cx3 : Nat), e = .returned (.slice Ax1 nx2 cx3) ∧ Hp w0 (Row K38 (.slice Ax1 nx2 cx3) r0_ :: Γ) w) := by
  subst hn5
  unfold slices_Clone_cross_Row at hm
  refine st_enter Try.func25 rfl Try.ntmps25 (Nat.le_of_ble_eq_true rfl) ?_
  refine st_seq ?_
  refine st_region ?_
  refine r_pure (.slice none 0 0) rfl ?_
  refine r_seq ?_
  refine st_seq ?_
  refine st_seq ?_
  refine st_region ?_
  refine r_pure (.slice A1 s_.length c2) rfl ?_
  rcases A1 with _ | ad7
  · obtain rfl := (hv4 _ H).none_nil
    have hm : some ([] : List cross_Row) = some r0_ := hm
    refine r_eqsn Try.underlying34 rfl rfl rfl ?_
    refine r_seq ?_
    refine st_condt rfl rfl ?_
    refine st_seq ?_
    refine st_region ?_
    refine r_pure (.slice none 0 0) rfl ?_
    refine r_seq ?_
    have H8 := H.add (A := Row K38 (.slice none 0 0) []) Row.nil
    have hq_ := Option.some.inj hm
    subst hq_
    refine st_ret1 rfl rfl (Nat.le_of_ble_eq_true rfl) rfl ?_
    exact ⟨none, 0, 0, rfl, H8⟩
  · refine r_eqsn Try.underlying34 rfl rfl rfl ?_
    refine r_seq ?_
    refine st_condf rfl rfl ?_
    refine st_skip ?_
    refine n_sq ?_
    refine st_seq ?_
    refine st_region ?_
    refine r_buildSlice (K := K38) ([] : List cross_Row) EL34 rfl rfl rfl (by decide) (by decide) rfl H ?_
    intro b9 wd11 H10
    refine r_pure (.slice (some ad7) s_.length c2) rfl ?_
    obtain ⟨hf12, hm⟩ := gd_some hm
    refine r_append (K := K38) (ys := s_) AP34 rfl rfl rfl rfl H10 ((hv4 _ H10.d).src) (fit_le hf12 (by decide)) ?_
    intro A13 c14 wd15 H16
    refine r_pure (.slice A13 ((([] : List cross_Row) ++ s_).length) c14) rfl ?_
    refine r_seq ?_
    have hq_ := Option.some.inj hm
    subst hq_
    refine st_ret1 rfl rfl (Nat.le_of_ble_eq_true rfl) rfl ?_
    exact ⟨A13, (([] : List cross_Row) ++ s_).length, c14, rfl, H16⟩

set_option maxHeartbeats 2000000 in
theorem cross_Cross_Rows_ok {w0 w : World} {Γ : List (World → Prop)} (b1 : Nat) (c_ : cross_Cross) (A2 : Option Addr) (n7 c3 : Nat) (hn6 : n7 = c_.f_l.length) (hc4 : c_.f_l.length ≤ c3) (hv5 : ∀ u, Hp w0 Γ u → SlR K38 A2 c_.f_l u) (hv8 : ∀ u, Hp w0 Γ u → Bx b1 53 [.slice A2 n7 c3] u) (r0_ : List cross_Row) (H : Hp w0 (Γ) w) (hm : cross_Cross_Rows c_ = some r0_) : Calls Try.prog 8 #[.pointer (some ⟨b1, 0, none⟩)] w (fun e w => ∃ (Ax1 : Option Addr) (nx2 cx3 : Nat), e = .returned (.slice Ax1 nx2 cx3) ∧ Hp w0 (Row K38 (.slice Ax1 nx2 cx3) r0_ :: Γ) w) := by
  subst hn6
  unfold cross_Cross_Rows at hm
  refine st_enter Try.func8 rfl Try.ntmps8 (Nat.le_of_ble_eq_true rfl) ?_
  refine st_seq ?_
  refine st_region ?_
  refine r_pure (.slice none 0 0) rfl ?_
  refine r_seq ?_
  refine st_seq ?_
  refine st_region ?_
  refine r_pure (.pointer (some ⟨b1, 0, none⟩)) rfl ?_
  refine r_pure (.pointer (some ⟨b1, 0, none⟩)) rfl ?_
  refine r_fa FA53_0 ⟨b1, 0, none⟩ rfl rfl ?_
  refine r_ld1 (.slice A2 c_.f_l.length c3) LD34 rfl ((hv8 _ H).cell _ rfl) ?_
  obtain ⟨y9, hy10, hm⟩ := bind_some hm
  refine r_callf Try.call25 (slices_Clone_cross_Row_ok c_.f_l A2 c_.f_l.length c3 rfl hc4 (fun _ H => (hv5 _ H)) y9 H hy10) ?_
  rintro e12 wd11 ⟨A15, n16, c17, rfl, H14⟩
  obtain rfl := (H14.g0).leneq
  refine ⟨_, rfl, ?_⟩
  refine r_pure (.slice A15 y9.length c17) rfl ?_
  refine r_seq ?_
  have hq_ := Option.some.inj hm
  subst hq_
  refine st_ret1 rfl rfl (Nat.le_of_ble_eq_true rfl) rfl ?_
  exact ⟨A15, y9.length, c17, rfl, H14⟩

set_option maxHeartbeats 2000000 in
theorem slices_DeleteFunc_cross_Row_ok {w0 w : World} {Γ : List (World → Prop)} (s_ : List cross_Row) (A1 : Option Addr) (n3 c2 : Nat) (fv4 : Value) (del : cross_Row → Option Bool) (hp5 : FnOk Try.prog w0 Γ fv4 (fun x => [.agg #[.string x.Seller, .string x.Buyer, .int .i64 x.Amount]]) (fun r => .bool r) del) (r0_ : List cross_Row) (H : Hp w0 (Row K38 (.slice A1 n3 c2) s_ :: Γ) w) (hm : slices_DeleteFunc_cross_Row s_ del = some r0_) : Calls Try.prog 20 #[.slice A1 n3 c2, fv4] w (fun e w => ∃ (Ax1 : Option Addr) (nx2 cx3 : Nat), e = .returned (.slice Ax1 nx2 cx3) ∧ Hp w0 (Row K38 (.slice Ax1 nx2 cx3) r0_ :: Γ) w) := by
  obtain ⟨gf6, gcap7, rfl, ge8, gp9⟩ := hp5
  obtain rfl := (H.g0).leneq
  unfold slices_DeleteFunc_cross_Row at hm
  refine st_enter Try.func20 rfl Try.ntmps20 (Nat.le_of_ble_eq_true rfl) ?_
  refine st_seq ?_
  refine st_region ?_
  refine r_pure (.slice none 0 0) rfl ?_
  refine r_seq ?_
  refine st_seq ?_
  refine st_region ?_
  refine r_pure (.slice A1 s_.length c2) rfl ?_
  refine r_pure (.func (.func gf6) #[] (List.toArray gcap7)) rfl ?_
  obtain ⟨y10, hy11, hm⟩ := bind_some hm
  refine r_callf Try.call19 (slices_IndexFunc_cross_Row_ok s_ A1 s_.length c2 rfl (((H).g0).cap) (fun _ H => (H.g0.rd)) (.func (.func gf6) #[] (List.toArray gcap7)) del ⟨gf6, gcap7, rfl, ge8, fun x y hy Δ w H hΔ => gp9 x y hy Δ w H (fun u hu => (hΔ u hu).d)⟩ y10 H hy11) ?_
  rintro e13 wd12 ⟨rfl, H15⟩
  refine ⟨_, rfl, ?_⟩
  refine r_pure (.int .i64 y10) rfl ?_
  refine r_seq ?_
  refine st_seq ?_
  refine st_seq ?_
  refine st_region ?_
  refine r_pure (.int .i64 y10) rfl ?_
  refine r_pure (.bool (y10 == (-1))) rfl ?_
  refine r_seq ?_
  rcases ite_some hm with ⟨hb16, hm⟩ | ⟨hb16, hm⟩
  · refine st_condt hb16 rfl ?_
    refine st_seq ?_
    refine st_region ?_
    refine r_pure (.slice A1 s_.length c2) rfl ?_
    refine r_pure (.slice A1 s_.length c2) rfl ?_
    refine r_seq ?_
    have hq_ := Option.some.inj hm
    subst hq_
    refine st_ret1 rfl rfl (Nat.le_of_ble_eq_true rfl) rfl ?_
    exact ⟨A1, s_.length, c2, rfl, H15⟩
  · refine st_condf hb16 rfl ?_
    refine st_skip ?_
    refine n_sq ?_
    refine st_seq ?_
    refine st_seq ?_
    refine st_region ?_
    refine r_pure (.int .i64 y10) rfl ?_
    refine r_pure (.int .i64 (w64 (y10 + 1))) rfl ?_
    refine r_pure (.int .i64 (w64 (y10 + 1))) rfl ?_
    refine r_seq ?_
    refine st_block ?_
    obtain ⟨tl25, hl26, hm24⟩ := bind_some hm
    refine st_loopF (slices_DeleteFunc_cross_Row.l1 s_ del) (fun s ρ w => ∃ xs20 : List cross_Row, ∃ v21 : Int, ∃ v22 : Int, (xs20, v21, v22) = s ∧ (∃ base, ρ = updl base [(0, .slice A1 s_.length c2), (1, .func (.func gf6) #[] (List.toArray gcap7)), (5, .int .i64 v21), (6, .int .i64 v22)]) ∧ Hp w0 (Row K38 (.slice A1 s_.length c2) xs20 :: Γ) w) hl26 (fun _ => rfl) ⟨s_, y10, w64 (y10 + 1), rfl, upk (ac rfl (ac rfl (ac rfl (ac rfl an)))), H15⟩ ?_
    rintro fuel32 IH34 s ρ w ⟨xs20, v21, v22, rfl, ⟨base, rfl⟩, H23⟩ hm
    rw [slices_DeleteFunc_cross_Row.l1] at hm
    refine st_seq ?_
    refine st_seq ?_
    refine st_region ?_
    refine r_pure (.int .i64 v22) rfl ?_
    refine r_pure (.slice A1 s_.length c2) rfl ?_
    refine r_len Try.underlying34 rfl ?_
    refine r_pure (.bool (decide (v22 < (s_.length : Int)))) rfl ?_
    refine r_seq ?_
    rcases ite_some hm with ⟨hb35, hm⟩ | ⟨hb35, hm⟩
    · refine st_condt hb35 rfl ?_
      refine st_skip ?_
      refine n_sq ?_
      refine st_cut (fun ρ w => ∃ xs36 : List cross_Row, ∃ v37 : Int, (∃ base, ρ = updl base [(0, .slice A1 s_.length c2), (1, .func (.func gf6) #[] (List.toArray gcap7)), (5, .int .i64 v37), (6, .int .i64 v22)]) ∧ Hp w0 (Row K38 (.slice A1 s_.length c2) xs36 :: Γ) w ∧ slices_DeleteFunc_cross_Row.j1 (slices_DeleteFunc_cross_Row.l1 s_ del fuel32) v22 xs36 v37 = some tl25) ?_ ?_
      · refine st_block ?_
        refine st_seq ?_
        refine st_region ?_
        refine r_pure (.slice A1 s_.length c2) rfl ?_
        refine r_pure (.int .i64 v22) rfl ?_
        obtain ⟨⟨h039, h140⟩, hm⟩ := gd_some hm
        have hj41 := rd_get h039 h140
        have hA42 := (H23.g0.rd).adO hj41
        refine r_ix IX34 rfl rfl hA42 h039 (by have h1_ := (H23.g0).leneq; have h2_ := h140; rw [← h1_] at h2_; exact h2_) ?_
        refine r_ldA [.string ((rd xs20 v22).Seller), .string ((rd xs20 v22).Buyer), .int .i64 ((rd xs20 v22).Amount)] LD38 rfl rfl ((H23.g0.rd).csA hA42 hj41) ?_
        refine r_alloc [.string ⟨#[]⟩, .string ⟨#[]⟩, .int .i64 0] Try.zeroValue38 H23 rfl ?_
        intro b43 wd45 H44
        refine r_stA [.string ((rd xs20 v22).Seller), .string ((rd xs20 v22).Buyer), .int .i64 ((rd xs20 v22).Amount)] LD38 rfl rfl rfl rfl H44 (Nat.le_of_ble_eq_true rfl) rfl ?_
        intro wd47 H46
        refine r_seq ?_
        refine st_seq ?_
        refine st_region ?_
        refine r_pure (.func (.func gf6) #[] (List.toArray gcap7)) rfl ?_
        refine r_ldA [.string ((rd xs20 v22).Seller), .string ((rd xs20 v22).Buyer), .int .i64 ((rd xs20 v22).Amount)] LD38 rfl rfl ((H46.g0).cells rfl) ?_
        obtain ⟨y48, hy49, hm⟩ := bind_some hm
        refine r_callv rfl ge8 (gp9 _ _ hy49 _ _ H46 (fun _ H => H.d.d)) ?_
        rintro e52 wd51 ⟨rfl, H50⟩
        refine ⟨_, rfl, ?_⟩
        refine r_pure (.bool (!y48)) rfl ?_
        refine r_seq ?_
        rcases ite_some hm with ⟨hb53, hm⟩ | ⟨hb53, hm⟩
        · refine st_condt hb53 rfl ?_
          refine st_seq ?_
          refine st_region ?_
          refine r_pure (.slice A1 s_.length c2) rfl ?_
          refine r_pure (.int .i64 v21) rfl ?_
          refine r_ldA [.string ((rd xs20 v22).Seller), .string ((rd xs20 v22).Buyer), .int .i64 ((rd xs20 v22).Amount)] LD38 rfl rfl ((H50.g0).cells rfl) ?_
          obtain ⟨⟨h054, h155⟩, hm⟩ := gd_some hm
          have hj56 := rd_get h054 h155
          refine r_ix IX34 rfl rfl hA42 h054 (by have h1_ := (H50.g1).leneq; have h2_ := h155; rw [← h1_] at h2_; exact h2_) ?_
          refine r_stxA (K := K38) ((rd xs20 v22)) hA42 LD38 rfl rfl rfl rfl H50.u1 (by have h1_ := h054; have h2_ := h155; first | omega | (simp only [List.length_set] at h1_ h2_ ⊢; omega)) ?_
          intro wd58 H57
          refine r_seq ?_
          refine st_region ?_
          refine r_pure (.int .i64 v21) rfl ?_
          refine r_pure (.int .i64 (w64 (v21 + 1))) rfl ?_
          refine r_pure (.int .i64 (w64 (v21 + 1))) rfl ?_
          refine r_nil ?_
          refine n_bl ?_
          refine n_cut ⟨xs20.set (Int.toNat v21) (rd xs20 v22), w64 (v21 + 1), upk (ac rfl (ac rfl (ac rfl (ac rfl an)))), H57.u1.d, hm⟩
        · refine st_condf hb53 rfl ?_
          refine st_skip ?_
          refine n_bl ?_
          refine n_cut ⟨xs20, v21, upk (ac rfl (ac rfl (ac rfl (ac rfl an)))), H50.d, hm⟩
      · rintro ρ w ⟨xs36, v37, ⟨base, rfl⟩, H38, hm⟩
        unfold slices_DeleteFunc_cross_Row.j1 at hm
        refine st_region ?_
        refine r_pure (.int .i64 v22) rfl ?_
        refine r_pure (.int .i64 (w64 (v22 + 1))) rfl ?_
        refine r_pure (.int .i64 (w64 (v22 + 1))) rfl ?_
        refine r_nil ?_
        refine n_round (IH34 _ _ _ ⟨xs36, v37, w64 (v22 + 1), rfl, upk (ac rfl (ac rfl (ac rfl (ac rfl an)))), H38⟩ hm)
    · refine st_condf hb35 rfl ?_
      have hq_ := Option.some.inj hm
      refine st_exit rfl ?_
      subst hq_
      refine n_sq ?_
      refine st_seq ?_
      refine st_region ?_
      refine r_pure (.slice A1 s_.length c2) rfl ?_
      refine r_pure (.int .i64 v21) rfl ?_
      obtain ⟨hs59, hm⟩ := gd_some hm24
      refine r_cut2 (xs := xs20) (lo := v21) (hi := (xs20.length : Int)) IX34 rfl (H23.g0).leneq (H23.g0.cap) (by have h_ := (H23.g0).leneq; simp only [BI]; omega) ⟨_, rfl⟩ hs59 ?_
      refine r_clear (K := K38) (lo := v21) (z := (⟨(⟨#[]⟩ : ByteArray), (⟨#[]⟩ : ByteArray), 0⟩ : cross_Row)) Try.underlying34 rfl rfl ZV38 rfl hs59.1 hs59.2.1 H23 ?_
      intro wd61 H60
      refine r_seq ?_
      refine st_seq ?_
      refine st_region ?_
      refine r_pure (.slice A1 s_.length c2) rfl ?_
      refine r_pure (.int .i64 v21) rfl ?_
      obtain ⟨hs62, hm⟩ := gd_some hm
      refine r_cut2 (xs := clr xs20 v21 (⟨(⟨#[]⟩ : ByteArray), (⟨#[]⟩ : ByteArray), 0⟩ : cross_Row)) (lo := (0 : Int)) (hi := v21) IX34 rfl (H60.g0).leneq (H60.g0.cap) ⟨_, rfl⟩ rfl hs62 ?_
      refine r_pure (.slice (cutA A1 (0 : Int) (c2 : Int) 3) ((sb (clr xs20 v21 (⟨(⟨#[]⟩ : ByteArray), (⟨#[]⟩ : ByteArray), 0⟩ : cross_Row)) (0 : Int) v21).length) (c2 - Int.toNat (0 : Int))) rfl ?_
      refine r_seq ?_
      have H63 : Hp w0 (Row K38 (.slice (cutA A1 (0 : Int) (c2 : Int) 3) ((sb (clr xs20 v21 (⟨(⟨#[]⟩ : ByteArray), (⟨#[]⟩ : ByteArray), 0⟩ : cross_Row)) (0 : Int) v21).length) (c2 - Int.toNat (0 : Int))) (sb (clr xs20 v21 (⟨(⟨#[]⟩ : ByteArray), (⟨#[]⟩ : ByteArray), 0⟩ : cross_Row)) (0 : Int) v21) :: _) _ := H60.imp fun _ h_ => h_.sb hs62.1 hs62.2.1 (by have := (H60.g0.cap); have := hs62; omega) (Int.le_refl _) hs62.2.2
      have hq_ := Option.some.inj hm
      subst hq_
      refine st_ret1 rfl rfl (Nat.le_of_ble_eq_true rfl) rfl ?_
      exact ⟨(cutA A1 (0 : Int) (c2 : Int) 3), (sb (clr xs20 v21 (⟨(⟨#[]⟩ : ByteArray), (⟨#[]⟩ : ByteArray), 0⟩ : cross_Row)) (0 : Int) v21).length, (c2 - Int.toNat (0 : Int)), rfl, H63⟩

set_option maxHeartbeats 2000000 in
theorem math_bits_Len64_ok {w0 w : World} {Γ : List (World → Prop)} (x_ : Int) (r0_ : Int) (H : Hp w0 (Γ) w) (hm : math_bits_Len64 x_ = some r0_) : Calls Try.prog 44 #[.int .u64 x_] w (fun e w => e = .returned (.int .i64 r0_) ∧ Hp w0 (Γ) w) := by
  unfold math_bits_Len64 at hm
  refine st_enter Try.func44 rfl Try.ntmps44 (Nat.le_of_ble_eq_true rfl) ?_
  refine st_seq ?_
  refine st_region ?_
  refine r_pure (.int .i64 0) rfl ?_
  refine r_seq ?_
  refine st_seq ?_
  refine st_seq ?_
  refine st_region ?_
  refine r_pure (.int .u64 x_) rfl ?_
  refine r_pure (.bool (decide (x_ ≥ 4294967296))) rfl ?_
  refine r_seq ?_
  rcases ite_some hm with ⟨hb1, hm⟩ | ⟨hb1, hm⟩
  · cases hm
  · refine st_condf hb1 rfl ?_
    refine st_skip ?_
    refine n_sq ?_
    refine st_seq ?_
    refine st_seq ?_
    refine st_region ?_
    refine r_pure (.int .u64 x_) rfl ?_
    refine r_pure (.bool (decide (x_ ≥ 65536))) rfl ?_
    refine r_seq ?_
    rcases ite_some hm with ⟨hb2, hm⟩ | ⟨hb2, hm⟩
    · cases hm
    · refine st_condf hb2 rfl ?_
      refine st_skip ?_
      refine n_sq ?_
      refine st_seq ?_
      refine st_seq ?_
      refine st_region ?_
      refine r_pure (.int .u64 x_) rfl ?_
      refine r_pure (.bool (decide (x_ ≥ 256))) rfl ?_
      refine r_seq ?_
      rcases ite_some hm with ⟨hb3, hm⟩ | ⟨hb3, hm⟩
      · cases hm
      · refine st_condf hb3 rfl ?_
        refine st_skip ?_
        refine n_sq ?_
        refine st_seq ?_
        refine st_region ?_
        refine r_pure (.int .i64 0) rfl ?_
        refine r_pure (.int .u64 x_) rfl ?_
        refine r_conv Try.underlying79 Try.underlying5 rfl ?_
        obtain ⟨h4, hm⟩ := gd_some hm
        refine r_byte Try.underlying9 rfl rfl h4 ?_
        refine r_conv Try.underlying5 Try.underlying3 rfl ?_
        refine r_pure (.int .i64 (w64 (0 + w64 (byteAt (⟨#[0, 1, 2, 2, 3, 3, 3, 3, 4, 4, 4, 4, 4, 4, 4, 4, 5, 5, 5, 5, 5, 5, 5, 5, 5, 5, 5, 5, 5, 5, 5, 5, 6, 6, 6, 6, 6, 6, 6, 6, 6, 6, 6, 6, 6, 6, 6, 6, 6, 6, 6, 6, 6, 6, 6, 6, 6, 6, 6, 6, 6, 6, 6, 6, 7, 7, 7, 7, 7, 7, 7, 7, 7, 7, 7, 7, 7, 7, 7, 7, 7, 7, 7, 7, 7, 7, 7, 7, 7, 7, 7, 7, 7, 7, 7, 7, 7, 7, 7, 7, 7, 7, 7, 7, 7, 7, 7, 7, 7, 7, 7, 7, 7, 7, 7, 7, 7, 7, 7, 7, 7, 7, 7, 7, 7, 7, 7, 7, 8, 8, 8, 8, 8, 8, 8, 8, 8, 8, 8, 8, 8, 8, 8, 8, 8, 8, 8, 8, 8, 8, 8, 8, 8, 8, 8, 8, 8, 8, 8, 8, 8, 8, 8, 8, 8, 8, 8, 8, 8, 8, 8, 8, 8, 8, 8, 8, 8, 8, 8, 8, 8, 8, 8, 8, 8, 8, 8, 8, 8, 8, 8, 8, 8, 8, 8, 8, 8, 8, 8, 8, 8, 8, 8, 8, 8, 8, 8, 8, 8, 8, 8, 8, 8, 8, 8, 8, 8, 8, 8, 8, 8, 8, 8, 8, 8, 8, 8, 8, 8, 8, 8, 8, 8, 8, 8, 8, 8, 8, 8, 8, 8, 8, 8, 8, 8, 8, 8, 8, 8, 8, 8, 8, 8, 8, 8, 8]⟩ : ByteArray) (IntKind.u8.wrap x_))))) rfl ?_
        refine r_pure (.int .i64 (w64 (0 + w64 (byteAt (⟨#[0, 1, 2, 2, 3, 3, 3, 3, 4, 4, 4, 4, 4, 4, 4, 4, 5, 5, 5, 5, 5, 5, 5, 5, 5, 5, 5, 5, 5, 5, 5, 5, 6, 6, 6, 6, 6, 6, 6, 6, 6, 6, 6, 6, 6, 6, 6, 6, 6, 6, 6, 6, 6, 6, 6, 6, 6, 6, 6, 6, 6, 6, 6, 6, 7, 7, 7, 7, 7, 7, 7, 7, 7, 7, 7, 7, 7, 7, 7, 7, 7, 7, 7, 7, 7, 7, 7, 7, 7, 7, 7, 7, 7, 7, 7, 7, 7, 7, 7, 7, 7, 7, 7, 7, 7, 7, 7, 7, 7, 7, 7, 7, 7, 7, 7, 7, 7, 7, 7, 7, 7, 7, 7, 7, 7, 7, 7, 7, 8, 8, 8, 8, 8, 8, 8, 8, 8, 8, 8, 8, 8, 8, 8, 8, 8, 8, 8, 8, 8, 8, 8, 8, 8, 8, 8, 8, 8, 8, 8, 8, 8, 8, 8, 8, 8, 8, 8, 8, 8, 8, 8, 8, 8, 8, 8, 8, 8, 8, 8, 8, 8, 8, 8, 8, 8, 8, 8, 8, 8, 8, 8, 8, 8, 8, 8, 8, 8, 8, 8, 8, 8, 8, 8, 8, 8, 8, 8, 8, 8, 8, 8, 8, 8, 8, 8, 8, 8, 8, 8, 8, 8, 8, 8, 8, 8, 8, 8, 8, 8, 8, 8, 8, 8, 8, 8, 8, 8, 8, 8, 8, 8, 8, 8, 8, 8, 8, 8, 8, 8, 8, 8, 8, 8, 8, 8, 8]⟩ : ByteArray) (IntKind.u8.wrap x_))))) rfl ?_
        refine r_seq ?_
        have hq_ := Option.some.inj hm
        subst hq_
        refine st_ret1 rfl rfl (Nat.le_of_ble_eq_true rfl) rfl ?_
        exact ⟨rfl, H⟩

set_option maxHeartbeats 2000000 in
theorem math_bits_Len_ok {w0 w : World} {Γ : List (World → Prop)} (x_ : Int) (r0_ : Int) (H : Hp w0 (Γ) w) (hm : math_bits_Len x_ = some r0_) : Calls Try.prog 31 #[.int .u64 x_] w (fun e w => e = .returned (.int .i64 r0_) ∧ Hp w0 (Γ) w) := by
  unfold math_bits_Len at hm
  refine st_enter Try.func31 rfl Try.ntmps31 (Nat.le_of_ble_eq_true rfl) ?_
  refine st_seq ?_
  refine st_region ?_
  refine r_pure (.int .i64 0) rfl ?_
  refine r_seq ?_
  refine st_seq ?_
  refine st_condf rfl rfl ?_
  refine st_skip ?_
  refine n_sq ?_
  refine st_seq ?_
  refine st_region ?_
  refine r_pure (.int .u64 x_) rfl ?_
  obtain ⟨y1, hy2, hm⟩ := bind_some hm
  refine r_callf Try.call44 (math_bits_Len64_ok x_ y1 H hy2) ?_
  rintro e4 wd3 ⟨rfl, H6⟩
  refine ⟨_, rfl, ?_⟩
  refine r_pure (.int .i64 y1) rfl ?_
  refine r_seq ?_
  have hq_ := Option.some.inj hm
  subst hq_
  refine st_ret1 rfl rfl (Nat.le_of_ble_eq_true rfl) rfl ?_
  exact ⟨rfl, H6⟩

set_option maxHeartbeats 2000000 in
theorem slices_insertionSortCmpFunc_cross_Row_ok {w0 w : World} {Γ : List (World → Prop)} (data : List cross_Row) (A1 : Option Addr) (n3 c2 : Nat) (a_ : Int) (b_ : Int) (fv4 : Value) (cmp : (cross_Row × cross_Row) → Option Int) (hp5 : FnOk Try.prog w0 Γ fv4 (fun x => [.agg #[.string x.1.Seller, .string x.1.Buyer, .int .i64 x.1.Amount], .agg #[.string x.2.Seller, .string x.2.Buyer, .int .i64 x.2.Amount]]) (fun r => .int .i64 r) cmp) (r0_ : List cross_Row) (H : Hp w0 (Row K38 (.slice A1 n3 c2) data :: Γ) w) (hm : slices_insertionSortCmpFunc_cross_Row data a_ b_ cmp = some r0_) : Calls Try.prog 35 #[.slice A1 n3 c2, .int .i64 a_, .int .i64 b_, fv4] w (fun e w => e = .returned (.tuple #[]) ∧ Hp w0 (Row K38 (.slice A1 n3 c2) r0_ :: Γ) w) := by
  obtain ⟨gf6, gcap7, rfl, ge8, gp9⟩ := hp5
  obtain rfl := (H.g0).leneq
  unfold slices_insertionSortCmpFunc_cross_Row at hm
  refine st_enter Try.func35 rfl Try.ntmps35 (Nat.le_of_ble_eq_true rfl) ?_
  refine st_seq ?_
  refine st_region ?_
  refine r_pure (.int .i64 a_) rfl ?_
  refine r_pure (.int .i64 (w64 (a_ + 1))) rfl ?_
  refine r_pure (.int .i64 (w64 (a_ + 1))) rfl ?_
  refine r_seq ?_
  refine st_block ?_
  obtain ⟨tl16, hl17, hm15⟩ := bind_some hm
  refine st_loopF (slices_insertionSortCmpFunc_cross_Row.l1 b_ a_ cmp) (fun s ρ w => ∃ xs12 : List cross_Row, ∃ v13 : Int, (xs12, v13) = s ∧ (∃ base, ρ = updl base [(0, .slice A1 data.length c2), (1, .int .i64 a_), (2, .int .i64 b_), (3, .func (.func gf6) #[] (List.toArray gcap7)), (8, .int .i64 v13)]) ∧ Hp w0 (Row K38 (.slice A1 data.length c2) xs12 :: Γ) w) hl17 (fun _ => rfl) ⟨data, w64 (a_ + 1), rfl, upk (ac rfl (ac rfl (ac rfl (ac rfl (ac rfl an))))), H⟩ ?_
  rintro fuel23 IH25 s ρ w ⟨xs12, v13, rfl, ⟨base, rfl⟩, H14⟩ hm
  rw [slices_insertionSortCmpFunc_cross_Row.l1] at hm
  refine st_seq ?_
  refine st_seq ?_
  refine st_region ?_
  refine r_pure (.int .i64 v13) rfl ?_
  refine r_pure (.int .i64 b_) rfl ?_
  refine r_pure (.bool (decide (v13 < b_))) rfl ?_
  refine r_seq ?_
  rcases ite_some hm with ⟨hb26, hm⟩ | ⟨hb26, hm⟩
  · refine st_condt hb26 rfl ?_
    refine st_skip ?_
    refine n_sq ?_
    refine st_seq ?_
    refine st_block ?_
    refine st_seq ?_
    refine st_region ?_
    refine r_pure (.int .i64 v13) rfl ?_
    refine r_pure (.int .i64 v13) rfl ?_
    refine r_seq ?_
    refine st_block ?_
    obtain ⟨tl33, hl34, hm32⟩ := bind_some hm
    refine st_loopF (slices_insertionSortCmpFunc_cross_Row.l2 a_ cmp) (fun s ρ w => ∃ xs29 : List cross_Row, ∃ v30 : Int, (xs29, v30) = s ∧ (∃ base, ρ = updl base [(0, .slice A1 data.length c2), (1, .int .i64 a_), (2, .int .i64 b_), (3, .func (.func gf6) #[] (List.toArray gcap7)), (8, .int .i64 v13), (9, .int .i64 v30)]) ∧ Hp w0 (Row K38 (.slice A1 data.length c2) xs29 :: Γ) w) hl34 (fun _ => rfl) ⟨xs12, v13, rfl, upk (ac rfl (ac rfl (ac rfl (ac rfl (ac rfl (ac rfl an)))))), H14⟩ ?_
    rintro fuel40 IH42 s ρ w ⟨xs29, v30, rfl, ⟨base, rfl⟩, H31⟩ hm
    rw [slices_insertionSortCmpFunc_cross_Row.l2] at hm
    refine st_seq ?_
    refine st_cut (fun ρ w => ∃ q43 : Bool, (∃ base, ρ = updl base [(0, .slice A1 data.length c2), (1, .int .i64 a_), (2, .int .i64 b_), (3, .func (.func gf6) #[] (List.toArray gcap7)), (8, .int .i64 v13), (9, .int .i64 v30), (34, .bool q43)]) ∧ Hp w0 (Row K38 (.slice A1 data.length c2) xs29 :: Γ) w ∧ slices_insertionSortCmpFunc_cross_Row.j1 v30 xs29 (slices_insertionSortCmpFunc_cross_Row.l2 a_ cmp fuel40) q43 = some tl33) ?_ ?_
    · rcases ite_some hm with ⟨hb195, hm⟩ | ⟨hb195, hm⟩
      · obtain ⟨⟨h0196, h1197⟩, hm⟩ := gd_some hm
        have hj198 := rd_get h0196 h1197
        obtain ⟨⟨h0200, h1201⟩, hm⟩ := gd_some hm
        have hj202 := rd_get h0200 h1201
        obtain ⟨y203, hy204, hm⟩ := bind_some hm
        refine Flow.run' RA35_4 RW35_4 [(fun η194 v => v.1 = .int .i64 v30), (fun η194 v => v.1 = .int .i64 a_), (fun η194 v => v.1 = .bool (decide (v30 > a_))), (fun η194 v => v.1 = .bool (decide (v30 > a_))), (fun η194 v => v.1 = .func (.func gf6) #[] (List.toArray gcap7)), (fun η194 v => v.1 = .slice A1 data.length c2), (fun η194 v => v.1 = .int .i64 v30), (fun η194 v => v.1 = .pointer (some ((oA A1).add (Int.toNat v30 * 3)))), (fun η194 v => v.1 = .agg #[.string ((rd xs29 v30).Seller), .string ((rd xs29 v30).Buyer), .int .i64 ((rd xs29 v30).Amount)]), (fun η194 v => v.1 = .slice A1 data.length c2), (fun η194 v => v.1 = .int .i64 v30), (fun η194 v => v.1 = .int .i64 (w64 (v30 - 1))), (fun η194 v => v.1 = .pointer (some ((oA A1).add (Int.toNat (w64 (v30 - 1)) * 3)))), (fun η194 v => v.1 = .agg #[.string ((rd xs29 (w64 (v30 - 1))).Seller), .string ((rd xs29 (w64 (v30 - 1))).Buyer), .int .i64 ((rd xs29 (w64 (v30 - 1))).Amount)]), (fun η194 v => v.1 = .int .i64 y203), (fun η194 v => v.1 = .bool (decide (y203 < 0))), (fun η194 v => v.1 = .bool (decide (y203 < 0)))] [] rfl (by kernel_rfl) (by kernel_rfl) H31 ⟨?_, ?_, ?_, ?_, ?_, ?_, ?_, ?_, ?_, ?_, ?_, ?_, ?_, ?_, ?_, ?_, ?_, trivial⟩ ?_
        · intro η194 wd212 Δ213 hE208 hR209 hA210 H211
          refine sp_op [(9, .int .i64 v30)] (ac rfl an) ?_
          refine r_pure (.int .i64 v30) rfl ?_
          exact r_nil (n_lp ⟨_, rfl, undef, rfl, H211⟩)
        · intro η194 wd218 Δ219 hE214 hR215 hA216 H217
          refine sp_op [(1, .int .i64 a_)] (ac rfl an) ?_
          refine r_pure (.int .i64 a_) rfl ?_
          exact r_nil (n_lp ⟨_, rfl, undef, rfl, H217⟩)
        · intro η194 wd224 Δ225 hE220 hR221 hA222 H223
          refine sp_op [(18, .int .i64 v30), (19, .int .i64 a_)] (ac (hE220 0 (by decide)) (ac (hE220 1 (by decide)) an)) ?_
          refine r_pure (.bool (decide (v30 > a_))) rfl ?_
          exact r_nil (n_lp ⟨_, rfl, undef, rfl, H223⟩)
        · intro η194 wd230 Δ231 hE226 hR227 hA228 H229
          refine sp_op [(20, .bool (decide (v30 > a_)))] (ac (hE226 2 (by decide)) an) ?_
          refine r_pure (.bool (decide (v30 > a_))) rfl ?_
          exact r_nil (n_lp ⟨_, rfl, undef, rfl, H229⟩)
        · intro η194 wd236 Δ237 hE232 hR233 hA234 H235
          refine sp_op [(3, .func (.func gf6) #[] (List.toArray gcap7)), (21, .bool (decide (v30 > a_)))] (ac rfl (ac (hE232 3 (by decide)) an)) ?_
          refine r_pure (.func (.func gf6) #[] (List.toArray gcap7)) rfl ?_ (wn_t rfl rfl (by decide) rfl hb195)
          exact r_nil (n_lp ⟨_, rfl, undef, rfl, H235⟩)
        · intro η194 wd242 Δ243 hE238 hR239 hA240 H241
          refine sp_op [(0, .slice A1 data.length c2), (21, .bool (decide (v30 > a_)))] (ac rfl (ac (hE238 3 (by decide)) an)) ?_
          refine r_pure (.slice A1 data.length c2) rfl ?_ (wn_t rfl rfl (by decide) rfl hb195)
          exact r_nil (n_lp ⟨_, rfl, undef, rfl, H241⟩)
        · intro η194 wd248 Δ249 hE244 hR245 hA246 H247
          refine sp_op [(9, .int .i64 v30), (21, .bool (decide (v30 > a_)))] (ac rfl (ac (hE244 3 (by decide)) an)) ?_
          refine r_pure (.int .i64 v30) rfl ?_ (wn_t rfl rfl (by decide) rfl hb195)
          exact r_nil (n_lp ⟨_, rfl, undef, rfl, H247⟩)
        · intro η194 wd254 Δ255 hE250 hR251 hA252 H253
          have H253 : Hp w0 ((Δ255 ++ (Row K38 (.slice A1 data.length c2) xs29 :: Γ))) wd254 := H253
          refine sp_op [(21, .bool (decide (v30 > a_))), (23, .slice A1 data.length c2), (24, .int .i64 v30)] (ac (hE250 3 (by decide)) (ac (hE250 5 (by decide)) (ac (hE250 6 (by decide)) an))) ?_
          have hA259 := ((H253).tl.g0.rd).adO hj198
          refine r_ix IX34 rfl rfl hA259 h0196 (by have h1_ := ((H253).tl.g0).leneq; have h2_ := h1197; rw [← h1_] at h2_; exact h2_) ?_ (wn_t rfl rfl (by decide) rfl hb195)
          exact r_nil (n_lp ⟨_, rfl, undef, rfl, H253⟩)
        · intro η194 wd264 Δ265 hE260 hR261 hA262 H263
          have H263 : Hp w0 ((Δ265 ++ (Row K38 (.slice A1 data.length c2) xs29 :: Γ))) wd264 := H263
          refine sp_op [(21, .bool (decide (v30 > a_))), (25, .pointer (some ((oA A1).add (Int.toNat v30 * 3))))] (ac (hE260 3 (by decide)) (ac (hE260 7 (by decide)) an)) ?_
          have hA266 := ((H263).tl.g0.rd).adO hj198
          refine r_ldA [.string ((rd xs29 v30).Seller), .string ((rd xs29 v30).Buyer), .int .i64 ((rd xs29 v30).Amount)] LD38 rfl rfl (((H263).tl.g0.rd).csA hA266 hj198) ?_ (wn_t rfl rfl (by decide) rfl hb195)
          exact r_nil (n_lp ⟨_, rfl, undef, rfl, H263⟩)
        · intro η194 wd271 Δ272 hE267 hR268 hA269 H270
          refine sp_op [(0, .slice A1 data.length c2), (21, .bool (decide (v30 > a_)))] (ac rfl (ac (hE267 3 (by decide)) an)) ?_
          refine r_pure (.slice A1 data.length c2) rfl ?_ (wn_t rfl rfl (by decide) rfl hb195)
          exact r_nil (n_lp ⟨_, rfl, undef, rfl, H270⟩)
        · intro η194 wd277 Δ278 hE273 hR274 hA275 H276
          refine sp_op [(9, .int .i64 v30), (21, .bool (decide (v30 > a_)))] (ac rfl (ac (hE273 3 (by decide)) an)) ?_
          refine r_pure (.int .i64 v30) rfl ?_ (wn_t rfl rfl (by decide) rfl hb195)
          exact r_nil (n_lp ⟨_, rfl, undef, rfl, H276⟩)
        · intro η194 wd283 Δ284 hE279 hR280 hA281 H282
          refine sp_op [(21, .bool (decide (v30 > a_))), (28, .int .i64 v30)] (ac (hE279 3 (by decide)) (ac (hE279 10 (by decide)) an)) ?_
          refine r_pure (.int .i64 (w64 (v30 - 1))) rfl ?_ (wn_t rfl rfl (by decide) rfl hb195)
          exact r_nil (n_lp ⟨_, rfl, undef, rfl, H282⟩)
        · intro η194 wd289 Δ290 hE285 hR286 hA287 H288
          have H288 : Hp w0 ((Δ290 ++ (Row K38 (.slice A1 data.length c2) xs29 :: Γ))) wd289 := H288
          refine sp_op [(21, .bool (decide (v30 > a_))), (27, .slice A1 data.length c2), (29, .int .i64 (w64 (v30 - 1)))] (ac (hE285 3 (by decide)) (ac (hE285 9 (by decide)) (ac (hE285 11 (by decide)) an))) ?_
          have hA294 := ((H288).tl.g0.rd).adO hj202
          refine r_ix IX34 rfl rfl hA294 h0200 (by have h1_ := ((H288).tl.g0).leneq; have h2_ := h1201; rw [← h1_] at h2_; exact h2_) ?_ (wn_t rfl rfl (by decide) rfl hb195)
          exact r_nil (n_lp ⟨_, rfl, undef, rfl, H288⟩)
        · intro η194 wd299 Δ300 hE295 hR296 hA297 H298
          have H298 : Hp w0 ((Δ300 ++ (Row K38 (.slice A1 data.length c2) xs29 :: Γ))) wd299 := H298
          refine sp_op [(21, .bool (decide (v30 > a_))), (30, .pointer (some ((oA A1).add (Int.toNat (w64 (v30 - 1)) * 3))))] (ac (hE295 3 (by decide)) (ac (hE295 12 (by decide)) an)) ?_
          have hA301 := ((H298).tl.g0.rd).adO hj202
          refine r_ldA [.string ((rd xs29 (w64 (v30 - 1))).Seller), .string ((rd xs29 (w64 (v30 - 1))).Buyer), .int .i64 ((rd xs29 (w64 (v30 - 1))).Amount)] LD38 rfl rfl (((H298).tl.g0.rd).csA hA301 hj202) ?_ (wn_t rfl rfl (by decide) rfl hb195)
          exact r_nil (n_lp ⟨_, rfl, undef, rfl, H298⟩)
        · intro η194 wd306 Δ307 hE302 hR303 hA304 H305
          have H305 : Hp w0 ((Δ307 ++ (Row K38 (.slice A1 data.length c2) xs29 :: Γ))) wd306 := H305
          refine sp_op [(21, .bool (decide (v30 > a_))), (22, .func (.func gf6) #[] (List.toArray gcap7)), (26, .agg #[.string ((rd xs29 v30).Seller), .string ((rd xs29 v30).Buyer), .int .i64 ((rd xs29 v30).Amount)]), (31, .agg #[.string ((rd xs29 (w64 (v30 - 1))).Seller), .string ((rd xs29 (w64 (v30 - 1))).Buyer), .int .i64 ((rd xs29 (w64 (v30 - 1))).Amount)])] (ac (hE302 3 (by decide)) (ac (hE302 4 (by decide)) (ac (hE302 8 (by decide)) (ac (hE302 13 (by decide)) an)))) ?_
          refine r_callv rfl ge8 (gp9 _ _ hy204 _ _ H305 (fun _ H => (H).tl.d)) ?_ (wn_t rfl rfl (by decide) rfl hb195)
          rintro e312 wd311 ⟨rfl, H310⟩
          refine ⟨_, rfl, ?_⟩
          exact r_nil (n_lp ⟨_, rfl, undef, rfl, H310⟩)
        · intro η194 wd317 Δ318 hE313 hR314 hA315 H316
          refine sp_op [(21, .bool (decide (v30 > a_))), (32, .int .i64 y203)] (ac (hE313 3 (by decide)) (ac (hE313 14 (by decide)) an)) ?_
          refine r_pure (.bool (decide (y203 < 0))) rfl ?_ (wn_t rfl rfl (by decide) rfl hb195)
          exact r_nil (n_lp ⟨_, rfl, undef, rfl, H316⟩)
        · intro η194 wd323 Δ324 hE319 hR320 hA321 H322
          refine sp_op [(21, .bool (decide (v30 > a_))), (33, .bool (decide (y203 < 0)))] (ac (hE319 3 (by decide)) (ac (hE319 15 (by decide)) an)) ?_
          refine r_pick_t (.bool (decide (y203 < 0))) hb195 rfl rfl ?_
          exact r_nil (n_lp ⟨_, rfl, undef, rfl, H322⟩)
        · intro η194 wd326 hV327 H325
          have H328 : Hp w0 (Row K38 (.slice A1 data.length c2) xs29 :: Γ) wd326 := H325
          refine n_frame [(0, .slice A1 data.length c2), (1, .int .i64 a_), (2, .int .i64 b_), (3, .func (.func gf6) #[] (List.toArray gcap7)), (8, .int .i64 v13), (9, .int .i64 v30), (22, .func (.func gf6) #[] (List.toArray gcap7)), (23, .slice A1 data.length c2), (24, .int .i64 v30), (25, .pointer (some ((oA A1).add (Int.toNat v30 * 3)))), (26, .agg #[.string ((rd xs29 v30).Seller), .string ((rd xs29 v30).Buyer), .int .i64 ((rd xs29 v30).Amount)]), (27, .slice A1 data.length c2), (28, .int .i64 v30), (29, .int .i64 (w64 (v30 - 1))), (30, .pointer (some ((oA A1).add (Int.toNat (w64 (v30 - 1)) * 3)))), (31, .agg #[.string ((rd xs29 (w64 (v30 - 1))).Seller), .string ((rd xs29 (w64 (v30 - 1))).Buyer), .int .i64 ((rd xs29 (w64 (v30 - 1))).Amount)]), (32, .int .i64 y203), (33, .bool (decide (y203 < 0))), (34, .bool (decide (y203 < 0)))] (ac rfl (ac rfl (ac rfl (ac rfl (ac rfl (ac rfl (ac (hV327 4 rfl) (ac (hV327 5 rfl) (ac (hV327 6 rfl) (ac (hV327 7 rfl) (ac (hV327 8 rfl) (ac (hV327 9 rfl) (ac (hV327 10 rfl) (ac (hV327 11 rfl) (ac (hV327 12 rfl) (ac (hV327 13 rfl) (ac (hV327 14 rfl) (ac (hV327 15 rfl) (ac (hV327 16 rfl) an))))))))))))))))))) ?_
          refine n_cut ⟨decide (y203 < 0), upk (ac rfl (ac rfl (ac rfl (ac rfl (ac rfl (ac rfl (ac rfl an))))))), H328, hm⟩
      · refine Flow.run' RA35_4 RW35_4 [(fun η194 v => v.1 = .int .i64 v30), (fun η194 v => v.1 = .int .i64 a_), (fun η194 v => v.1 = .bool (decide (v30 > a_))), (fun η194 v => v.1 = .bool (decide (v30 > a_))), (fun η194 v => v.1 = undef), (fun η194 v => v.1 = undef), (fun η194 v => v.1 = undef), (fun η194 v => v.1 = undef), (fun η194 v => v.1 = undef), (fun η194 v => v.1 = undef), (fun η194 v => v.1 = undef), (fun η194 v => v.1 = undef), (fun η194 v => v.1 = undef), (fun η194 v => v.1 = undef), (fun η194 v => v.1 = undef), (fun η194 v => v.1 = undef), (fun η194 v => v.1 = .bool false)] [] rfl (by kernel_rfl) (by kernel_rfl) H31 ⟨?_, ?_, ?_, ?_, ?_, ?_, ?_, ?_, ?_, ?_, ?_, ?_, ?_, ?_, ?_, ?_, ?_, trivial⟩ ?_
        · intro η194 wd333 Δ334 hE329 hR330 hA331 H332
          refine sp_op [(9, .int .i64 v30)] (ac rfl an) ?_
          refine r_pure (.int .i64 v30) rfl ?_
          exact r_nil (n_lp ⟨_, rfl, undef, rfl, H332⟩)
        · intro η194 wd339 Δ340 hE335 hR336 hA337 H338
          refine sp_op [(1, .int .i64 a_)] (ac rfl an) ?_
          refine r_pure (.int .i64 a_) rfl ?_
          exact r_nil (n_lp ⟨_, rfl, undef, rfl, H338⟩)
        · intro η194 wd345 Δ346 hE341 hR342 hA343 H344
          refine sp_op [(18, .int .i64 v30), (19, .int .i64 a_)] (ac (hE341 0 (by decide)) (ac (hE341 1 (by decide)) an)) ?_
          refine r_pure (.bool (decide (v30 > a_))) rfl ?_
          exact r_nil (n_lp ⟨_, rfl, undef, rfl, H344⟩)
        · intro η194 wd351 Δ352 hE347 hR348 hA349 H350
          refine sp_op [(20, .bool (decide (v30 > a_)))] (ac (hE347 2 (by decide)) an) ?_
          refine r_pure (.bool (decide (v30 > a_))) rfl ?_
          exact r_nil (n_lp ⟨_, rfl, undef, rfl, H350⟩)
        · intro η194 wd357 Δ358 hE353 hR354 hA355 H356
          refine sp_op [(21, .bool (decide (v30 > a_)))] (ac (hE353 3 (by decide)) an) ?_
          refine r_not (wn_f rfl rfl (by decide) rfl hb195) ?_
          exact r_nil (n_lp ⟨_, rfl, undef, rfl, H356⟩)
        · intro η194 wd363 Δ364 hE359 hR360 hA361 H362
          refine sp_op [(21, .bool (decide (v30 > a_)))] (ac (hE359 3 (by decide)) an) ?_
          refine r_not (wn_f rfl rfl (by decide) rfl hb195) ?_
          exact r_nil (n_lp ⟨_, rfl, undef, rfl, H362⟩)
        · intro η194 wd369 Δ370 hE365 hR366 hA367 H368
          refine sp_op [(21, .bool (decide (v30 > a_)))] (ac (hE365 3 (by decide)) an) ?_
          refine r_not (wn_f rfl rfl (by decide) rfl hb195) ?_
          exact r_nil (n_lp ⟨_, rfl, undef, rfl, H368⟩)
        · intro η194 wd375 Δ376 hE371 hR372 hA373 H374
          refine sp_op [(21, .bool (decide (v30 > a_)))] (ac (hE371 3 (by decide)) an) ?_
          refine r_not (wn_f rfl rfl (by decide) rfl hb195) ?_
          exact r_nil (n_lp ⟨_, rfl, undef, rfl, H374⟩)
        · intro η194 wd381 Δ382 hE377 hR378 hA379 H380
          refine sp_op [(21, .bool (decide (v30 > a_)))] (ac (hE377 3 (by decide)) an) ?_
          refine r_not (wn_f rfl rfl (by decide) rfl hb195) ?_
          exact r_nil (n_lp ⟨_, rfl, undef, rfl, H380⟩)
        · intro η194 wd387 Δ388 hE383 hR384 hA385 H386
          refine sp_op [(21, .bool (decide (v30 > a_)))] (ac (hE383 3 (by decide)) an) ?_
          refine r_not (wn_f rfl rfl (by decide) rfl hb195) ?_
          exact r_nil (n_lp ⟨_, rfl, undef, rfl, H386⟩)
        · intro η194 wd393 Δ394 hE389 hR390 hA391 H392
          refine sp_op [(21, .bool (decide (v30 > a_)))] (ac (hE389 3 (by decide)) an) ?_
          refine r_not (wn_f rfl rfl (by decide) rfl hb195) ?_
          exact r_nil (n_lp ⟨_, rfl, undef, rfl, H392⟩)
        · intro η194 wd399 Δ400 hE395 hR396 hA397 H398
          refine sp_op [(21, .bool (decide (v30 > a_)))] (ac (hE395 3 (by decide)) an) ?_
          refine r_not (wn_f rfl rfl (by decide) rfl hb195) ?_
          exact r_nil (n_lp ⟨_, rfl, undef, rfl, H398⟩)
        · intro η194 wd405 Δ406 hE401 hR402 hA403 H404
          refine sp_op [(21, .bool (decide (v30 > a_)))] (ac (hE401 3 (by decide)) an) ?_
          refine r_not (wn_f rfl rfl (by decide) rfl hb195) ?_
          exact r_nil (n_lp ⟨_, rfl, undef, rfl, H404⟩)
        · intro η194 wd411 Δ412 hE407 hR408 hA409 H410
          refine sp_op [(21, .bool (decide (v30 > a_)))] (ac (hE407 3 (by decide)) an) ?_
          refine r_not (wn_f rfl rfl (by decide) rfl hb195) ?_
          exact r_nil (n_lp ⟨_, rfl, undef, rfl, H410⟩)
        · intro η194 wd417 Δ418 hE413 hR414 hA415 H416
          refine sp_op [(21, .bool (decide (v30 > a_)))] (ac (hE413 3 (by decide)) an) ?_
          refine r_not (wn_f rfl rfl (by decide) rfl hb195) ?_
          exact r_nil (n_lp ⟨_, rfl, undef, rfl, H416⟩)
        · intro η194 wd423 Δ424 hE419 hR420 hA421 H422
          refine sp_op [(21, .bool (decide (v30 > a_)))] (ac (hE419 3 (by decide)) an) ?_
          refine r_not (wn_f rfl rfl (by decide) rfl hb195) ?_
          exact r_nil (n_lp ⟨_, rfl, undef, rfl, H422⟩)
        · intro η194 wd429 Δ430 hE425 hR426 hA427 H428
          refine sp_op [(21, .bool (decide (v30 > a_))), (33, undef)] (ac (hE425 3 (by decide)) (ac (hE425 15 (by decide)) an)) ?_
          refine r_pick_f (.bool false) hb195 rfl rfl ?_
          exact r_nil (n_lp ⟨_, rfl, undef, rfl, H428⟩)
        · intro η194 wd432 hV433 H431
          have H434 : Hp w0 (Row K38 (.slice A1 data.length c2) xs29 :: Γ) wd432 := H431
          refine n_frame [(0, .slice A1 data.length c2), (1, .int .i64 a_), (2, .int .i64 b_), (3, .func (.func gf6) #[] (List.toArray gcap7)), (8, .int .i64 v13), (9, .int .i64 v30), (34, .bool false)] (ac rfl (ac rfl (ac rfl (ac rfl (ac rfl (ac rfl (ac (hV433 16 rfl) an))))))) ?_
          refine n_cut ⟨false, upk (ac rfl (ac rfl (ac rfl (ac rfl (ac rfl (ac rfl (ac rfl an))))))), H434, hm⟩
    · rintro ρ w ⟨q43, ⟨base, rfl⟩, H44, hm⟩
      unfold slices_insertionSortCmpFunc_cross_Row.j1 at hm
      rcases ite_some hm with ⟨hb45, hm⟩ | ⟨hb45, hm⟩
      · refine st_condt hb45 rfl ?_
        refine st_skip ?_
        refine n_sq ?_
        refine st_seq ?_
        refine st_block ?_
        obtain ⟨⟨h047, h148⟩, hm⟩ := gd_some hm
        have hj49 := rd_get h047 h148
        obtain ⟨⟨h051, h152⟩, hm⟩ := gd_some hm
        have hj53 := rd_get h051 h152
        obtain ⟨⟨h056, h157⟩, hm⟩ := gd_some hm
        have hj58 := rd_get h056 h157
        refine Flow.run' RA35_6 RW35_6 [(fun η46 v => v.1 = .slice A1 data.length c2), (fun η46 v => v.1 = .int .i64 v30), (fun η46 v => v.1 = .slice A1 data.length c2), (fun η46 v => v.1 = .int .i64 v30), (fun η46 v => v.1 = .int .i64 (w64 (v30 - 1))), (fun η46 v => v.1 = .slice A1 data.length c2), (fun η46 v => v.1 = .int .i64 v30), (fun η46 v => v.1 = .int .i64 (w64 (v30 - 1))), (fun η46 v => v.1 = .pointer (some ((oA A1).add (Int.toNat (w64 (v30 - 1)) * 3)))), (fun η46 v => v.1 = .agg #[.string ((rd xs29 (w64 (v30 - 1))).Seller), .string ((rd xs29 (w64 (v30 - 1))).Buyer), .int .i64 ((rd xs29 (w64 (v30 - 1))).Amount)]), (fun η46 v => v.1 = .slice A1 data.length c2), (fun η46 v => v.1 = .int .i64 v30), (fun η46 v => v.1 = .pointer (some ((oA A1).add (Int.toNat v30 * 3)))), (fun η46 v => v.1 = .agg #[.string ((rd xs29 v30).Seller), .string ((rd xs29 v30).Buyer), .int .i64 ((rd xs29 v30).Amount)]), (fun η46 v => v.1 = .pointer (some ((oA A1).add (Int.toNat v30 * 3)))), (fun _ _ => True), (fun η46 v => v.1 = .pointer (some ((oA A1).add (Int.toNat (w64 (v30 - 1)) * 3)))), (fun _ _ => True)] [⟨none, (some 15), fun η46 => Row K38 (.slice A1 data.length c2) xs29⟩, ⟨(some 15), (some 17), fun η46 => Row K38 (.slice A1 data.length c2) (xs29.set (Int.toNat v30) (rd xs29 (w64 (v30 - 1))))⟩, ⟨(some 17), none, fun η46 => Row K38 (.slice A1 data.length c2) ((xs29.set (Int.toNat v30) (rd xs29 (w64 (v30 - 1)))).set (Int.toNat (w64 (v30 - 1))) (rd xs29 v30))⟩] rfl (by kernel_rfl) (by kernel_rfl) H44 ⟨?_, ?_, ?_, ?_, ?_, ?_, ?_, ?_, ?_, ?_, ?_, ?_, ?_, ?_, ?_, ?_, ?_, ?_, trivial⟩ ?_
        · intro η46 wd65 Δ66 hE61 hR62 hA63 H64
          refine sp_op [(0, .slice A1 data.length c2)] (ac rfl an) ?_
          refine r_pure (.slice A1 data.length c2) rfl ?_
          exact r_nil (n_lp ⟨_, rfl, undef, rfl, H64⟩)
        · intro η46 wd71 Δ72 hE67 hR68 hA69 H70
          refine sp_op [(9, .int .i64 v30)] (ac rfl an) ?_
          refine r_pure (.int .i64 v30) rfl ?_
          exact r_nil (n_lp ⟨_, rfl, undef, rfl, H70⟩)
        · intro η46 wd77 Δ78 hE73 hR74 hA75 H76
          refine sp_op [(0, .slice A1 data.length c2)] (ac rfl an) ?_
          refine r_pure (.slice A1 data.length c2) rfl ?_
          exact r_nil (n_lp ⟨_, rfl, undef, rfl, H76⟩)
        · intro η46 wd83 Δ84 hE79 hR80 hA81 H82
          refine sp_op [(9, .int .i64 v30)] (ac rfl an) ?_
          refine r_pure (.int .i64 v30) rfl ?_
          exact r_nil (n_lp ⟨_, rfl, undef, rfl, H82⟩)
        · intro η46 wd89 Δ90 hE85 hR86 hA87 H88
          refine sp_op [(40, .int .i64 v30)] (ac (hE85 3 (by decide)) an) ?_
          refine r_pure (.int .i64 (w64 (v30 - 1))) rfl ?_
          exact r_nil (n_lp ⟨_, rfl, undef, rfl, H88⟩)
        · intro η46 wd95 Δ96 hE91 hR92 hA93 H94
          refine sp_op [(0, .slice A1 data.length c2)] (ac rfl an) ?_
          refine r_pure (.slice A1 data.length c2) rfl ?_
          exact r_nil (n_lp ⟨_, rfl, undef, rfl, H94⟩)
        · intro η46 wd101 Δ102 hE97 hR98 hA99 H100
          refine sp_op [(9, .int .i64 v30)] (ac rfl an) ?_
          refine r_pure (.int .i64 v30) rfl ?_
          exact r_nil (n_lp ⟨_, rfl, undef, rfl, H100⟩)
        · intro η46 wd107 Δ108 hE103 hR104 hA105 H106
          refine sp_op [(43, .int .i64 v30)] (ac (hE103 6 (by decide)) an) ?_
          refine r_pure (.int .i64 (w64 (v30 - 1))) rfl ?_
          exact r_nil (n_lp ⟨_, rfl, undef, rfl, H106⟩)
        · intro η46 wd113 Δ114 hE109 hR110 hA111 H112
          have H112 : Hp w0 ((Δ114 ++ Γ)) wd113 := H112
          refine sp_op [(42, .slice A1 data.length c2), (44, .int .i64 (w64 (v30 - 1)))] (ac (hE109 5 (by decide)) (ac (hE109 7 (by decide)) an)) ?_
          have hA118 := ((show (Row K38 (.slice A1 data.length c2) xs29) _ from (H112).memr (hR110 _ (List.mem_of_getElem? (i := 0) rfl) rfl)).rd).adO hj49
          refine r_ix IX34 rfl rfl hA118 h047 (by have h1_ := ((show (Row K38 (.slice A1 data.length c2) xs29) _ from (H112).memr (hR110 _ (List.mem_of_getElem? (i := 0) rfl) rfl))).leneq; have h2_ := h148; rw [← h1_] at h2_; exact h2_) ?_
          exact r_nil (n_lp ⟨_, rfl, undef, rfl, H112⟩)
        · intro η46 wd123 Δ124 hE119 hR120 hA121 H122
          have H122 : Hp w0 ((Δ124 ++ Γ)) wd123 := H122
          refine sp_op [(45, .pointer (some ((oA A1).add (Int.toNat (w64 (v30 - 1)) * 3))))] (ac (hE119 8 (by decide)) an) ?_
          have hA125 := ((show (Row K38 (.slice A1 data.length c2) xs29) _ from (H122).memr (hR120 _ (List.mem_of_getElem? (i := 0) rfl) rfl)).rd).adO hj49
          refine r_ldA [.string ((rd xs29 (w64 (v30 - 1))).Seller), .string ((rd xs29 (w64 (v30 - 1))).Buyer), .int .i64 ((rd xs29 (w64 (v30 - 1))).Amount)] LD38 rfl rfl (((show (Row K38 (.slice A1 data.length c2) xs29) _ from (H122).memr (hR120 _ (List.mem_of_getElem? (i := 0) rfl) rfl)).rd).csA hA125 hj49) ?_
          exact r_nil (n_lp ⟨_, rfl, undef, rfl, H122⟩)
        · intro η46 wd130 Δ131 hE126 hR127 hA128 H129
          refine sp_op [(0, .slice A1 data.length c2)] (ac rfl an) ?_
          refine r_pure (.slice A1 data.length c2) rfl ?_
          exact r_nil (n_lp ⟨_, rfl, undef, rfl, H129⟩)
        · intro η46 wd136 Δ137 hE132 hR133 hA134 H135
          refine sp_op [(9, .int .i64 v30)] (ac rfl an) ?_
          refine r_pure (.int .i64 v30) rfl ?_
          exact r_nil (n_lp ⟨_, rfl, undef, rfl, H135⟩)
        · intro η46 wd142 Δ143 hE138 hR139 hA140 H141
          have H141 : Hp w0 ((Δ143 ++ Γ)) wd142 := H141
          refine sp_op [(47, .slice A1 data.length c2), (48, .int .i64 v30)] (ac (hE138 10 (by decide)) (ac (hE138 11 (by decide)) an)) ?_
          have hA147 := ((show (Row K38 (.slice A1 data.length c2) xs29) _ from (H141).memr (hR139 _ (List.mem_of_getElem? (i := 0) rfl) rfl)).rd).adO hj53
          refine r_ix IX34 rfl rfl hA147 h051 (by have h1_ := ((show (Row K38 (.slice A1 data.length c2) xs29) _ from (H141).memr (hR139 _ (List.mem_of_getElem? (i := 0) rfl) rfl))).leneq; have h2_ := h152; rw [← h1_] at h2_; exact h2_) ?_
          exact r_nil (n_lp ⟨_, rfl, undef, rfl, H141⟩)
        · intro η46 wd152 Δ153 hE148 hR149 hA150 H151
          have H151 : Hp w0 ((Δ153 ++ Γ)) wd152 := H151
          refine sp_op [(49, .pointer (some ((oA A1).add (Int.toNat v30 * 3))))] (ac (hE148 12 (by decide)) an) ?_
          have hA154 := ((show (Row K38 (.slice A1 data.length c2) xs29) _ from (H151).memr (hR149 _ (List.mem_of_getElem? (i := 0) rfl) rfl)).rd).adO hj53
          refine r_ldA [.string ((rd xs29 v30).Seller), .string ((rd xs29 v30).Buyer), .int .i64 ((rd xs29 v30).Amount)] LD38 rfl rfl (((show (Row K38 (.slice A1 data.length c2) xs29) _ from (H151).memr (hR149 _ (List.mem_of_getElem? (i := 0) rfl) rfl)).rd).csA hA154 hj53) ?_
          exact r_nil (n_lp ⟨_, rfl, undef, rfl, H151⟩)
        · intro η46 wd159 Δ160 hE155 hR156 hA157 H158
          have H158 : Hp w0 ((Δ160 ++ Γ)) wd159 := H158
          refine sp_op [(37, .slice A1 data.length c2), (38, .int .i64 v30)] (ac (hE155 0 (by decide)) (ac (hE155 1 (by decide)) an)) ?_
          have hA161 := ((show (Row K38 (.slice A1 data.length c2) xs29) _ from (H158).memr (hR156 _ (List.mem_of_getElem? (i := 0) rfl) rfl)).rd).adO hj53
          refine r_ix IX34 rfl rfl hA161 h051 (by have h1_ := ((show (Row K38 (.slice A1 data.length c2) xs29) _ from (H158).memr (hR156 _ (List.mem_of_getElem? (i := 0) rfl) rfl))).leneq; have h2_ := h152; rw [← h1_] at h2_; exact h2_) ?_
          exact r_nil (n_lp ⟨_, rfl, undef, rfl, H158⟩)
        · intro η46 wd166 Δ167 hE162 hR163 hA164 H165
          have H165 : Hp w0 (Row K38 (.slice A1 data.length c2) xs29 :: (Δ167 ++ Γ)) wd166 := H165
          refine sp_op [(46, .agg #[.string ((rd xs29 (w64 (v30 - 1))).Seller), .string ((rd xs29 (w64 (v30 - 1))).Buyer), .int .i64 ((rd xs29 (w64 (v30 - 1))).Amount)]), (51, .pointer (some ((oA A1).add (Int.toNat v30 * 3))))] (ac (hE162 9 (by decide)) (ac (hE162 14 (by decide)) an)) ?_
          have hA170 := (H165.g0.rd).adO hj53
          refine r_stxA (K := K38) ((rd xs29 (w64 (v30 - 1)))) hA170 LD38 rfl rfl rfl rfl H165 (by have h1_ := h051; have h2_ := h152; first | omega | (simp only [List.length_set] at h1_ h2_ ⊢; omega)) ?_
          intro wd169 H168
          exact r_nil (n_lp ⟨_, rfl, (.tuple #[.slice A1 data.length c2]), trivial, H168⟩)
        · intro η46 wd175 Δ176 hE171 hR172 hA173 H174
          have H174 : Hp w0 ((Δ176 ++ Γ)) wd175 := H174
          refine sp_op [(39, .slice A1 data.length c2), (41, .int .i64 (w64 (v30 - 1)))] (ac (hE171 2 (by decide)) (ac (hE171 4 (by decide)) an)) ?_
          have hA180 := ((show (Row K38 (.slice A1 data.length c2) (xs29.set (Int.toNat v30) (rd xs29 (w64 (v30 - 1))))) _ from (H174).memr (hR172 _ (List.mem_of_getElem? (i := 1) rfl) rfl)).rd).adO hj58
          refine r_ix IX34 rfl rfl hA180 h056 (by have h1_ := ((show (Row K38 (.slice A1 data.length c2) (xs29.set (Int.toNat v30) (rd xs29 (w64 (v30 - 1))))) _ from (H174).memr (hR172 _ (List.mem_of_getElem? (i := 1) rfl) rfl))).leneq; have h2_ := h157; rw [← h1_] at h2_; exact h2_) ?_
          exact r_nil (n_lp ⟨_, rfl, undef, rfl, H174⟩)
        · intro η46 wd185 Δ186 hE181 hR182 hA183 H184
          have H184 : Hp w0 (Row K38 (.slice A1 data.length c2) (xs29.set (Int.toNat v30) (rd xs29 (w64 (v30 - 1)))) :: (Δ186 ++ Γ)) wd185 := H184
          refine sp_op [(50, .agg #[.string ((rd xs29 v30).Seller), .string ((rd xs29 v30).Buyer), .int .i64 ((rd xs29 v30).Amount)]), (52, .pointer (some ((oA A1).add (Int.toNat (w64 (v30 - 1)) * 3))))] (ac (hE181 13 (by decide)) (ac (hE181 16 (by decide)) an)) ?_
          have hA189 := (H184.g0.rd).adO hj58
          refine r_stxA (K := K38) ((rd xs29 v30)) hA189 LD38 rfl rfl rfl rfl H184 (by have h1_ := h056; have h2_ := h157; first | omega | (simp only [List.length_set] at h1_ h2_ ⊢; omega)) ?_
          intro wd188 H187
          exact r_nil (n_lp ⟨_, rfl, (.tuple #[.slice A1 data.length c2]), trivial, H187⟩)
        · intro η46 wd191 hV192 H190
          have H193 : Hp w0 (Row K38 (.slice A1 data.length c2) ((xs29.set (Int.toNat v30) (rd xs29 (w64 (v30 - 1)))).set (Int.toNat (w64 (v30 - 1))) (rd xs29 v30)) :: Γ) wd191 := H190
          refine n_frame [(0, .slice A1 data.length c2), (1, .int .i64 a_), (2, .int .i64 b_), (3, .func (.func gf6) #[] (List.toArray gcap7)), (8, .int .i64 v13), (9, .int .i64 v30)] (ac rfl (ac rfl (ac rfl (ac rfl (ac rfl (ac rfl an)))))) ?_
          refine n_bl ?_
          refine n_sq ?_
          refine st_region ?_
          refine r_pure (.int .i64 v30) rfl ?_
          refine r_pure (.int .i64 (w64 (v30 - 1))) rfl ?_
          refine r_pure (.int .i64 (w64 (v30 - 1))) rfl ?_
          refine r_nil ?_
          refine n_round (IH42 _ _ _ ⟨(xs29.set (Int.toNat v30) (rd xs29 (w64 (v30 - 1)))).set (Int.toNat (w64 (v30 - 1))) (rd xs29 v30), w64 (v30 - 1), rfl, upk (ac rfl (ac rfl (ac rfl (ac rfl (ac rfl (ac rfl an)))))), H193⟩ hm)
      · refine st_condf hb45 rfl ?_
        have hq_ := Option.some.inj hm
        refine st_exit rfl ?_
        subst hq_
        refine n_bl ?_
        refine n_sq ?_
        refine st_region ?_
        refine r_pure (.int .i64 v13) rfl ?_
        refine r_pure (.int .i64 (w64 (v13 + 1))) rfl ?_
        refine r_pure (.int .i64 (w64 (v13 + 1))) rfl ?_
        refine r_nil ?_
        refine n_round (IH25 _ _ _ ⟨xs29, w64 (v13 + 1), rfl, upk (ac rfl (ac rfl (ac rfl (ac rfl (ac rfl an))))), H44⟩ hm32)
  · refine st_condf hb26 rfl ?_
    have hq_ := Option.some.inj hm
    refine st_exit rfl ?_
    subst hq_
    have hq_ := Option.some.inj hm15
    subst hq_
    refine n_fin0 rfl ?_
    exact ⟨rfl, H14⟩

set_option maxHeartbeats 2000000 in
theorem slices_pdqsortCmpFunc_cross_Row_ok {w0 w : World} {Γ : List (World → Prop)} (data : List cross_Row) (A1 : Option Addr) (n3 c2 : Nat) (a_ : Int) (b_ : Int) (limit : Int) (fv4 : Value) (cmp : (cross_Row × cross_Row) → Option Int) (hp5 : FnOk Try.prog w0 Γ fv4 (fun x => [.agg #[.string x.1.Seller, .string x.1.Buyer, .int .i64 x.1.Amount], .agg #[.string x.2.Seller, .string x.2.Buyer, .int .i64 x.2.Amount]]) (fun r => .int .i64 r) cmp) (r0_ : List cross_Row) (H : Hp w0 (Row K38 (.slice A1 n3 c2) data :: Γ) w) (hm : slices_pdqsortCmpFunc_cross_Row data a_ b_ limit cmp = some r0_) : Calls Try.prog 30 #[.slice A1 n3 c2, .int .i64 a_, .int .i64 b_, .int .i64 limit, fv4] w (fun e w => e = .returned (.tuple #[]) ∧ Hp w0 (Row K38 (.slice A1 n3 c2) r0_ :: Γ) w) := by
  obtain ⟨gf6, gcap7, rfl, ge8, gp9⟩ := hp5
  obtain rfl := (H.g0).leneq
  unfold slices_pdqsortCmpFunc_cross_Row at hm
  refine st_enter Try.func30 rfl Try.ntmps30 (Nat.le_of_ble_eq_true rfl) ?_
  refine st_seq ?_
  refine st_region ?_
  refine r_pure (.bool true) rfl ?_
  refine r_seq ?_
  refine st_seq ?_
  refine st_region ?_
  refine r_pure (.bool true) rfl ?_
  refine r_seq ?_
  refine st_block ?_
  obtain ⟨tl12, hl13, hm11⟩ := bind_some hm
  refine st_loopF (slices_pdqsortCmpFunc_cross_Row.l1 b_ a_ data cmp) (fun s ρ w => () = s ∧ (∃ base, ρ = updl base [(0, .slice A1 data.length c2), (1, .int .i64 a_), (2, .int .i64 b_), (3, .int .i64 limit), (4, .func (.func gf6) #[] (List.toArray gcap7)), (10, .bool true), (11, .bool true)]) ∧ Hp w0 (Row K38 (.slice A1 data.length c2) data :: Γ) w) hl13 (fun _ => rfl) ⟨rfl, upk (ac rfl (ac rfl (ac rfl (ac rfl (ac rfl (ac rfl (ac rfl an))))))), H⟩ ?_
  rintro fuel19 IH21 s ρ w ⟨rfl, ⟨base, rfl⟩, H10⟩ hm
  rw [slices_pdqsortCmpFunc_cross_Row.l1] at hm
  refine st_block ?_
  refine st_seq ?_
  refine st_region ?_
  refine r_pure (.int .i64 b_) rfl ?_
  refine r_pure (.int .i64 a_) rfl ?_
  refine r_pure (.int .i64 (w64 (b_ - a_))) rfl ?_
  refine r_pure (.int .i64 (w64 (b_ - a_))) rfl ?_
  refine r_seq ?_
  refine st_seq ?_
  refine st_seq ?_
  refine st_region ?_
  refine r_pure (.int .i64 (w64 (b_ - a_))) rfl ?_
  refine r_pure (.bool (decide (w64 (b_ - a_) ≤ 12))) rfl ?_
  refine r_seq ?_
  rcases ite_some hm with ⟨hb22, hm⟩ | ⟨hb22, hm⟩
  · refine st_condt hb22 rfl ?_
    refine st_seq ?_
    refine st_region ?_
    refine r_pure (.slice A1 data.length c2) rfl ?_
    refine r_pure (.int .i64 a_) rfl ?_
    refine r_pure (.int .i64 b_) rfl ?_
    refine r_pure (.func (.func gf6) #[] (List.toArray gcap7)) rfl ?_
    obtain ⟨y23, hy24, hm⟩ := bind_some hm
    refine r_callf Try.call35 (slices_insertionSortCmpFunc_cross_Row_ok data A1 data.length c2 a_ b_ (.func (.func gf6) #[] (List.toArray gcap7)) cmp ⟨gf6, gcap7, rfl, ge8, fun x y hy Δ w H hΔ => gp9 x y hy Δ w H (fun u hu => (hΔ u hu))⟩ y23 H10 hy24) ?_
    rintro e26 wd25 ⟨rfl, H28⟩
    refine ⟨_, rfl, ?_⟩
    refine r_seq ?_
    have hq_ := Option.some.inj hm
    subst hq_
    have hq_ := Option.some.inj (show some (y23 : (List cross_Row)) = some r0_ from hm11)
    subst hq_
    refine st_ret0 rfl rfl ?_
    exact ⟨rfl, H28⟩
  · cases hm

set_option maxHeartbeats 2000000 in
theorem slices_SortFunc_cross_Row_ok {w0 w : World} {Γ : List (World → Prop)} (x_ : List cross_Row) (A1 : Option Addr) (n3 c2 : Nat) (fv4 : Value) (cmp : (cross_Row × cross_Row) → Option Int) (hp5 : FnOk Try.prog w0 Γ fv4 (fun x => [.agg #[.string x.1.Seller, .string x.1.Buyer, .int .i64 x.1.Amount], .agg #[.string x.2.Seller, .string x.2.Buyer, .int .i64 x.2.Amount]]) (fun r => .int .i64 r) cmp) (r0_ : List cross_Row) (H : Hp w0 (Row K38 (.slice A1 n3 c2) x_ :: Γ) w) (hm : slices_SortFunc_cross_Row x_ cmp = some r0_) : Calls Try.prog 21 #[.slice A1 n3 c2, fv4] w (fun e w => e = .returned (.tuple #[]) ∧ Hp w0 (Row K38 (.slice A1 n3 c2) r0_ :: Γ) w) := by
  obtain ⟨gf6, gcap7, rfl, ge8, gp9⟩ := hp5
  obtain rfl := (H.g0).leneq
  unfold slices_SortFunc_cross_Row at hm
  refine st_enter Try.func21 rfl Try.ntmps21 (Nat.le_of_ble_eq_true rfl) ?_
  refine st_seq ?_
  refine st_region ?_
  refine r_pure (.slice A1 x_.length c2) rfl ?_
  refine r_len Try.underlying34 rfl ?_
  refine r_pure (.int .i64 (x_.length : Int)) rfl ?_
  refine r_seq ?_
  refine st_region ?_
  refine r_pure (.slice A1 x_.length c2) rfl ?_
  refine r_pure (.int .i64 (x_.length : Int)) rfl ?_
  refine r_pure (.int .i64 (x_.length : Int)) rfl ?_
  refine r_conv Try.underlying3 Try.underlying68 rfl ?_
  obtain ⟨y10, hy11, hm⟩ := bind_some hm
  refine r_callf Try.call31 (math_bits_Len_ok (IntKind.u64.wrap (x_.length : Int)) y10 H hy11) ?_
  rintro e13 wd12 ⟨rfl, H15⟩
  refine ⟨_, rfl, ?_⟩
  refine r_pure (.func (.func gf6) #[] (List.toArray gcap7)) rfl ?_
  obtain ⟨y16, hy17, hm⟩ := bind_some hm
  refine r_callf Try.call30 (slices_pdqsortCmpFunc_cross_Row_ok x_ A1 x_.length c2 0 (x_.length : Int) y10 (.func (.func gf6) #[] (List.toArray gcap7)) cmp ⟨gf6, gcap7, rfl, ge8, fun x y hy Δ w H hΔ => gp9 x y hy Δ w H (fun u hu => (hΔ u hu))⟩ y16 H15 hy17) ?_
  rintro e19 wd18 ⟨rfl, H21⟩
  refine ⟨_, rfl, ?_⟩
  refine r_nil ?_
  have hq_ := Option.some.inj hm
  subst hq_
  refine n_fin0 rfl ?_
  exact ⟨rfl, H21⟩

set_option maxHeartbeats 2000000 in
theorem internal_bytealg_CompareString_ok {w0 w : World} {Γ : List (World → Prop)} (a_ : ByteArray) (b_ : ByteArray) (r0_ : Int) (H : Hp w0 (Γ) w) (hm : internal_bytealg_CompareString a_ b_ = some r0_) : Calls Try.prog 32 #[.string a_, .string b_] w (fun e w => e = .returned (.int .i64 r0_) ∧ Hp w0 (Γ) w) := by
  unfold internal_bytealg_CompareString at hm
  refine st_enter Try.func32 rfl Try.ntmps32 (Nat.le_of_ble_eq_true rfl) ?_
  refine st_seq ?_
  refine st_region ?_
  refine r_pure (.int .i64 0) rfl ?_
  refine r_seq ?_
  refine st_seq ?_
  refine st_region ?_
  refine r_pure (.string a_) rfl ?_
  refine r_pure (.string b_) rfl ?_
  refine r_cmps CX45 rfl rfl ?_
  refine r_pure (.int .i64 (scmp a_ b_)) rfl ?_
  refine r_seq ?_
  have hq_ := Option.some.inj hm
  subst hq_
  refine st_ret1 rfl rfl (Nat.le_of_ble_eq_true rfl) rfl ?_
  exact ⟨rfl, H⟩

set_option maxHeartbeats 2000000 in
theorem strings_Compare_ok {w0 w : World} {Γ : List (World → Prop)} (a_ : ByteArray) (b_ : ByteArray) (r0_ : Int) (H : Hp w0 (Γ) w) (hm : strings_Compare a_ b_ = some r0_) : Calls Try.prog 24 #[.string a_, .string b_] w (fun e w => e = .returned (.int .i64 r0_) ∧ Hp w0 (Γ) w) := by
  unfold strings_Compare at hm
  refine st_enter Try.func24 rfl Try.ntmps24 (Nat.le_of_ble_eq_true rfl) ?_
  refine st_seq ?_
  refine st_region ?_
  refine r_pure (.int .i64 0) rfl ?_
  refine r_seq ?_
  refine st_seq ?_
  refine st_region ?_
  refine r_pure (.string a_) rfl ?_
  refine r_pure (.string b_) rfl ?_
  obtain ⟨y1, hy2, hm⟩ := bind_some hm
  refine r_callf Try.call32 (internal_bytealg_CompareString_ok a_ b_ y1 H hy2) ?_
  rintro e4 wd3 ⟨rfl, H6⟩
  refine ⟨_, rfl, ?_⟩
  refine r_pure (.int .i64 y1) rfl ?_
  refine r_seq ?_
  have hq_ := Option.some.inj hm
  subst hq_
  refine st_ret1 rfl rfl (Nat.le_of_ble_eq_true rfl) rfl ?_
  exact ⟨rfl, H6⟩

set_option maxHeartbeats 2000000 in
theorem cmp_Or_int_ok {w0 w : World} {Γ : List (World → Prop)} (vals : List Int) (A1 : Option Addr) (n6 c2 : Nat) (hn5 : n6 = vals.length) (hc3 : vals.length ≤ c2) (hv4 : ∀ u, Hp w0 Γ u → SlR K3 A1 vals u) (r0_ : Int) (H : Hp w0 (Γ) w) (hm : cmp_Or_int vals = some r0_) : Calls Try.prog 23 #[.slice A1 n6 c2] w (fun e w => e = .returned (.int .i64 r0_) ∧ Hp w0 (Γ) w) := by
  subst hn5
  unfold cmp_Or_int at hm
  refine st_enter Try.func23 rfl Try.ntmps23 (Nat.le_of_ble_eq_true rfl) ?_
  refine st_seq ?_
  refine st_region ?_
  refine r_pure (.int .i64 0) rfl ?_
  refine r_seq ?_
  refine st_seq ?_
  refine st_region ?_
  refine r_pure (.int .i64 0) rfl ?_
  refine r_seq ?_
  refine st_seq ?_
  refine st_seq ?_
  refine st_region ?_
  refine r_pure (.slice A1 vals.length c2) rfl ?_
  refine r_len Try.underlying41 rfl ?_
  refine r_pure (.int .i64 0) rfl ?_
  refine r_seq ?_
  refine st_block ?_
  have hlim26 := (hv4 _ H).lim
  obtain ⟨tl9, hl10, hm8⟩ := bind_some hm
  refine st_loopL (cmp_Or_int.l1) (fun ys15 s ρ w => ∃ i11 : Int, ∃ dn12 : List Int, i11 = s ∧ vals = dn12 ++ ys15 ∧ i11 = (dn12.length : Int) ∧ (∃ base, ρ = updl base [(3, .int .i64 0), (6, .slice A1 vals.length c2), (7, .int .i64 (vals.length : Int)), (8, .int .i64 i11)]) ∧ Hp w0 (Γ) w) hl10 ⟨0, [], rfl, rfl, rfl, upk (ac rfl (ac rfl (ac rfl (ac rfl an)))), H⟩ ?_
  rintro m ys15 IH19 s ρ w ⟨i11, dn12, rfl, hxs13, hi14, ⟨base, rfl⟩, H7⟩ hm
  rcases ys15 with _ | ⟨y16, ys15⟩
  · rw [cmp_Or_int.l1] at hm
    have hb20 := range_end hxs13 hi14
    refine st_seq ?_
    refine st_region ?_
    refine r_pure (.bool (decide (i11 < (vals.length : Int)))) rfl ?_
    refine r_seq ?_
    refine st_seq ?_
    refine st_condf hb20 rfl ?_
    have hq_ := Option.some.inj hm
    refine st_exit rfl ?_
    subst hq_
    refine n_sq ?_
    refine st_seq ?_
    refine st_region ?_
    refine r_pure (.int .i64 0) rfl ?_
    refine r_pure (.int .i64 0) rfl ?_
    refine r_seq ?_
    have hq_ := Option.some.inj hm8
    subst hq_
    refine st_ret1 rfl rfl (Nat.le_of_ble_eq_true rfl) rfl ?_
    exact ⟨rfl, H7⟩
  · rw [cmp_Or_int.l1] at hm
    have hb21 := range_in hxs13 hi14
    obtain ⟨h022, h123, hj24⟩ := range_ix hxs13 hi14
    have hnx25 := range_next hxs13 hi14 hlim26
    refine st_seq ?_
    refine st_region ?_
    refine r_pure (.bool (decide (i11 < (vals.length : Int)))) rfl ?_
    refine r_seq ?_
    refine st_seq ?_
    refine st_condt hb21 rfl ?_
    refine st_skip ?_
    refine n_sq ?_
    refine st_seq ?_
    refine st_block ?_
    refine st_seq ?_
    refine st_region ?_
    have hA27 := (hv4 _ H7).adO hj24
    refine r_ix IX41 rfl rfl hA27 h022 h123 ?_
    refine r_ld1 (.int .i64 y16) LD3 rfl ((hv4 _ H7).c0A hA27 hj24 _ rfl) ?_
    refine r_pure (.int .i64 y16) rfl ?_
    refine r_seq ?_
    refine st_seq ?_
    refine st_region ?_
    refine r_pure (.int .i64 y16) rfl ?_
    refine r_pure (.int .i64 0) rfl ?_
    refine r_pure (.bool (y16 != 0)) rfl ?_
    refine r_seq ?_
    rcases ite_some hm with ⟨hb28, hm⟩ | ⟨hb28, hm⟩
    · refine st_condt hb28 rfl ?_
      refine st_seq ?_
      refine st_region ?_
      refine r_pure (.int .i64 y16) rfl ?_
      refine r_pure (.int .i64 y16) rfl ?_
      refine r_seq ?_
      have hq_ := Option.some.inj hm
      subst hq_
      have hq_ := Option.some.inj (show some (y16 : Int) = some r0_ from hm8)
      subst hq_
      refine st_ret1 rfl rfl (Nat.le_of_ble_eq_true rfl) rfl ?_
      exact ⟨rfl, H7⟩
    · refine st_condf hb28 rfl ?_
      refine st_skip ?_
      refine n_bl ?_
      refine n_sq ?_
      refine st_region ?_
      refine r_pure (.int .i64 (w64 (i11 + 1))) rfl ?_
      refine r_pure (.int .i64 (w64 (i11 + 1))) rfl ?_
      refine r_nil ?_
      refine n_round (IH19 _ _ rfl _ _ _ ⟨i11 + 1, dn12 ++ [y16], rfl, range_more hxs13, range_len hi14, upk (ac rfl (ac rfl (ac rfl (ac hnx25 an)))), H7⟩ hm)

set_option maxHeartbeats 2000000 in
theorem cross_Cross_Add_c2_ok {w0 w : World} {Γ : List (World → Prop)} (a_ : cross_Row) (b_ : cross_Row) (r0_ : Int) (H : Hp w0 (Γ) w) (hm : cross_Cross_Add_c2 a_ b_ = some r0_) : Calls Try.prog 22 #[.agg #[.string a_.Seller, .string a_.Buyer, .int .i64 a_.Amount], .agg #[.string b_.Seller, .string b_.Buyer, .int .i64 b_.Amount]] w (fun e w => e = .returned (.int .i64 r0_) ∧ Hp w0 (Γ) w) := by
  unfold cross_Cross_Add_c2 at hm
  refine st_enter Try.func22 rfl Try.ntmps22 (Nat.le_of_ble_eq_true rfl) ?_
  refine st_seq ?_
  refine st_region ?_
  refine r_box [.string a_.Seller, .string a_.Buyer, .int .i64 a_.Amount] H rfl ?_
  intro b1 wd3 H2
  refine r_box [.string b_.Seller, .string b_.Buyer, .int .i64 b_.Amount] H2 rfl ?_
  intro b4 wd6 H5
  refine r_pure (.int .i64 0) rfl ?_
  refine r_seq ?_
  refine st_seq ?_
  obtain ⟨y8, hy9, hm⟩ := bind_some hm
  obtain ⟨y14, hy15, hm⟩ := bind_some hm
  obtain ⟨y23, hy24, hm⟩ := bind_some hm
  refine Flow.run' RA22_1 RW22_1 [(fun η7 v => v.1 = .pointer (some ⟨b1, 0, none⟩)), (fun η7 v => v.1 = .string a_.Seller), (fun η7 v => v.1 = .pointer (some ⟨b4, 0, none⟩)), (fun η7 v => v.1 = .string b_.Seller), (fun η7 v => v.1 = .int .i64 y8), (fun η7 v => v.1 = .pointer (some ⟨b1, 1, none⟩)), (fun η7 v => v.1 = .string a_.Buyer), (fun η7 v => v.1 = .pointer (some ⟨b4, 1, none⟩)), (fun η7 v => v.1 = .string b_.Buyer), (fun η7 v => v.1 = .int .i64 y14), (fun η7 v => v.1 = .slice (some ⟨(oA (vA (v.1))).block, 0, none⟩) 2 2), (fun η7 v => v.1 = .int .i64 y23), (fun η7 v => v.1 = .int .i64 y23)] [⟨(some 10), none, fun η7 => Row K3 (.slice (some ⟨(oA (vA ((η7 10).1))).block, 0, none⟩) 2 2) [y8, y14]⟩] rfl (by kernel_rfl) (by kernel_rfl) H5 ⟨?_, ?_, ?_, ?_, ?_, ?_, ?_, ?_, ?_, ?_, ?_, ?_, ?_, trivial⟩ ?_
  · intro η7 wd33 Δ34 hE29 hR30 hA31 H32
    refine sp_op [(2, .pointer (some ⟨b1, 0, none⟩))] (ac rfl an) ?_
    refine r_fa FA38_0 ⟨b1, 0, none⟩ rfl rfl ?_
    exact r_nil (n_lp ⟨_, rfl, undef, rfl, H32⟩)
  · intro η7 wd39 Δ40 hE35 hR36 hA37 H38
    have H38 : Hp w0 ((Δ40 ++ (Bx b4 38 [.string b_.Seller, .string b_.Buyer, .int .i64 b_.Amount] :: Bx b1 38 [.string a_.Seller, .string a_.Buyer, .int .i64 a_.Amount] :: Γ))) wd39 := H38
    refine sp_op [(5, .pointer (some ⟨b1, 0, none⟩))] (ac (hE35 0 (by decide)) an) ?_
    refine r_ld1 (.string a_.Seller) LD9 rfl (((H38).tl.g1).cell _ rfl) ?_
    exact r_nil (n_lp ⟨_, rfl, undef, rfl, H38⟩)
  · intro η7 wd45 Δ46 hE41 hR42 hA43 H44
    refine sp_op [(3, .pointer (some ⟨b4, 0, none⟩))] (ac rfl an) ?_
    refine r_fa FA38_0 ⟨b4, 0, none⟩ rfl rfl ?_
    exact r_nil (n_lp ⟨_, rfl, undef, rfl, H44⟩)
  · intro η7 wd51 Δ52 hE47 hR48 hA49 H50
    have H50 : Hp w0 ((Δ52 ++ (Bx b4 38 [.string b_.Seller, .string b_.Buyer, .int .i64 b_.Amount] :: Bx b1 38 [.string a_.Seller, .string a_.Buyer, .int .i64 a_.Amount] :: Γ))) wd51 := H50
    refine sp_op [(7, .pointer (some ⟨b4, 0, none⟩))] (ac (hE47 2 (by decide)) an) ?_
    refine r_ld1 (.string b_.Seller) LD9 rfl (((H50).tl.g0).cell _ rfl) ?_
    exact r_nil (n_lp ⟨_, rfl, undef, rfl, H50⟩)
  · intro η7 wd57 Δ58 hE53 hR54 hA55 H56
    have H56 : Hp w0 ((Δ58 ++ (Bx b4 38 [.string b_.Seller, .string b_.Buyer, .int .i64 b_.Amount] :: Bx b1 38 [.string a_.Seller, .string a_.Buyer, .int .i64 a_.Amount] :: Γ))) wd57 := H56
    refine sp_op [(6, .string a_.Seller), (8, .string b_.Seller)] (ac (hE53 1 (by decide)) (ac (hE53 3 (by decide)) an)) ?_
    refine r_callf Try.call24 (strings_Compare_ok a_.Seller b_.Seller y8 H56 hy9) ?_
    rintro e62 wd61 ⟨rfl, H64⟩
    refine ⟨_, rfl, ?_⟩
    exact r_nil (n_lp ⟨_, rfl, undef, rfl, H64⟩)
  · intro η7 wd69 Δ70 hE65 hR66 hA67 H68
    refine sp_op [(2, .pointer (some ⟨b1, 0, none⟩))] (ac rfl an) ?_
    refine r_fa FA38_1 ⟨b1, 1, none⟩ rfl rfl ?_
    exact r_nil (n_lp ⟨_, rfl, undef, rfl, H68⟩)
  · intro η7 wd75 Δ76 hE71 hR72 hA73 H74
    have H74 : Hp w0 ((Δ76 ++ (Bx b4 38 [.string b_.Seller, .string b_.Buyer, .int .i64 b_.Amount] :: Bx b1 38 [.string a_.Seller, .string a_.Buyer, .int .i64 a_.Amount] :: Γ))) wd75 := H74
    refine sp_op [(10, .pointer (some ⟨b1, 1, none⟩))] (ac (hE71 5 (by decide)) an) ?_
    refine r_ld1 (.string a_.Buyer) LD9 rfl (((H74).tl.g1).cell _ rfl) ?_
    exact r_nil (n_lp ⟨_, rfl, undef, rfl, H74⟩)
  · intro η7 wd81 Δ82 hE77 hR78 hA79 H80
    refine sp_op [(3, .pointer (some ⟨b4, 0, none⟩))] (ac rfl an) ?_
    refine r_fa FA38_1 ⟨b4, 1, none⟩ rfl rfl ?_
    exact r_nil (n_lp ⟨_, rfl, undef, rfl, H80⟩)
  · intro η7 wd87 Δ88 hE83 hR84 hA85 H86
    have H86 : Hp w0 ((Δ88 ++ (Bx b4 38 [.string b_.Seller, .string b_.Buyer, .int .i64 b_.Amount] :: Bx b1 38 [.string a_.Seller, .string a_.Buyer, .int .i64 a_.Amount] :: Γ))) wd87 := H86
    refine sp_op [(12, .pointer (some ⟨b4, 1, none⟩))] (ac (hE83 7 (by decide)) an) ?_
    refine r_ld1 (.string b_.Buyer) LD9 rfl (((H86).tl.g0).cell _ rfl) ?_
    exact r_nil (n_lp ⟨_, rfl, undef, rfl, H86⟩)
  · intro η7 wd93 Δ94 hE89 hR90 hA91 H92
    have H92 : Hp w0 ((Δ94 ++ (Bx b4 38 [.string b_.Seller, .string b_.Buyer, .int .i64 b_.Amount] :: Bx b1 38 [.string a_.Seller, .string a_.Buyer, .int .i64 a_.Amount] :: Γ))) wd93 := H92
    refine sp_op [(11, .string a_.Buyer), (13, .string b_.Buyer)] (ac (hE89 6 (by decide)) (ac (hE89 8 (by decide)) an)) ?_
    refine r_callf Try.call24 (strings_Compare_ok a_.Buyer b_.Buyer y14 H92 hy15) ?_
    rintro e98 wd97 ⟨rfl, H100⟩
    refine ⟨_, rfl, ?_⟩
    exact r_nil (n_lp ⟨_, rfl, undef, rfl, H100⟩)
  · intro η7 wd105 Δ106 hE101 hR102 hA103 H104
    have H104 : Hp w0 ((Δ106 ++ (Bx b4 38 [.string b_.Seller, .string b_.Buyer, .int .i64 b_.Amount] :: Bx b1 38 [.string a_.Seller, .string a_.Buyer, .int .i64 a_.Amount] :: Γ))) wd105 := H104
    refine sp_op [(9, .int .i64 y8), (14, .int .i64 y14)] (ac (hE101 4 (by decide)) (ac (hE101 9 (by decide)) an)) ?_
    refine r_buildSlice (K := K3) [y8, y14] EL41 rfl rfl rfl (by decide) (by decide) rfl H104 ?_
    intro b107 wd109 H108
    exact r_nil (n_lp ⟨_, rfl, (.tuple #[.slice (some ⟨b107, 0, none⟩) 2 2]), rfl, H108⟩)
  · intro η7 wd114 Δ115 hE110 hR111 hA112 H113
    have H113 : Hp w0 ((Δ115 ++ (Bx b4 38 [.string b_.Seller, .string b_.Buyer, .int .i64 b_.Amount] :: Bx b1 38 [.string a_.Seller, .string a_.Buyer, .int .i64 a_.Amount] :: Γ))) wd114 := H113
    refine sp_op [(15, .slice (some ⟨(oA (vA ((η7 10).1))).block, 0, none⟩) 2 2)] (ac (hE110 10 (by decide)) an) ?_
    refine r_callf Try.call23 (cmp_Or_int_ok [y8, y14] (some ⟨(oA (vA ((η7 10).1))).block, 0, none⟩) 2 2 rfl (((show (Row K3 (.slice (some ⟨(oA (vA ((η7 10).1))).block, 0, none⟩) 2 2) [y8, y14]) _ from ((H113)).memr (hR111 _ (List.mem_of_getElem? (i := 0) rfl) rfl))).cap) (fun _ H => ((show (Row K3 (.slice (some ⟨(oA (vA ((η7 10).1))).block, 0, none⟩) 2 2) [y8, y14]) _ from (H).memr (hR111 _ (List.mem_of_getElem? (i := 0) rfl) rfl)).rd)) y23 H113 hy24) ?_
    rintro e119 wd118 ⟨rfl, H121⟩
    refine ⟨_, rfl, ?_⟩
    exact r_nil (n_lp ⟨_, rfl, undef, rfl, H121⟩)
  · intro η7 wd126 Δ127 hE122 hR123 hA124 H125
    refine sp_op [(16, .int .i64 y23)] (ac (hE122 11 (by decide)) an) ?_
    refine r_pure (.int .i64 y23) rfl ?_
    exact r_nil (n_lp ⟨_, rfl, undef, rfl, H125⟩)
  · intro η7 wd129 hV130 H128
    have H131 : Hp w0 (Γ) wd129 := H128.d.d.d
    refine n_frame [(4, .int .i64 y23)] (ac (hV130 12 rfl) an) ?_
    refine n_sq ?_
    have hq_ := Option.some.inj hm
    subst hq_
    refine st_ret1 rfl rfl (Nat.le_of_ble_eq_true rfl) rfl ?_
    exact ⟨rfl, H131⟩

set_option maxHeartbeats 2000000 in
theorem cross_Cross_Add_ok {w0 w : World} {Γ : List (World → Prop)} (b1 : Nat) (c_ : cross_Cross) (A2 : Option Addr) (c3 : Nat) (seller : ByteArray) (buyer : ByteArray) (n_ : Int) (r0_ : Int) (r1_ : cross_Cross) (H : Hp w0 (Bx b1 53 [.slice A2 c_.f_l.length c3] :: Row K38 (.slice A2 c_.f_l.length c3) c_.f_l :: Γ) w) (hm : cross_Cross_Add c_ seller buyer n_ = some (r0_, r1_)) : Calls Try.prog 7 #[.pointer (some ⟨b1, 0, none⟩), .string seller, .string buyer, .int .i64 n_] w (fun e w => ∃ (Ax1 : Option Addr) (nx2 cx3 : Nat), e = .returned (.int .i64 r0_) ∧ Hp w0 (Bx b1 53 [.slice Ax1 nx2 cx3] :: Row K38 (.slice Ax1 nx2 cx3) r1_.f_l :: Γ) w) := by
  unfold cross_Cross_Add at hm
  refine st_enter Try.func7 rfl Try.ntmps7 (Nat.le_of_ble_eq_true rfl) ?_
  refine st_seq ?_
  refine st_region ?_
  refine r_box [.string seller] H rfl ?_
  intro b4 wd6 H5
  refine r_box [.string buyer] H5 rfl ?_
  intro b7 wd9 H8
  refine r_pure (.int .i64 0) rfl ?_
  refine r_seq ?_
  refine st_seq ?_
  refine st_cut (fun ρ w => ∃ q10 : Bool, (∃ base, ρ = updl base [(0, .pointer (some ⟨b1, 0, none⟩)), (3, .int .i64 n_), (5, .pointer (some ⟨b4, 0, none⟩)), (6, .pointer (some ⟨b7, 0, none⟩)), (28, .bool q10)]) ∧ Hp w0 (Row K38 (.slice A2 c_.f_l.length c3) c_.f_l :: Bx b1 53 [.slice A2 c_.f_l.length c3] :: Bx b4 9 [.string seller] :: Bx b7 9 [.string buyer] :: Γ) w ∧ cross_Cross_Add.j1 c_ seller buyer n_ q10 = some (r0_, r1_)) ?_ ?_
  · refine st_region ?_
    refine r_ld1 (.string seller) LD9 rfl ((H8.g1).cell _ rfl) ?_
    refine r_pure (.bool ((seller).toList == ((⟨#[]⟩ : ByteArray)).toList)) rfl ?_
    refine r_pure (.bool ((seller).toList == ((⟨#[]⟩ : ByteArray)).toList)) rfl ?_
    rcases ite_some hm with ⟨hb77, hm⟩ | ⟨hb77, hm⟩
    · refine r_not (wn_f rfl rfl (by decide) rfl hb77) ?_
      refine r_not (wn_f rfl rfl (by decide) rfl hb77) ?_
      refine r_pick_t (.bool true) hb77 rfl rfl ?_
      refine r_pure (.bool true) rfl ?_
      refine r_not (wn_f rfl rfl (by decide) rfl rfl) ?_
      refine r_not (wn_f rfl rfl (by decide) rfl rfl) ?_
      refine r_not (wn_f rfl rfl (by decide) rfl rfl) ?_
      refine r_pick_t (.bool true) rfl rfl rfl ?_
      refine r_pure (.bool true) rfl ?_
      refine r_not (wn_f rfl rfl (by decide) rfl rfl) ?_
      refine r_not (wn_f rfl rfl (by decide) rfl rfl) ?_
      refine r_not (wn_f rfl rfl (by decide) rfl rfl) ?_
      refine r_pick_t (.bool true) rfl rfl rfl ?_
      refine r_nil ?_
      refine n_cut ⟨true, upk (ac rfl (ac rfl (ac rfl (ac rfl (ac rfl an))))), H8.u1.u2.u3, hm⟩
    · refine r_ld1 (.string buyer) LD9 rfl ((H8.g0).cell _ rfl) ?_ (wn_t rfl rfl (by decide) rfl hb77)
      refine r_pure (.bool ((buyer).toList == ((⟨#[]⟩ : ByteArray)).toList)) rfl ?_ (wn_t rfl rfl (by decide) rfl hb77)
      refine r_pick_f (.bool ((buyer).toList == ((⟨#[]⟩ : ByteArray)).toList)) hb77 rfl rfl ?_
      refine r_pure (.bool ((buyer).toList == ((⟨#[]⟩ : ByteArray)).toList)) rfl ?_
      rcases ite_some hm with ⟨hb78, hm⟩ | ⟨hb78, hm⟩
      · refine r_not (wn_f rfl rfl (by decide) rfl hb78) ?_
        refine r_not (wn_f rfl rfl (by decide) rfl hb78) ?_
        refine r_not (wn_f rfl rfl (by decide) rfl hb78) ?_
        refine r_pick_t (.bool true) hb78 rfl rfl ?_
        refine r_pure (.bool true) rfl ?_
        refine r_not (wn_f rfl rfl (by decide) rfl rfl) ?_
        refine r_not (wn_f rfl rfl (by decide) rfl rfl) ?_
        refine r_not (wn_f rfl rfl (by decide) rfl rfl) ?_
        refine r_pick_t (.bool true) rfl rfl rfl ?_
        refine r_nil ?_
        refine n_cut ⟨true, upk (ac rfl (ac rfl (ac rfl (ac rfl (ac rfl an))))), H8.u1.u2.u3, hm⟩
      · refine r_ld1 (.string seller) LD9 rfl ((H8.g1).cell _ rfl) ?_ (wn_t rfl rfl (by decide) rfl hb78)
        refine r_ld1 (.string buyer) LD9 rfl ((H8.g0).cell _ rfl) ?_ (wn_t rfl rfl (by decide) rfl hb78)
        refine r_pure (.bool ((seller).toList == (buyer).toList)) rfl ?_ (wn_t rfl rfl (by decide) rfl hb78)
        refine r_pick_f (.bool ((seller).toList == (buyer).toList)) hb78 rfl rfl ?_
        refine r_pure (.bool ((seller).toList == (buyer).toList)) rfl ?_
        rcases ite_some hm with ⟨hb79, hm⟩ | ⟨hb79, hm⟩
        · refine r_not (wn_f rfl rfl (by decide) rfl hb79) ?_
          refine r_not (wn_f rfl rfl (by decide) rfl hb79) ?_
          refine r_not (wn_f rfl rfl (by decide) rfl hb79) ?_
          refine r_pick_t (.bool true) hb79 rfl rfl ?_
          refine r_nil ?_
          refine n_cut ⟨true, upk (ac rfl (ac rfl (ac rfl (ac rfl (ac rfl an))))), H8.u1.u2.u3, hm⟩
        · refine r_pure (.int .i64 n_) rfl ?_ (wn_t rfl rfl (by decide) rfl hb79)
          obtain ⟨y80, hy81, hm⟩ := bind_some hm
          refine r_callf Try.call17 (rate_Money_ok n_ y80 H8 hy81) ?_ (wn_t rfl rfl (by decide) rfl hb79)
          rintro e83 wd82 ⟨rfl, H85⟩
          refine ⟨_, rfl, ?_⟩
          refine r_pure (.bool (!y80)) rfl ?_ (wn_t rfl rfl (by decide) rfl hb79)
          refine r_pick_f (.bool (!y80)) hb79 rfl rfl ?_
          refine r_nil ?_
          refine n_cut ⟨!y80, upk (ac rfl (ac rfl (ac rfl (ac rfl (ac rfl an))))), H85.u1.u2.u3, hm⟩
  · rintro ρ w ⟨q10, ⟨base, rfl⟩, H11, hm⟩
    unfold cross_Cross_Add.j1 at hm
    rcases ite_some hm with ⟨hb12, hm⟩ | ⟨hb12, hm⟩
    · refine st_condt hb12 rfl ?_
      refine st_seq ?_
      refine st_region ?_
      refine r_pure (.int .i64 1) rfl ?_
      refine r_seq ?_
      obtain ⟨rfl, rfl⟩ := some_inj2 hm
      refine st_ret1 rfl rfl (Nat.le_of_ble_eq_true rfl) rfl ?_
      exact ⟨A2, c_.f_l.length, c3, rfl, H11.u2.d.u2.d.u1⟩
    · refine st_condf hb12 rfl ?_
      refine st_skip ?_
      refine n_sq ?_
      refine st_seq ?_
      refine st_region ?_
      refine r_func (.func (.func 18) #[] #[.pointer (some ⟨b4, 0, none⟩), .pointer (some ⟨b7, 0, none⟩)]) rfl ?_
      refine r_pure (.func (.func 18) #[] #[.pointer (some ⟨b4, 0, none⟩), .pointer (some ⟨b7, 0, none⟩)]) rfl ?_
      refine r_seq ?_
      refine st_seq ?_
      refine st_region ?_
      refine r_pure (.int .i64 0) rfl ?_
      refine r_seq ?_
      refine st_cut (fun ρ w => ∃ v13 : Int, (∃ base, ρ = updl base [(0, .pointer (some ⟨b1, 0, none⟩)), (3, .int .i64 n_), (5, .pointer (some ⟨b4, 0, none⟩)), (6, .pointer (some ⟨b7, 0, none⟩)), (9, .func (.func 18) #[] #[.pointer (some ⟨b4, 0, none⟩), .pointer (some ⟨b7, 0, none⟩)]), (10, .int .i64 v13)]) ∧ Hp w0 (Row K38 (.slice A2 c_.f_l.length c3) c_.f_l :: Bx b1 53 [.slice A2 c_.f_l.length c3] :: Bx b4 9 [.string seller] :: Bx b7 9 [.string buyer] :: Γ) w ∧ cross_Cross_Add.j2 n_ c_ seller buyer v13 = some (r0_, r1_)) ?_ ?_
      · refine st_seq ?_
        refine st_region ?_
        refine r_pure (.pointer (some ⟨b1, 0, none⟩)) rfl ?_
        refine r_pure (.pointer (some ⟨b1, 0, none⟩)) rfl ?_
        refine r_fa FA53_0 ⟨b1, 0, none⟩ rfl rfl ?_
        refine r_ld1 (.slice A2 c_.f_l.length c3) LD34 rfl ((H11.g1).cell _ rfl) ?_
        refine r_pure (.func (.func 18) #[] #[.pointer (some ⟨b4, 0, none⟩), .pointer (some ⟨b7, 0, none⟩)]) rfl ?_
        obtain ⟨y66, hy67, hm⟩ := bind_some hm
        refine r_callf Try.call19 (slices_IndexFunc_cross_Row_ok c_.f_l A2 c_.f_l.length c3 rfl (((H11).g0).cap) (fun _ H => (H.g0.rd)) (.func (.func 18) #[] #[.pointer (some ⟨b4, 0, none⟩), .pointer (some ⟨b7, 0, none⟩)]) (fun x => cross_Cross_Add_c1 x seller buyer) ⟨18, [.pointer (some ⟨b4, 0, none⟩), .pointer (some ⟨b7, 0, none⟩)], rfl, Try.call18, fun x y hy Δ w H hΔ => cross_Cross_Add_c1_ok x b4 seller (fun _ H => ((hΔ _ H).g2)) b7 buyer (fun _ H => ((hΔ _ H).g3)) y H hy⟩ y66 H11 hy67) ?_
        rintro e69 wd68 ⟨rfl, H71⟩
        refine ⟨_, rfl, ?_⟩
        refine r_pure (.int .i64 y66) rfl ?_
        refine r_seq ?_
        refine st_seq ?_
        refine st_region ?_
        refine r_pure (.int .i64 y66) rfl ?_
        refine r_pure (.bool (decide (y66 ≥ 0))) rfl ?_
        refine r_seq ?_
        rcases ite_some hm with ⟨hb72, hm⟩ | ⟨hb72, hm⟩
        · refine st_condt hb72 rfl ?_
          refine st_region ?_
          refine r_pure (.pointer (some ⟨b1, 0, none⟩)) rfl ?_
          refine r_pure (.pointer (some ⟨b1, 0, none⟩)) rfl ?_
          refine r_fa FA53_0 ⟨b1, 0, none⟩ rfl rfl ?_
          refine r_ld1 (.slice A2 c_.f_l.length c3) LD34 rfl ((H71.g1).cell _ rfl) ?_
          refine r_pure (.int .i64 y66) rfl ?_
          obtain ⟨⟨h073, h174⟩, hm⟩ := gd_some hm
          have hj75 := rd_get h073 h174
          have hA76 := (H71.g0.rd).adO hj75
          refine r_ix IX34 rfl rfl hA76 h073 h174 ?_
          refine r_fa FA38_2 (((oA A2).add (Int.toNat y66 * 3)).add 2) rfl rfl ?_
          refine r_ld1 (.int .i64 ((rd c_.f_l y66).Amount)) LD3 rfl ((H71.g0.rd).cA hA76 hj75 2 _ rfl) ?_
          refine r_pure (.int .i64 ((rd c_.f_l y66).Amount)) rfl ?_
          refine r_nil ?_
          refine n_cut ⟨(rd c_.f_l y66).Amount, upk (ac rfl (ac rfl (ac rfl (ac rfl (ac rfl (ac rfl an)))))), H71.u3.u3.u3.u3, hm⟩
        · refine st_condf hb72 rfl ?_
          refine st_skip ?_
          refine n_cut ⟨0, upk (ac rfl (ac rfl (ac rfl (ac rfl (ac rfl (ac rfl an)))))), H71.u3.u3.u3.u3, hm⟩
      · rintro ρ w ⟨v13, ⟨base, rfl⟩, H14, hm⟩
        unfold cross_Cross_Add.j2 at hm
        refine st_seq ?_
        refine st_cut (fun ρ w => ∃ q15 : Bool, (∃ base, ρ = updl base [(0, .pointer (some ⟨b1, 0, none⟩)), (3, .int .i64 n_), (5, .pointer (some ⟨b4, 0, none⟩)), (6, .pointer (some ⟨b7, 0, none⟩)), (9, .func (.func 18) #[] #[.pointer (some ⟨b4, 0, none⟩), .pointer (some ⟨b7, 0, none⟩)]), (10, .int .i64 v13), (56, .bool q15)]) ∧ Hp w0 (Row K38 (.slice A2 c_.f_l.length c3) c_.f_l :: Bx b1 53 [.slice A2 c_.f_l.length c3] :: Bx b4 9 [.string seller] :: Bx b7 9 [.string buyer] :: Γ) w ∧ cross_Cross_Add.j3 c_ seller buyer v13 n_ q15 = some (r0_, r1_)) ?_ ?_
        · refine st_region ?_
          refine r_pure (.int .i64 v13) rfl ?_
          refine r_pure (.int .i64 n_) rfl ?_
          refine r_pure (.int .i64 (w64 (v13 + n_))) rfl ?_
          refine r_pure (.bool (decide (w64 (v13 + n_) < 0))) rfl ?_
          refine r_pure (.bool (decide (w64 (v13 + n_) < 0))) rfl ?_
          rcases ite_some hm with ⟨hb59, hm⟩ | ⟨hb59, hm⟩
          · refine r_not (wn_f rfl rfl (by decide) rfl hb59) ?_
            refine r_not (wn_f rfl rfl (by decide) rfl hb59) ?_
            refine r_not (wn_f rfl rfl (by decide) rfl hb59) ?_
            refine r_not (wn_f rfl rfl (by decide) rfl hb59) ?_
            refine r_not (wn_f rfl rfl (by decide) rfl hb59) ?_
            refine r_pick_t (.bool true) hb59 rfl rfl ?_
            refine r_nil ?_
            refine n_cut ⟨true, upk (ac rfl (ac rfl (ac rfl (ac rfl (ac rfl (ac rfl (ac rfl an))))))), H14.u3.u3.u3.u3, hm⟩
          · refine r_pure (.int .i64 v13) rfl ?_ (wn_t rfl rfl (by decide) rfl hb59)
            refine r_pure (.int .i64 n_) rfl ?_ (wn_t rfl rfl (by decide) rfl hb59)
            refine r_pure (.int .i64 (w64 (v13 + n_))) rfl ?_ (wn_t rfl rfl (by decide) rfl hb59)
            obtain ⟨y60, hy61, hm⟩ := bind_some hm
            refine r_callf Try.call17 (rate_Money_ok (w64 (v13 + n_)) y60 H14 hy61) ?_ (wn_t rfl rfl (by decide) rfl hb59)
            rintro e63 wd62 ⟨rfl, H65⟩
            refine ⟨_, rfl, ?_⟩
            refine r_pure (.bool (!y60)) rfl ?_ (wn_t rfl rfl (by decide) rfl hb59)
            refine r_pick_f (.bool (!y60)) hb59 rfl rfl ?_
            refine r_nil ?_
            refine n_cut ⟨!y60, upk (ac rfl (ac rfl (ac rfl (ac rfl (ac rfl (ac rfl (ac rfl an))))))), H65.u3.u3.u3.u3, hm⟩
        · rintro ρ w ⟨q15, ⟨base, rfl⟩, H16, hm⟩
          unfold cross_Cross_Add.j3 at hm
          rcases ite_some hm with ⟨hb17, hm⟩ | ⟨hb17, hm⟩
          · refine st_condt hb17 rfl ?_
            refine st_seq ?_
            refine st_region ?_
            refine r_pure (.int .i64 6) rfl ?_
            refine r_seq ?_
            obtain ⟨rfl, rfl⟩ := some_inj2 hm
            refine st_ret1 rfl rfl (Nat.le_of_ble_eq_true rfl) rfl ?_
            exact ⟨A2, c_.f_l.length, c3, rfl, H16.u2.d.u2.d.u1⟩
          · refine st_condf hb17 rfl ?_
            refine st_skip ?_
            refine n_sq ?_
            refine st_seq ?_
            refine st_region ?_
            refine r_pure (.pointer (some ⟨b1, 0, none⟩)) rfl ?_
            obtain ⟨y18, hy19, hm⟩ := bind_some hm
            refine r_callf Try.call8 (cross_Cross_Rows_ok b1 (⟨c_.f_l⟩ : cross_Cross) A2 c_.f_l.length c3 rfl (((H16).g0).cap) (fun _ H => (H.g0.rd)) (fun _ H => (H.g1)) y18 H16 hy19) ?_
            rintro e21 wd20 ⟨A24, n25, c26, rfl, H23⟩
            obtain rfl := (H23.g0).leneq
            refine ⟨_, rfl, ?_⟩
            refine r_pure (.func (.func 18) #[] #[.pointer (some ⟨b4, 0, none⟩), .pointer (some ⟨b7, 0, none⟩)]) rfl ?_
            obtain ⟨y27, hy28, hm⟩ := bind_some hm
            refine r_callf Try.call20 (slices_DeleteFunc_cross_Row_ok y18 A24 y18.length c26 (.func (.func 18) #[] #[.pointer (some ⟨b4, 0, none⟩), .pointer (some ⟨b7, 0, none⟩)]) (fun x => cross_Cross_Add_c1 x seller buyer) ⟨18, [.pointer (some ⟨b4, 0, none⟩), .pointer (some ⟨b7, 0, none⟩)], rfl, Try.call18, fun x y hy Δ w H hΔ => cross_Cross_Add_c1_ok x b4 seller (fun _ H => ((hΔ _ H).g2)) b7 buyer (fun _ H => ((hΔ _ H).g3)) y H hy⟩ y27 H23 hy28) ?_
            rintro e30 wd29 ⟨A33, n34, c35, rfl, H32⟩
            obtain rfl := (H32.g0).leneq
            refine ⟨_, rfl, ?_⟩
            refine r_pure (.slice A33 y27.length c35) rfl ?_
            refine r_seq ?_
            refine st_cut (fun ρ w => ∃ A36 : Option Addr, ∃ n37 : Nat, ∃ c38 : Nat, ∃ xs39 : List cross_Row, (∃ base, ρ = updl base [(0, .pointer (some ⟨b1, 0, none⟩)), (12, .slice A36 n37 c38)]) ∧ Hp w0 (Row K38 (.slice A2 c_.f_l.length c3) c_.f_l :: Bx b1 53 [.slice A2 c_.f_l.length c3] :: Row K38 (.slice A36 n37 c38) xs39 :: Γ) w ∧ cross_Cross_Add.j4 c_ xs39 = some (r0_, r1_)) ?_ ?_
            · refine st_seq ?_
              refine st_region ?_
              refine r_pure (.int .i64 v13) rfl ?_
              refine r_pure (.int .i64 n_) rfl ?_
              refine r_pure (.int .i64 (w64 (v13 + n_))) rfl ?_
              refine r_pure (.bool (w64 (v13 + n_) != 0)) rfl ?_
              refine r_seq ?_
              rcases ite_some hm with ⟨hb50, hm⟩ | ⟨hb50, hm⟩
              · refine st_condt hb50 rfl ?_
                refine st_region ?_
                refine r_pure (.slice A33 y27.length c35) rfl ?_
                refine r_ld1 (.string seller) LD9 rfl ((H32.g3).cell _ rfl) ?_
                refine r_ld1 (.string buyer) LD9 rfl ((H32.g4).cell _ rfl) ?_
                refine r_pure (.int .i64 v13) rfl ?_
                refine r_pure (.int .i64 n_) rfl ?_
                refine r_pure (.int .i64 (w64 (v13 + n_))) rfl ?_
                refine r_build [.string seller, .string buyer, .int .i64 (w64 (v13 + n_))] FL38 rfl ?_
                refine r_buildSlice (K := K38) [(⟨seller, buyer, w64 (v13 + n_)⟩ : cross_Row)] EL34 rfl rfl rfl (by decide) (by decide) rfl H32 ?_
                intro b51 wd53 H52
                obtain ⟨hf54, hm⟩ := gd_some hm
                refine r_append (K := K38) (ys := [(⟨seller, buyer, w64 (v13 + n_)⟩ : cross_Row)]) AP34 rfl rfl rfl rfl H52.u1 (((H52.u1).g1).src) (fit_le hf54 (by decide)) ?_
                intro A55 c56 wd57 H58
                refine r_pure (.slice A55 ((y27 ++ [(⟨seller, buyer, w64 (v13 + n_)⟩ : cross_Row)]).length) c56) rfl ?_
                refine r_nil ?_
                refine n_cut ⟨A55, (y27 ++ [(⟨seller, buyer, w64 (v13 + n_)⟩ : cross_Row)]).length, c56, y27 ++ [(⟨seller, buyer, w64 (v13 + n_)⟩ : cross_Row)], upk (ac rfl (ac rfl an)), H58.u1.d.u3.d.u3.d.u2.u2, hm⟩
              · refine st_condf hb50 rfl ?_
                refine st_skip ?_
                refine n_cut ⟨A33, y27.length, c35, y27, upk (ac rfl (ac rfl an)), H32.u3.d.u3.d.u2.u2, hm⟩
            · rintro ρ w ⟨A36, n37, c38, xs39, ⟨base, rfl⟩, H40, hm⟩
              obtain rfl := (H40.g2).leneq
              unfold cross_Cross_Add.j4 at hm
              refine st_seq ?_
              refine st_seq ?_
              refine st_region ?_
              refine r_pure (.slice A36 xs39.length c38) rfl ?_
              refine r_len Try.underlying34 rfl ?_
              refine r_pure (.bool (decide ((xs39.length : Int) > 8))) rfl ?_
              refine r_seq ?_
              rcases ite_some hm with ⟨hb41, hm⟩ | ⟨hb41, hm⟩
              · refine st_condt hb41 rfl ?_
                refine st_seq ?_
                refine st_region ?_
                refine r_pure (.int .i64 5) rfl ?_
                refine r_seq ?_
                obtain ⟨rfl, rfl⟩ := some_inj2 hm
                refine st_ret1 rfl rfl (Nat.le_of_ble_eq_true rfl) rfl ?_
                exact ⟨A2, c_.f_l.length, c3, rfl, H40.u2.d.u1⟩
              · refine st_condf hb41 rfl ?_
                refine st_skip ?_
                refine n_sq ?_
                refine st_seq ?_
                refine st_region ?_
                refine r_pure (.slice A36 xs39.length c38) rfl ?_
                obtain ⟨y42, hy43, hm⟩ := bind_some hm
                refine r_callf Try.call21 (slices_SortFunc_cross_Row_ok xs39 A36 xs39.length c38 (.func (.func 22) #[] #[]) (fun x => cross_Cross_Add_c2 x.1 x.2) ⟨22, [], rfl, Try.call22, fun x y hy Δ w H hΔ => cross_Cross_Add_c2_ok x.1 x.2 y H hy⟩ y42 H40.u2 hy43) ?_
                rintro e45 wd44 ⟨rfl, H47⟩
                refine ⟨_, rfl, ?_⟩
                refine r_seq ?_
                refine st_seq ?_
                refine st_region ?_
                refine r_pure (.pointer (some ⟨b1, 0, none⟩)) rfl ?_
                refine r_pure (.slice A36 xs39.length c38) rfl ?_
                refine r_pure (.pointer (some ⟨b1, 0, none⟩)) rfl ?_
                refine r_fa FA53_0 ⟨b1, 0, none⟩ rfl rfl ?_
                refine r_st1 LD34 rfl rfl rfl H47.u2 rfl ?_
                intro wd49 H48
                refine r_seq ?_
                refine st_seq ?_
                refine st_region ?_
                refine r_pure (.int .i64 0) rfl ?_
                refine r_seq ?_
                obtain ⟨rfl, rfl⟩ := some_inj2 hm
                refine st_ret1 rfl rfl (Nat.le_of_ble_eq_true rfl) rfl ?_
                exact ⟨A36, xs39.length, c38, rfl, H48.u2.d.u1.u1⟩

set_option maxHeartbeats 2000000 in
theorem scutagekeep_Same_cross_Row_ok {w0 w : World} {Γ : List (World → Prop)} (a_ : List cross_Row) (A1 : Option Addr) (n6 c2 : Nat) (hn5 : n6 = a_.length) (hc3 : a_.length ≤ c2) (hv4 : ∀ u, Hp w0 Γ u → SlR K38 A1 a_ u) (b_ : List cross_Row) (A7 : Option Addr) (n12 c8 : Nat) (hn11 : n12 = b_.length) (hc9 : b_.length ≤ c8) (hv10 : ∀ u, Hp w0 Γ u → SlR K38 A7 b_ u) (r0_ : Bool) (H : Hp w0 (Γ) w) (hm : scutagekeep_Same_cross_Row a_ b_ = some r0_) : Calls Try.prog 9 #[.slice A1 n6 c2, .slice A7 n12 c8] w (fun e w => e = .returned (.bool r0_) ∧ Hp w0 (Γ) w) := by
  subst hn5
  subst hn11
  unfold scutagekeep_Same_cross_Row at hm
  refine st_enter Try.func9 rfl Try.ntmps9 (Nat.le_of_ble_eq_true rfl) ?_
  refine st_seq ?_
  refine st_region ?_
  refine r_pure (.bool false) rfl ?_
  refine r_seq ?_
  refine st_seq ?_
  refine st_seq ?_
  refine st_region ?_
  refine r_pure (.slice A1 a_.length c2) rfl ?_
  refine r_len Try.underlying34 rfl ?_
  refine r_pure (.slice A7 b_.length c8) rfl ?_
  refine r_len Try.underlying34 rfl ?_
  refine r_pure (.bool ((a_.length : Int) != (b_.length : Int))) rfl ?_
  refine r_seq ?_
  rcases ite_some hm with ⟨hb13, hm⟩ | ⟨hb13, hm⟩
  · refine st_condt hb13 rfl ?_
    refine st_seq ?_
    refine st_region ?_
    refine r_pure (.bool false) rfl ?_
    refine r_seq ?_
    have hq_ := Option.some.inj hm
    subst hq_
    refine st_ret1 rfl rfl (Nat.le_of_ble_eq_true rfl) rfl ?_
    exact ⟨rfl, H⟩
  · refine st_condf hb13 rfl ?_
    refine st_skip ?_
    refine n_sq ?_
    refine st_seq ?_
    refine st_seq ?_
    refine st_region ?_
    refine r_pure (.int .i64 0) rfl ?_
    refine r_seq ?_
    refine st_block ?_
    obtain ⟨tl18, hl19, hm17⟩ := bind_some hm
    refine st_loopF (scutagekeep_Same_cross_Row.l1 a_ b_) (fun s ρ w => ∃ v15 : Int, v15 = s ∧ (∃ base, ρ = updl base [(0, .slice A1 a_.length c2), (1, .slice A7 b_.length c8), (5, .int .i64 v15)]) ∧ Hp w0 (Γ) w) hl19 (fun _ => rfl) ⟨0, rfl, upk (ac rfl (ac rfl (ac rfl an))), H⟩ ?_
    rintro fuel25 IH27 s ρ w ⟨v15, rfl, ⟨base, rfl⟩, H16⟩ hm
    rw [scutagekeep_Same_cross_Row.l1] at hm
    refine st_seq ?_
    refine st_seq ?_
    refine st_region ?_
    refine r_pure (.int .i64 v15) rfl ?_
    refine r_pure (.slice A1 a_.length c2) rfl ?_
    refine r_len Try.underlying34 rfl ?_
    refine r_pure (.bool (decide (v15 < (a_.length : Int)))) rfl ?_
    refine r_seq ?_
    rcases ite_some hm with ⟨hb28, hm⟩ | ⟨hb28, hm⟩
    · refine st_condt hb28 rfl ?_
      refine st_skip ?_
      refine n_sq ?_
      refine st_seq ?_
      refine st_block ?_
      refine st_seq ?_
      obtain ⟨⟨h030, h131⟩, hm⟩ := gd_some hm
      have hj32 := rd_get h030 h131
      obtain ⟨⟨h034, h135⟩, hm⟩ := gd_some hm
      have hj36 := rd_get h034 h135
      refine Flow.run' RA9_6 RW9_6 [(fun η29 v => v.1 = .slice A1 a_.length c2), (fun η29 v => v.1 = .int .i64 v15), (fun η29 v => v.1 = .pointer (some ((oA A1).add (Int.toNat v15 * 3)))), (fun η29 v => v.1 = .agg #[.string ((rd a_ v15).Seller), .string ((rd a_ v15).Buyer), .int .i64 ((rd a_ v15).Amount)]), (fun η29 v => v.1 = .slice A7 b_.length c8), (fun η29 v => v.1 = .int .i64 v15), (fun η29 v => v.1 = .pointer (some ((oA A7).add (Int.toNat v15 * 3)))), (fun η29 v => v.1 = .agg #[.string ((rd b_ v15).Seller), .string ((rd b_ v15).Buyer), .int .i64 ((rd b_ v15).Amount)]), (fun η29 v => v.1 = .bool (!(((rd a_ v15).Seller).toList == ((rd b_ v15).Seller).toList && (((rd a_ v15).Buyer).toList == ((rd b_ v15).Buyer).toList && (((rd a_ v15).Amount) == ((rd b_ v15).Amount))))))] [] rfl (by kernel_rfl) (by kernel_rfl) H16 ⟨?_, ?_, ?_, ?_, ?_, ?_, ?_, ?_, ?_, trivial⟩ ?_
      · intro η29 wd42 Δ43 hE38 hR39 hA40 H41
        refine sp_op [(0, .slice A1 a_.length c2)] (ac rfl an) ?_
        refine r_pure (.slice A1 a_.length c2) rfl ?_
        exact r_nil (n_lp ⟨_, rfl, undef, rfl, H41⟩)
      · intro η29 wd48 Δ49 hE44 hR45 hA46 H47
        refine sp_op [(5, .int .i64 v15)] (ac rfl an) ?_
        refine r_pure (.int .i64 v15) rfl ?_
        exact r_nil (n_lp ⟨_, rfl, undef, rfl, H47⟩)
      · intro η29 wd54 Δ55 hE50 hR51 hA52 H53
        have H53 : Hp w0 ((Δ55 ++ Γ)) wd54 := H53
        refine sp_op [(17, .slice A1 a_.length c2), (18, .int .i64 v15)] (ac (hE50 0 (by decide)) (ac (hE50 1 (by decide)) an)) ?_
        have hA59 := (hv4 _ (H53).tl).adO hj32
        refine r_ix IX34 rfl rfl hA59 h030 h131 ?_
        exact r_nil (n_lp ⟨_, rfl, undef, rfl, H53⟩)
      · intro η29 wd64 Δ65 hE60 hR61 hA62 H63
        have H63 : Hp w0 ((Δ65 ++ Γ)) wd64 := H63
        refine sp_op [(19, .pointer (some ((oA A1).add (Int.toNat v15 * 3))))] (ac (hE60 2 (by decide)) an) ?_
        have hA66 := (hv4 _ (H63).tl).adO hj32
        refine r_ldA [.string ((rd a_ v15).Seller), .string ((rd a_ v15).Buyer), .int .i64 ((rd a_ v15).Amount)] LD38 rfl rfl ((hv4 _ (H63).tl).csA hA66 hj32) ?_
        exact r_nil (n_lp ⟨_, rfl, undef, rfl, H63⟩)
      · intro η29 wd71 Δ72 hE67 hR68 hA69 H70
        refine sp_op [(1, .slice A7 b_.length c8)] (ac rfl an) ?_
        refine r_pure (.slice A7 b_.length c8) rfl ?_
        exact r_nil (n_lp ⟨_, rfl, undef, rfl, H70⟩)
      · intro η29 wd77 Δ78 hE73 hR74 hA75 H76
        refine sp_op [(5, .int .i64 v15)] (ac rfl an) ?_
        refine r_pure (.int .i64 v15) rfl ?_
        exact r_nil (n_lp ⟨_, rfl, undef, rfl, H76⟩)
      · intro η29 wd83 Δ84 hE79 hR80 hA81 H82
        have H82 : Hp w0 ((Δ84 ++ Γ)) wd83 := H82
        refine sp_op [(21, .slice A7 b_.length c8), (22, .int .i64 v15)] (ac (hE79 4 (by decide)) (ac (hE79 5 (by decide)) an)) ?_
        have hA88 := (hv10 _ (H82).tl).adO hj36
        refine r_ix IX34 rfl rfl hA88 h034 h135 ?_
        exact r_nil (n_lp ⟨_, rfl, undef, rfl, H82⟩)
      · intro η29 wd93 Δ94 hE89 hR90 hA91 H92
        have H92 : Hp w0 ((Δ94 ++ Γ)) wd93 := H92
        refine sp_op [(23, .pointer (some ((oA A7).add (Int.toNat v15 * 3))))] (ac (hE89 6 (by decide)) an) ?_
        have hA95 := (hv10 _ (H92).tl).adO hj36
        refine r_ldA [.string ((rd b_ v15).Seller), .string ((rd b_ v15).Buyer), .int .i64 ((rd b_ v15).Amount)] LD38 rfl rfl ((hv10 _ (H92).tl).csA hA95 hj36) ?_
        exact r_nil (n_lp ⟨_, rfl, undef, rfl, H92⟩)
      · intro η29 wd100 Δ101 hE96 hR97 hA98 H99
        refine sp_op [(20, .agg #[.string ((rd a_ v15).Seller), .string ((rd a_ v15).Buyer), .int .i64 ((rd a_ v15).Amount)]), (24, .agg #[.string ((rd b_ v15).Seller), .string ((rd b_ v15).Buyer), .int .i64 ((rd b_ v15).Amount)])] (ac (hE96 3 (by decide)) (ac (hE96 7 (by decide)) an)) ?_
        refine r_neS (EQ38 ((rd a_ v15).Seller) ((rd b_ v15).Seller) ((rd a_ v15).Buyer) ((rd b_ v15).Buyer) ((rd a_ v15).Amount) ((rd b_ v15).Amount)) (by decide) Try.eqGuardType38 rfl rfl ?_
        exact r_nil (n_lp ⟨_, rfl, undef, rfl, H99⟩)
      · intro η29 wd103 hV104 H102
        have H105 : Hp w0 (Γ) wd103 := H102
        refine n_frame [(0, .slice A1 a_.length c2), (1, .slice A7 b_.length c8), (5, .int .i64 v15), (25, .bool (!(((rd a_ v15).Seller).toList == ((rd b_ v15).Seller).toList && (((rd a_ v15).Buyer).toList == ((rd b_ v15).Buyer).toList && (((rd a_ v15).Amount) == ((rd b_ v15).Amount))))))] (ac rfl (ac rfl (ac rfl (ac (hV104 8 rfl) an)))) ?_
        refine n_sq ?_
        rcases ite_some hm with ⟨hb106, hm⟩ | ⟨hb106, hm⟩
        · refine st_condt hb106 rfl ?_
          refine st_seq ?_
          refine st_region ?_
          refine r_pure (.bool false) rfl ?_
          refine r_seq ?_
          have hq_ := Option.some.inj hm
          subst hq_
          have hq_ := Option.some.inj (show some (false : Bool) = some r0_ from hm17)
          subst hq_
          refine st_ret1 rfl rfl (Nat.le_of_ble_eq_true rfl) rfl ?_
          exact ⟨rfl, H105⟩
        · refine st_condf hb106 rfl ?_
          refine st_skip ?_
          refine n_bl ?_
          refine n_sq ?_
          refine st_region ?_
          refine r_pure (.int .i64 v15) rfl ?_
          refine r_pure (.int .i64 (w64 (v15 + 1))) rfl ?_
          refine r_pure (.int .i64 (w64 (v15 + 1))) rfl ?_
          refine r_nil ?_
          refine n_round (IH27 _ _ _ ⟨w64 (v15 + 1), rfl, upk (ac rfl (ac rfl (ac rfl an))), H105⟩ hm)
    · refine st_condf hb28 rfl ?_
      have hq_ := Option.some.inj hm
      refine st_exit rfl ?_
      subst hq_
      refine n_sq ?_
      refine st_seq ?_
      refine st_region ?_
      refine r_pure (.bool true) rfl ?_
      refine r_seq ?_
      have hq_ := Option.some.inj hm17
      subst hq_
      refine st_ret1 rfl rfl (Nat.le_of_ble_eq_true rfl) rfl ?_
      exact ⟨rfl, H16⟩

set_option maxHeartbeats 2000000 in
theorem rate_Right_ok {w0 w : World} {Γ : List (World → Prop)} (rate_ : Int) (r0_ : Bool) (H : Hp w0 (Γ) w) (hm : rate_Right rate_ = some r0_) : Calls Try.prog 27 #[.int .i64 rate_] w (fun e w => e = .returned (.bool r0_) ∧ Hp w0 (Γ) w) := by
  unfold rate_Right at hm
  refine st_enter Try.func27 rfl Try.ntmps27 (Nat.le_of_ble_eq_true rfl) ?_
  refine st_seq ?_
  refine st_region ?_
  refine r_pure (.bool false) rfl ?_
  refine r_seq ?_
  refine st_cut (fun ρ w => ∃ q1 : Bool, (∃ base, ρ = updl base [(2, .bool q1)]) ∧ Hp w0 (Γ) w ∧ rate_Right.j1 q1 = some r0_) ?_ ?_
  · refine st_region ?_
    refine r_pure (.int .i64 rate_) rfl ?_
    refine r_pure (.bool (decide (rate_ ≥ 0))) rfl ?_
    refine r_pure (.bool (decide (rate_ ≥ 0))) rfl ?_
    rcases ite_some hm with ⟨hb3, hm⟩ | ⟨hb3, hm⟩
    · refine r_pure (.int .i64 rate_) rfl ?_ (wn_t rfl rfl (by decide) rfl hb3)
      refine r_pure (.bool (decide (rate_ ≤ 1000000))) rfl ?_ (wn_t rfl rfl (by decide) rfl hb3)
      refine r_pick_t (.bool (decide (rate_ ≤ 1000000))) hb3 rfl rfl ?_
      refine r_pure (.bool (decide (rate_ ≤ 1000000))) rfl ?_
      refine r_nil ?_
      refine n_cut ⟨decide (rate_ ≤ 1000000), upk (ac rfl an), H, hm⟩
    · refine r_not (wn_f rfl rfl (by decide) rfl hb3) ?_
      refine r_not (wn_f rfl rfl (by decide) rfl hb3) ?_
      refine r_pick_f (.bool false) hb3 rfl rfl ?_
      refine r_pure (.bool false) rfl ?_
      refine r_nil ?_
      refine n_cut ⟨false, upk (ac rfl an), H, hm⟩
  · rintro ρ w ⟨q1, ⟨base, rfl⟩, H2, hm⟩
    unfold rate_Right.j1 at hm
    have hq_ := Option.some.inj hm
    subst hq_
    refine st_ret1 rfl rfl (Nat.le_of_ble_eq_true rfl) rfl ?_
    exact ⟨rfl, H2⟩

set_option maxHeartbeats 2000000 in
theorem rate_Of_ok {w0 w : World} {Γ : List (World → Prop)} (n_ : Int) (rate_ : Int) (r0_ : Int) (r1_ : Bool) (H : Hp w0 (Γ) w) (hm : rate_Of n_ rate_ = some (r0_, r1_)) : Calls Try.prog 28 #[.int .i64 n_, .int .i64 rate_] w (fun e w => e = .returned (.tuple #[.int .i64 r0_, .bool r1_]) ∧ Hp w0 (Γ) w) := by
  unfold rate_Of at hm
  refine st_enter Try.func28 rfl Try.ntmps28 (Nat.le_of_ble_eq_true rfl) ?_
  refine st_seq ?_
  refine st_region ?_
  refine r_pure (.int .i64 0) rfl ?_
  refine r_pure (.bool false) rfl ?_
  refine r_seq ?_
  refine st_seq ?_
  refine st_cut (fun ρ w => ∃ q1 : Bool, (∃ base, ρ = updl base [(0, .int .i64 n_), (1, .int .i64 rate_), (20, .bool q1)]) ∧ Hp w0 (Γ) w ∧ rate_Of.j1 n_ rate_ q1 = some (r0_, r1_)) ?_ ?_
  · refine st_region ?_
    refine r_pure (.int .i64 n_) rfl ?_
    refine r_pure (.bool (decide (n_ < (-400000000000)))) rfl ?_
    refine r_pure (.bool (decide (n_ < (-400000000000)))) rfl ?_
    rcases ite_some hm with ⟨hb5, hm⟩ | ⟨hb5, hm⟩
    · refine r_not (wn_f rfl rfl (by decide) rfl hb5) ?_
      refine r_not (wn_f rfl rfl (by decide) rfl hb5) ?_
      refine r_pick_t (.bool true) hb5 rfl rfl ?_
      refine r_pure (.bool true) rfl ?_
      refine r_not (wn_f rfl rfl (by decide) rfl rfl) ?_
      refine r_not (wn_f rfl rfl (by decide) rfl rfl) ?_
      refine r_pick_t (.bool true) rfl rfl rfl ?_
      refine r_pure (.bool true) rfl ?_
      refine r_not (wn_f rfl rfl (by decide) rfl rfl) ?_
      refine r_not (wn_f rfl rfl (by decide) rfl rfl) ?_
      refine r_pick_t (.bool true) rfl rfl rfl ?_
      refine r_nil ?_
      refine n_cut ⟨true, upk (ac rfl (ac rfl (ac rfl an))), H, hm⟩
    · refine r_pure (.int .i64 n_) rfl ?_ (wn_t rfl rfl (by decide) rfl hb5)
      refine r_pure (.bool (decide (n_ > 400000000000))) rfl ?_ (wn_t rfl rfl (by decide) rfl hb5)
      refine r_pick_f (.bool (decide (n_ > 400000000000))) hb5 rfl rfl ?_
      refine r_pure (.bool (decide (n_ > 400000000000))) rfl ?_
      rcases ite_some hm with ⟨hb6, hm⟩ | ⟨hb6, hm⟩
      · refine r_not (wn_f rfl rfl (by decide) rfl hb6) ?_
        refine r_not (wn_f rfl rfl (by decide) rfl hb6) ?_
        refine r_pick_t (.bool true) hb6 rfl rfl ?_
        refine r_pure (.bool true) rfl ?_
        refine r_not (wn_f rfl rfl (by decide) rfl rfl) ?_
        refine r_not (wn_f rfl rfl (by decide) rfl rfl) ?_
        refine r_pick_t (.bool true) rfl rfl rfl ?_
        refine r_nil ?_
        refine n_cut ⟨true, upk (ac rfl (ac rfl (ac rfl an))), H, hm⟩
      · refine r_pure (.int .i64 rate_) rfl ?_ (wn_t rfl rfl (by decide) rfl hb6)
        refine r_pure (.bool (decide (rate_ < 0))) rfl ?_ (wn_t rfl rfl (by decide) rfl hb6)
        refine r_pick_f (.bool (decide (rate_ < 0))) hb6 rfl rfl ?_
        refine r_pure (.bool (decide (rate_ < 0))) rfl ?_
        rcases ite_some hm with ⟨hb7, hm⟩ | ⟨hb7, hm⟩
        · refine r_not (wn_f rfl rfl (by decide) rfl hb7) ?_
          refine r_not (wn_f rfl rfl (by decide) rfl hb7) ?_
          refine r_pick_t (.bool true) hb7 rfl rfl ?_
          refine r_nil ?_
          refine n_cut ⟨true, upk (ac rfl (ac rfl (ac rfl an))), H, hm⟩
        · refine r_pure (.int .i64 rate_) rfl ?_ (wn_t rfl rfl (by decide) rfl hb7)
          refine r_pure (.bool (decide (rate_ > 10000000))) rfl ?_ (wn_t rfl rfl (by decide) rfl hb7)
          refine r_pick_f (.bool (decide (rate_ > 10000000))) hb7 rfl rfl ?_
          refine r_nil ?_
          refine n_cut ⟨decide (rate_ > 10000000), upk (ac rfl (ac rfl (ac rfl an))), H, hm⟩
  · rintro ρ w ⟨q1, ⟨base, rfl⟩, H2, hm⟩
    unfold rate_Of.j1 at hm
    rcases ite_some hm with ⟨hb3, hm⟩ | ⟨hb3, hm⟩
    · refine st_condt hb3 rfl ?_
      refine st_seq ?_
      refine st_region ?_
      refine r_pure (.int .i64 0) rfl ?_
      refine r_pure (.bool false) rfl ?_
      refine r_seq ?_
      obtain ⟨rfl, rfl⟩ := some_inj2 hm
      refine st_ret2 rfl rfl (Nat.le_of_ble_eq_true rfl) (Nat.le_of_ble_eq_true rfl) rfl rfl ?_
      exact ⟨rfl, H2⟩
    · refine st_condf hb3 rfl ?_
      refine st_skip ?_
      refine n_sq ?_
      refine st_seq ?_
      refine st_region ?_
      refine r_pure (.int .i64 n_) rfl ?_
      refine r_pure (.int .i64 (w64 (2 * n_))) rfl ?_
      refine r_pure (.int .i64 rate_) rfl ?_
      refine r_pure (.int .i64 (w64 (w64 (2 * n_) * rate_))) rfl ?_
      refine r_pure (.int .i64 (w64 (w64 (2 * n_) * rate_))) rfl ?_
      refine r_seq ?_
      refine st_seq ?_
      refine st_seq ?_
      refine st_region ?_
      refine r_pure (.int .i64 n_) rfl ?_
      refine r_pure (.bool (decide (n_ < 0))) rfl ?_
      refine r_seq ?_
      rcases ite_some hm with ⟨hb4, hm⟩ | ⟨hb4, hm⟩
      · refine st_condt hb4 rfl ?_
        refine st_seq ?_
        refine st_region ?_
        refine r_pure (.int .i64 (w64 (w64 (2 * n_) * rate_))) rfl ?_
        refine r_pure (.int .i64 (w64 (w64 (w64 (2 * n_) * rate_) - 1000000))) rfl ?_
        refine r_quo (by decide) rfl rfl ?_
        refine r_pure (.int .i64 (w64 (Int.tdiv (w64 (w64 (w64 (2 * n_) * rate_) - 1000000)) 2000000))) rfl ?_
        refine r_pure (.bool true) rfl ?_
        refine r_seq ?_
        obtain ⟨rfl, rfl⟩ := some_inj2 hm
        refine st_ret2 rfl rfl (Nat.le_of_ble_eq_true rfl) (Nat.le_of_ble_eq_true rfl) rfl rfl ?_
        exact ⟨rfl, H2⟩
      · refine st_condf hb4 rfl ?_
        refine st_skip ?_
        refine n_sq ?_
        refine st_seq ?_
        refine st_region ?_
        refine r_pure (.int .i64 (w64 (w64 (2 * n_) * rate_))) rfl ?_
        refine r_pure (.int .i64 (w64 (w64 (w64 (2 * n_) * rate_) + 1000000))) rfl ?_
        refine r_quo (by decide) rfl rfl ?_
        refine r_pure (.int .i64 (w64 (Int.tdiv (w64 (w64 (w64 (2 * n_) * rate_) + 1000000)) 2000000))) rfl ?_
        refine r_pure (.bool true) rfl ?_
        refine r_seq ?_
        obtain ⟨rfl, rfl⟩ := some_inj2 hm
        refine st_ret2 rfl rfl (Nat.le_of_ble_eq_true rfl) (Nat.le_of_ble_eq_true rfl) rfl rfl ?_
        exact ⟨rfl, H2⟩

set_option maxHeartbeats 2000000 in
theorem cross_Asset_ok {w0 w : World} {Γ : List (World → Prop)} (rows : List cross_Row) (A1 : Option Addr) (n6 c2 : Nat) (hn5 : n6 = rows.length) (hc3 : rows.length ≤ c2) (hv4 : ∀ u, Hp w0 Γ u → SlR K38 A1 rows u) (rates : List Int) (A7 : Option Addr) (n12 c8 : Nat) (hn11 : n12 = rates.length) (hc9 : rates.length ≤ c8) (hv10 : ∀ u, Hp w0 Γ u → SlR K3 A7 rates u) (r0_ : Int) (r1_ : Int) (H : Hp w0 (Γ) w) (hm : cross_Asset rows rates = some (r0_, r1_)) : Calls Try.prog 15 #[.slice A1 n6 c2, .slice A7 n12 c8] w (fun e w => e = .returned (.tuple #[.int .i64 r0_, .int .i64 r1_]) ∧ Hp w0 (Γ) w) := by
  subst hn5
  subst hn11
  unfold cross_Asset at hm
  refine st_enter Try.func15 rfl Try.ntmps15 (Nat.le_of_ble_eq_true rfl) ?_
  refine st_seq ?_
  refine st_region ?_
  refine r_pure (.int .i64 0) rfl ?_
  refine r_pure (.int .i64 0) rfl ?_
  refine r_seq ?_
  refine st_seq ?_
  refine st_seq ?_
  refine st_region ?_
  refine r_pure (.slice A7 rates.length c8) rfl ?_
  refine r_len Try.underlying41 rfl ?_
  refine r_pure (.slice A1 rows.length c2) rfl ?_
  refine r_len Try.underlying34 rfl ?_
  refine r_pure (.bool ((rates.length : Int) != (rows.length : Int))) rfl ?_
  refine r_seq ?_
  rcases ite_some hm with ⟨hb13, hm⟩ | ⟨hb13, hm⟩
  · refine st_condt hb13 rfl ?_
    refine st_seq ?_
    refine st_region ?_
    refine r_pure (.int .i64 0) rfl ?_
    refine r_pure (.int .i64 1) rfl ?_
    refine r_seq ?_
    obtain ⟨rfl, rfl⟩ := some_inj2 hm
    refine st_ret2 rfl rfl (Nat.le_of_ble_eq_true rfl) (Nat.le_of_ble_eq_true rfl) rfl rfl ?_
    exact ⟨rfl, H⟩
  · refine st_condf hb13 rfl ?_
    refine st_skip ?_
    refine n_sq ?_
    refine st_seq ?_
    refine st_region ?_
    refine r_pure (.int .i64 0) rfl ?_
    refine r_seq ?_
    refine st_seq ?_
    refine st_seq ?_
    refine st_region ?_
    refine r_pure (.slice A1 rows.length c2) rfl ?_
    refine r_len Try.underlying34 rfl ?_
    refine r_pure (.int .i64 0) rfl ?_
    refine r_seq ?_
    refine st_block ?_
    have hlim35 := (hv4 _ H).lim
    obtain ⟨tl18, hl19, hm17⟩ := bind_some hm
    refine st_loopL (cross_Asset.l1 rates) (fun ys24 s ρ w => ∃ i20 : Int, ∃ v15 : Int, ∃ dn21 : List cross_Row, (i20, v15) = s ∧ rows = dn21 ++ ys24 ∧ i20 = (dn21.length : Int) ∧ (∃ base, ρ = updl base [(1, .slice A7 rates.length c8), (6, .int .i64 v15), (16, .slice A1 rows.length c2), (17, .int .i64 (rows.length : Int)), (18, .int .i64 i20)]) ∧ Hp w0 (Γ) w) hl19 ⟨0, 0, [], rfl, rfl, rfl, upk (ac rfl (ac rfl (ac rfl (ac rfl (ac rfl an))))), H⟩ ?_
    rintro m ys24 IH28 s ρ w ⟨i20, v15, dn21, rfl, hxs22, hi23, ⟨base, rfl⟩, H16⟩ hm
    rcases ys24 with _ | ⟨y25, ys24⟩
    · rw [cross_Asset.l1] at hm
      have hb29 := range_end hxs22 hi23
      refine st_seq ?_
      refine st_region ?_
      refine r_pure (.bool (decide (i20 < (rows.length : Int)))) rfl ?_
      refine r_seq ?_
      refine st_seq ?_
      refine st_condf hb29 rfl ?_
      have hq_ := Option.some.inj hm
      refine st_exit rfl ?_
      subst hq_
      refine n_sq ?_
      refine st_seq ?_
      refine st_seq ?_
      refine st_region ?_
      refine r_pure (.int .i64 v15) rfl ?_
      obtain ⟨y36, hy37, hm⟩ := bind_some hm17
      refine r_callf Try.call17 (rate_Money_ok v15 y36 H16 hy37) ?_
      rintro e39 wd38 ⟨rfl, H41⟩
      refine ⟨_, rfl, ?_⟩
      refine r_pure (.bool (!y36)) rfl ?_
      refine r_seq ?_
      rcases ite_some hm with ⟨hb42, hm⟩ | ⟨hb42, hm⟩
      · refine st_condt hb42 rfl ?_
        refine st_seq ?_
        refine st_region ?_
        refine r_pure (.int .i64 0) rfl ?_
        refine r_pure (.int .i64 6) rfl ?_
        refine r_seq ?_
        obtain ⟨rfl, rfl⟩ := some_inj2 hm
        refine st_ret2 rfl rfl (Nat.le_of_ble_eq_true rfl) (Nat.le_of_ble_eq_true rfl) rfl rfl ?_
        exact ⟨rfl, H41⟩
      · refine st_condf hb42 rfl ?_
        refine st_skip ?_
        refine n_sq ?_
        refine st_seq ?_
        refine st_region ?_
        refine r_pure (.int .i64 v15) rfl ?_
        refine r_pure (.int .i64 v15) rfl ?_
        refine r_pure (.int .i64 0) rfl ?_
        refine r_seq ?_
        obtain ⟨rfl, rfl⟩ := some_inj2 hm
        refine st_ret2 rfl rfl (Nat.le_of_ble_eq_true rfl) (Nat.le_of_ble_eq_true rfl) rfl rfl ?_
        exact ⟨rfl, H41⟩
    · rw [cross_Asset.l1] at hm
      have hb30 := range_in hxs22 hi23
      obtain ⟨h031, h132, hj33⟩ := range_ix hxs22 hi23
      have hnx34 := range_next hxs22 hi23 hlim35
      refine st_seq ?_
      refine st_region ?_
      refine r_pure (.bool (decide (i20 < (rows.length : Int)))) rfl ?_
      refine r_seq ?_
      refine st_seq ?_
      refine st_condt hb30 rfl ?_
      refine st_skip ?_
      refine n_sq ?_
      refine st_seq ?_
      refine st_block ?_
      refine st_seq ?_
      refine st_region ?_
      refine r_pure (.int .i64 i20) rfl ?_
      have hA43 := (hv4 _ H16).adO hj33
      refine r_ix IX34 rfl rfl hA43 h031 h132 ?_
      refine r_ldA [.string y25.Seller, .string y25.Buyer, .int .i64 y25.Amount] LD38 rfl rfl ((hv4 _ H16).csA hA43 hj33) ?_
      refine r_alloc [.string ⟨#[]⟩, .string ⟨#[]⟩, .int .i64 0] Try.zeroValue38 H16 rfl ?_
      intro b44 wd46 H45
      refine r_pure (.int .i64 i20) rfl ?_
      refine r_stA [.string y25.Seller, .string y25.Buyer, .int .i64 y25.Amount] LD38 rfl rfl rfl rfl H45 (Nat.le_of_ble_eq_true rfl) rfl ?_
      intro wd48 H47
      refine r_seq ?_
      refine st_seq ?_
      refine st_cut (fun ρ w => ∃ q49 : Bool, (∃ base, ρ = updl base [(1, .slice A7 rates.length c8), (6, .int .i64 v15), (7, .int .i64 i20), (8, .pointer (some ⟨b44, 0, none⟩)), (16, .slice A1 rows.length c2), (17, .int .i64 (rows.length : Int)), (18, .int .i64 i20), (39, .bool q49)]) ∧ Hp w0 (Bx b44 38 [.string y25.Seller, .string y25.Buyer, .int .i64 y25.Amount] :: Γ) w ∧ cross_Asset.j1 i20 rates y25 (cross_Asset.l1 rates ys24) v15 q49 = some tl18) ?_ ?_
      · refine st_region ?_
        refine r_pure (.slice A7 rates.length c8) rfl ?_
        refine r_pure (.int .i64 i20) rfl ?_
        obtain ⟨⟨h0152, h1153⟩, hm⟩ := gd_some hm
        have hj154 := rd_get h0152 h1153
        have hA155 := (hv10 _ H47.d).adO hj154
        refine r_ix IX41 rfl rfl hA155 h0152 h1153 ?_
        refine r_ld1 (.int .i64 (rd rates i20)) LD3 rfl ((hv10 _ H47.d).c0A hA155 hj154 _ rfl) ?_
        obtain ⟨y156, hy157, hm⟩ := bind_some hm
        refine r_callf Try.call27 (rate_Right_ok (rd rates i20) y156 H47 hy157) ?_
        rintro e159 wd158 ⟨rfl, H161⟩
        refine ⟨_, rfl, ?_⟩
        refine r_pure (.bool (!y156)) rfl ?_
        refine r_pure (.bool (!y156)) rfl ?_
        rcases ite_some hm with ⟨hb162, hm⟩ | ⟨hb162, hm⟩
        · refine r_not (wn_f rfl rfl (by decide) rfl hb162) ?_
          refine r_not (wn_f rfl rfl (by decide) rfl hb162) ?_
          refine r_not (wn_f rfl rfl (by decide) rfl hb162) ?_
          refine r_pick_t (.bool true) hb162 rfl rfl ?_
          refine r_pure (.bool true) rfl ?_
          refine r_not (wn_f rfl rfl (by decide) rfl rfl) ?_
          refine r_not (wn_f rfl rfl (by decide) rfl rfl) ?_
          refine r_not (wn_f rfl rfl (by decide) rfl rfl) ?_
          refine r_not (wn_f rfl rfl (by decide) rfl rfl) ?_
          refine r_pick_t (.bool true) rfl rfl rfl ?_
          refine r_nil ?_
          refine n_cut ⟨true, upk (ac rfl (ac rfl (ac rfl (ac rfl (ac rfl (ac rfl (ac rfl (ac rfl an)))))))), H161, hm⟩
        · refine r_fa FA38_2 ⟨b44, 2, none⟩ rfl rfl ?_ (wn_t rfl rfl (by decide) rfl hb162)
          refine r_ld1 (.int .i64 y25.Amount) LD3 rfl ((H161.g0).cell _ rfl) ?_ (wn_t rfl rfl (by decide) rfl hb162)
          refine r_pure (.bool (decide (y25.Amount < 0))) rfl ?_ (wn_t rfl rfl (by decide) rfl hb162)
          refine r_pick_f (.bool (decide (y25.Amount < 0))) hb162 rfl rfl ?_
          refine r_pure (.bool (decide (y25.Amount < 0))) rfl ?_
          rcases ite_some hm with ⟨hb163, hm⟩ | ⟨hb163, hm⟩
          · refine r_not (wn_f rfl rfl (by decide) rfl hb163) ?_
            refine r_not (wn_f rfl rfl (by decide) rfl hb163) ?_
            refine r_not (wn_f rfl rfl (by decide) rfl hb163) ?_
            refine r_not (wn_f rfl rfl (by decide) rfl hb163) ?_
            refine r_pick_t (.bool true) hb163 rfl rfl ?_
            refine r_nil ?_
            refine n_cut ⟨true, upk (ac rfl (ac rfl (ac rfl (ac rfl (ac rfl (ac rfl (ac rfl (ac rfl an)))))))), H161, hm⟩
          · refine r_fa FA38_2 ⟨b44, 2, none⟩ rfl rfl ?_ (wn_t rfl rfl (by decide) rfl hb163)
            refine r_ld1 (.int .i64 y25.Amount) LD3 rfl ((H161.g0).cell _ rfl) ?_ (wn_t rfl rfl (by decide) rfl hb163)
            obtain ⟨y164, hy165, hm⟩ := bind_some hm
            refine r_callf Try.call17 (rate_Money_ok y25.Amount y164 H161 hy165) ?_ (wn_t rfl rfl (by decide) rfl hb163)
            rintro e167 wd166 ⟨rfl, H169⟩
            refine ⟨_, rfl, ?_⟩
            refine r_pure (.bool (!y164)) rfl ?_ (wn_t rfl rfl (by decide) rfl hb163)
            refine r_pick_f (.bool (!y164)) hb163 rfl rfl ?_
            refine r_nil ?_
            refine n_cut ⟨!y164, upk (ac rfl (ac rfl (ac rfl (ac rfl (ac rfl (ac rfl (ac rfl (ac rfl an)))))))), H169, hm⟩
      · rintro ρ w ⟨q49, ⟨base, rfl⟩, H50, hm⟩
        unfold cross_Asset.j1 at hm
        rcases ite_some hm with ⟨hb51, hm⟩ | ⟨hb51, hm⟩
        · refine st_condt hb51 rfl ?_
          refine st_seq ?_
          refine st_region ?_
          refine r_pure (.int .i64 0) rfl ?_
          refine r_pure (.int .i64 1) rfl ?_
          refine r_seq ?_
          have hq_ := Option.some.inj hm
          subst hq_
          obtain ⟨rfl, rfl⟩ := some_inj2 (show some ((0, 1) : (Int × Int)) = some (r0_, r1_) from hm17)
          refine st_ret2 rfl rfl (Nat.le_of_ble_eq_true rfl) (Nat.le_of_ble_eq_true rfl) rfl rfl ?_
          exact ⟨rfl, H50.d⟩
        · refine st_condf hb51 rfl ?_
          refine st_skip ?_
          refine n_sq ?_
          refine st_seq ?_
          obtain ⟨⟨h053, h154⟩, hm⟩ := gd_some hm
          have hj55 := rd_get h053 h154
          obtain ⟨⟨y57, y58⟩, hy59, hm⟩ := bind_some hm
          refine Flow.run' RA15_9 RW15_9 [(fun η52 v => v.1 = .pointer (some ⟨b44, 2, none⟩)), (fun η52 v => v.1 = .int .i64 y25.Amount), (fun η52 v => v.1 = .slice A7 rates.length c8), (fun η52 v => v.1 = .int .i64 i20), (fun η52 v => v.1 = .pointer (some ((oA A7).add (Int.toNat i20 * 1)))), (fun η52 v => v.1 = .int .i64 (rd rates i20)), (fun η52 v => v.1 = .tuple #[.int .i64 y57, .bool y58]), (fun η52 v => v.1 = .tuple #[.int .i64 y57, .bool y58]), (fun η52 v => v.1 = .int .i64 y57), (fun η52 v => v.1 = .bool y58), (fun η52 v => v.1 = .int .i64 y57), (fun η52 v => v.1 = .bool y58)] [] rfl (by kernel_rfl) (by kernel_rfl) H50 ⟨?_, ?_, ?_, ?_, ?_, ?_, ?_, ?_, ?_, ?_, ?_, ?_, trivial⟩ ?_
          · intro η52 wd68 Δ69 hE64 hR65 hA66 H67
            refine sp_op [(8, .pointer (some ⟨b44, 0, none⟩))] (ac rfl an) ?_
            refine r_fa FA38_2 ⟨b44, 2, none⟩ rfl rfl ?_
            exact r_nil (n_lp ⟨_, rfl, undef, rfl, H67⟩)
          · intro η52 wd74 Δ75 hE70 hR71 hA72 H73
            have H73 : Hp w0 ((Δ75 ++ (Bx b44 38 [.string y25.Seller, .string y25.Buyer, .int .i64 y25.Amount] :: Γ))) wd74 := H73
            refine sp_op [(41, .pointer (some ⟨b44, 2, none⟩))] (ac (hE70 0 (by decide)) an) ?_
            refine r_ld1 (.int .i64 y25.Amount) LD3 rfl (((H73).tl.g0).cell _ rfl) ?_
            exact r_nil (n_lp ⟨_, rfl, undef, rfl, H73⟩)
          · intro η52 wd80 Δ81 hE76 hR77 hA78 H79
            refine sp_op [(1, .slice A7 rates.length c8)] (ac rfl an) ?_
            refine r_pure (.slice A7 rates.length c8) rfl ?_
            exact r_nil (n_lp ⟨_, rfl, undef, rfl, H79⟩)
          · intro η52 wd86 Δ87 hE82 hR83 hA84 H85
            refine sp_op [(7, .int .i64 i20)] (ac rfl an) ?_
            refine r_pure (.int .i64 i20) rfl ?_
            exact r_nil (n_lp ⟨_, rfl, undef, rfl, H85⟩)
          · intro η52 wd92 Δ93 hE88 hR89 hA90 H91
            have H91 : Hp w0 ((Δ93 ++ (Bx b44 38 [.string y25.Seller, .string y25.Buyer, .int .i64 y25.Amount] :: Γ))) wd92 := H91
            refine sp_op [(43, .slice A7 rates.length c8), (44, .int .i64 i20)] (ac (hE88 2 (by decide)) (ac (hE88 3 (by decide)) an)) ?_
            have hA97 := (hv10 _ (H91).tl.d).adO hj55
            refine r_ix IX41 rfl rfl hA97 h053 h154 ?_
            exact r_nil (n_lp ⟨_, rfl, undef, rfl, H91⟩)
          · intro η52 wd102 Δ103 hE98 hR99 hA100 H101
            have H101 : Hp w0 ((Δ103 ++ (Bx b44 38 [.string y25.Seller, .string y25.Buyer, .int .i64 y25.Amount] :: Γ))) wd102 := H101
            refine sp_op [(45, .pointer (some ((oA A7).add (Int.toNat i20 * 1))))] (ac (hE98 4 (by decide)) an) ?_
            have hA104 := (hv10 _ (H101).tl.d).adO hj55
            refine r_ld1 (.int .i64 (rd rates i20)) LD3 rfl ((hv10 _ (H101).tl.d).c0A hA104 hj55 _ rfl) ?_
            exact r_nil (n_lp ⟨_, rfl, undef, rfl, H101⟩)
          · intro η52 wd109 Δ110 hE105 hR106 hA107 H108
            have H108 : Hp w0 ((Δ110 ++ (Bx b44 38 [.string y25.Seller, .string y25.Buyer, .int .i64 y25.Amount] :: Γ))) wd109 := H108
            refine sp_op [(42, .int .i64 y25.Amount), (46, .int .i64 (rd rates i20))] (ac (hE105 1 (by decide)) (ac (hE105 5 (by decide)) an)) ?_
            refine r_callf Try.call28 (rate_Of_ok y25.Amount (rd rates i20) y57 y58 H108 hy59) ?_
            rintro e115 wd114 ⟨rfl, H117⟩
            refine ⟨_, rfl, ?_⟩
            exact r_nil (n_lp ⟨_, rfl, undef, rfl, H117⟩)
          · intro η52 wd122 Δ123 hE118 hR119 hA120 H121
            refine sp_op [(47, .tuple #[.int .i64 y57, .bool y58])] (ac (hE118 6 (by decide)) an) ?_
            refine r_pure (.tuple #[.int .i64 y57, .bool y58]) rfl ?_
            exact r_nil (n_lp ⟨_, rfl, undef, rfl, H121⟩)
          · intro η52 wd128 Δ129 hE124 hR125 hA126 H127
            refine sp_op [(40, .tuple #[.int .i64 y57, .bool y58])] (ac (hE124 7 (by decide)) an) ?_
            refine r_pure (.int .i64 y57) rfl ?_
            exact r_nil (n_lp ⟨_, rfl, undef, rfl, H127⟩)
          · intro η52 wd134 Δ135 hE130 hR131 hA132 H133
            refine sp_op [(40, .tuple #[.int .i64 y57, .bool y58])] (ac (hE130 7 (by decide)) an) ?_
            refine r_pure (.bool y58) rfl ?_
            exact r_nil (n_lp ⟨_, rfl, undef, rfl, H133⟩)
          · intro η52 wd140 Δ141 hE136 hR137 hA138 H139
            refine sp_op [(48, .int .i64 y57)] (ac (hE136 8 (by decide)) an) ?_
            refine r_pure (.int .i64 y57) rfl ?_
            exact r_nil (n_lp ⟨_, rfl, undef, rfl, H139⟩)
          · intro η52 wd146 Δ147 hE142 hR143 hA144 H145
            refine sp_op [(49, .bool y58)] (ac (hE142 9 (by decide)) an) ?_
            refine r_pure (.bool y58) rfl ?_
            exact r_nil (n_lp ⟨_, rfl, undef, rfl, H145⟩)
          · intro η52 wd149 hV150 H148
            have H151 : Hp w0 (Γ) wd149 := H148.d
            refine n_frame [(1, .slice A7 rates.length c8), (6, .int .i64 v15), (9, .int .i64 y57), (16, .slice A1 rows.length c2), (17, .int .i64 (rows.length : Int)), (18, .int .i64 i20)] (ac rfl (ac rfl (ac (hV150 10 rfl) (ac rfl (ac rfl (ac rfl an)))))) ?_
            refine n_sq ?_
            refine st_region ?_
            refine r_pure (.int .i64 v15) rfl ?_
            refine r_pure (.int .i64 y57) rfl ?_
            refine r_pure (.int .i64 (w64 (v15 + y57))) rfl ?_
            refine r_pure (.int .i64 (w64 (v15 + y57))) rfl ?_
            refine r_nil ?_
            refine n_bl ?_
            refine n_sq ?_
            refine st_region ?_
            refine r_pure (.int .i64 (w64 (i20 + 1))) rfl ?_
            refine r_pure (.int .i64 (w64 (i20 + 1))) rfl ?_
            refine r_nil ?_
            refine n_round (IH28 _ _ rfl _ _ _ ⟨i20 + 1, w64 (v15 + y57), dn21 ++ [y25], rfl, range_more hxs22, range_len hi23, upk (ac rfl (ac rfl (ac rfl (ac rfl (ac hnx34 an))))), H151⟩ hm)

set_option maxHeartbeats 2000000 in
theorem scutagelaw24_wakes_ok {w0 w : World} {Γ : List (World → Prop)}  (r0_ : Bool) (H : Hp w0 (Γ) w) (hm : scutagelaw24_wakes = some r0_) : Calls Try.prog 10 #[] w (fun e w => e = .returned (.bool r0_) ∧ Hp w0 (Γ) w) := by
  unfold scutagelaw24_wakes at hm
  refine st_enter Try.func10 rfl Try.ntmps10 (Nat.le_of_ble_eq_true rfl) ?_
  refine st_seq ?_
  refine st_region ?_
  refine r_pure (.bool false) rfl ?_
  refine r_seq ?_
  refine st_seq ?_
  refine st_region ?_
  obtain ⟨y1, hy2, hm⟩ := bind_some hm
  refine r_callf Try.call5 (cross_New_ok  y1 H hy2) ?_
  rintro e4 wd3 ⟨b7, A8, n9, c10, rfl, H6⟩
  obtain rfl := (H6.g1).leneq
  refine ⟨_, rfl, ?_⟩
  refine r_pure (.pointer (some ⟨b7, 0, none⟩)) rfl ?_
  refine r_seq ?_
  refine st_seq ?_
  refine st_cut (fun ρ w => ∃ A11 : Option Addr, ∃ n12 : Nat, ∃ c13 : Nat, ∃ xs14 : List cross_Row, ∃ q15 : Bool, (∃ base, ρ = updl base [(1, .pointer (some ⟨b7, 0, none⟩)), (17, .bool q15)]) ∧ Hp w0 (Row K38 (.slice A11 n12 c13) xs14 :: Bx b7 53 [.slice A11 n12 c13] :: Γ) w ∧ scutagelaw24_wakes.j1 xs14 q15 = some r0_) ?_ ?_
  · refine st_region ?_
    refine r_pure (.pointer (some ⟨b7, 0, none⟩)) rfl ?_
    refine r_eqn Try.underlying23 rfl rfl ?_
    refine r_pure (.bool false) rfl ?_
    refine r_pure (.pointer (some ⟨b7, 0, none⟩)) rfl ?_ (wn_t rfl rfl (by decide) rfl rfl)
    obtain ⟨y40, hy41, hm⟩ := bind_some hm
    refine r_callf Try.call8 (cross_Cross_Rows_ok b7 (⟨y1.f_l⟩ : cross_Cross) A8 y1.f_l.length c10 rfl (((H6).g1).cap) (fun _ H => (H.g1.rd)) (fun _ H => (H.g0)) y40 H6 hy41) ?_ (wn_t rfl rfl (by decide) rfl rfl)
    rintro e43 wd42 ⟨A46, n47, c48, rfl, H45⟩
    obtain rfl := (H45.g0).leneq
    refine ⟨_, rfl, ?_⟩
    refine r_len Try.underlying34 rfl ?_ (wn_t rfl rfl (by decide) rfl rfl)
    refine r_pure (.bool ((y40.length : Int) != 0)) rfl ?_ (wn_t rfl rfl (by decide) rfl rfl)
    refine r_pick_f (.bool ((y40.length : Int) != 0)) rfl rfl rfl ?_
    refine r_pure (.bool ((y40.length : Int) != 0)) rfl ?_
    rcases ite_some hm with ⟨hb49, hm⟩ | ⟨hb49, hm⟩
    · refine r_not (wn_f rfl rfl (by decide) rfl hb49) ?_
      refine r_not (wn_f rfl rfl (by decide) rfl hb49) ?_
      refine r_not (wn_f rfl rfl (by decide) rfl hb49) ?_
      refine r_pick_t (.bool true) hb49 rfl rfl ?_
      refine r_nil ?_
      refine n_cut ⟨A8, y1.f_l.length, c10, y1.f_l, true, upk (ac rfl (ac rfl an)), H45.d.u1, hm⟩
    · refine r_pure (.pointer (some ⟨b7, 0, none⟩)) rfl ?_ (wn_t rfl rfl (by decide) rfl hb49)
      obtain ⟨⟨y50, y51⟩, hy52, hm⟩ := bind_some hm
      refine r_callf Try.call7 (cross_Cross_Add_ok b7 (⟨y1.f_l⟩ : cross_Cross) A8 c10 (⟨#[97]⟩ : ByteArray) (⟨#[98]⟩ : ByteArray) 100 y50 y51 H45.u2.u2 hy52) ?_ (wn_t rfl rfl (by decide) rfl hb49)
      rintro e54 wd53 ⟨A57, n58, c59, rfl, H56⟩
      obtain rfl := (H56.g1).leneq
      refine ⟨_, rfl, ?_⟩
      refine r_pure (.bool (y50 != 0)) rfl ?_ (wn_t rfl rfl (by decide) rfl hb49)
      refine r_pick_f (.bool (y50 != 0)) hb49 rfl rfl ?_
      refine r_nil ?_
      refine n_cut ⟨A57, y51.f_l.length, c59, y51.f_l, y50 != 0, upk (ac rfl (ac rfl an)), H56.u2.d.u1, hm⟩
  · rintro ρ w ⟨A11, n12, c13, xs14, q15, ⟨base, rfl⟩, H16, hm⟩
    obtain rfl := (H16.g0).leneq
    unfold scutagelaw24_wakes.j1 at hm
    rcases ite_some hm with ⟨hb17, hm⟩ | ⟨hb17, hm⟩
    · refine st_condt hb17 rfl ?_
      refine st_seq ?_
      refine st_region ?_
      refine r_pure (.bool false) rfl ?_
      refine r_seq ?_
      have hq_ := Option.some.inj hm
      subst hq_
      refine st_ret1 rfl rfl (Nat.le_of_ble_eq_true rfl) rfl ?_
      exact ⟨rfl, H16.d.d⟩
    · refine st_condf hb17 rfl ?_
      refine st_skip ?_
      refine n_sq ?_
      refine st_seq ?_
      refine st_region ?_
      refine r_pure (.pointer (some ⟨b7, 0, none⟩)) rfl ?_
      obtain ⟨y18, hy19, hm⟩ := bind_some hm
      refine r_callf Try.call8 (cross_Cross_Rows_ok b7 (⟨xs14⟩ : cross_Cross) A11 xs14.length c13 rfl (((H16).g0).cap) (fun _ H => (H.g0.rd)) (fun _ H => (H.g1)) y18 H16 hy19) ?_
      rintro e21 wd20 ⟨A24, n25, c26, rfl, H23⟩
      obtain rfl := (H23.g0).leneq
      refine ⟨_, rfl, ?_⟩
      refine r_buildSlice (K := K3) ([250000] : List Int) EL41 rfl rfl rfl (by decide) (by decide) rfl H23 ?_
      intro b27 wd29 H28
      obtain ⟨⟨y30, y31⟩, hy32, hm⟩ := bind_some hm
      refine r_callf Try.call15 (cross_Asset_ok y18 A24 y18.length c26 rfl (((H28).g1).cap) (fun _ H => (H.g1.rd)) ([250000] : List Int) (some ⟨b27, 0, none⟩) 1 1 rfl (((H28).g0).cap) (fun _ H => (H.g0.rd)) y30 y31 H28 hy32) ?_
      rintro e34 wd33 ⟨rfl, H36⟩
      refine ⟨_, rfl, ?_⟩
      refine r_pure (.tuple #[.int .i64 y30, .int .i64 y31]) rfl ?_
      refine r_pure (.int .i64 y30) rfl ?_
      refine r_pure (.int .i64 y31) rfl ?_
      refine r_pure (.int .i64 y30) rfl ?_
      refine r_pure (.int .i64 y31) rfl ?_
      refine r_seq ?_
      refine st_cut (fun ρ w => ∃ q37 : Bool, (∃ base, ρ = updl base [(0, .bool q37)]) ∧ Hp w0 (Γ) w ∧ scutagelaw24_wakes.j2 q37 = some r0_) ?_ ?_
      · refine st_region ?_
        refine r_pure (.int .i64 y31) rfl ?_
        refine r_pure (.bool (y31 == 0)) rfl ?_
        refine r_pure (.bool (y31 == 0)) rfl ?_
        rcases ite_some hm with ⟨hb39, hm⟩ | ⟨hb39, hm⟩
        · refine r_pure (.int .i64 y30) rfl ?_ (wn_t rfl rfl (by decide) rfl hb39)
          refine r_pure (.bool (y30 == 25)) rfl ?_ (wn_t rfl rfl (by decide) rfl hb39)
          refine r_pick_t (.bool (y30 == 25)) hb39 rfl rfl ?_
          refine r_pure (.bool (y30 == 25)) rfl ?_
          refine r_nil ?_
          refine n_cut ⟨y30 == 25, upk (ac rfl an), H36.d.d.d.d, hm⟩
        · refine r_not (wn_f rfl rfl (by decide) rfl hb39) ?_
          refine r_not (wn_f rfl rfl (by decide) rfl hb39) ?_
          refine r_pick_f (.bool false) hb39 rfl rfl ?_
          refine r_pure (.bool false) rfl ?_
          refine r_nil ?_
          refine n_cut ⟨false, upk (ac rfl an), H36.d.d.d.d, hm⟩
      · rintro ρ w ⟨q37, ⟨base, rfl⟩, H38, hm⟩
        unfold scutagelaw24_wakes.j2 at hm
        have hq_ := Option.some.inj hm
        subst hq_
        refine st_ret1 rfl rfl (Nat.le_of_ble_eq_true rfl) rfl ?_
        exact ⟨rfl, H38⟩


end Go.Proofs.Ytfhekejaobmacaa
