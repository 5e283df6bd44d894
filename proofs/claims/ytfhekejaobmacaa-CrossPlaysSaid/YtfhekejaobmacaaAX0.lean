/- The Go functions come to their models: printed by gen.py. -/
import Derived.Test.YtfhekejaobmacaaAT
set_option linter.unusedVariables false
set_option linter.unusedSimpArgs false
set_option maxRecDepth 100000
namespace Go.Proofs.Ytfhekejaobmacaa
open Go Go.RowKit
attribute [local irreducible] W R N L Hp Row SlR Bx

set_option maxHeartbeats 2000000 in
theorem cross_New_ok {w0 w : World} {Γ : List (World → Prop)}  (r0_ : cross_Cross) (H : Hp w0 (Γ) w) (hm : cross_New = some r0_) : Calls Try.prog 5 #[] w (fun e w => ∃ (bx1 : Nat), ∃ (Ax2 : Option Addr) (nx3 cx4 : Nat), e = .returned (.pointer (some ⟨bx1, 0, none⟩)) ∧ Hp w0 (Bx bx1 53 [.slice Ax2 nx3 cx4] :: Row K38 (.slice Ax2 nx3 cx4) r0_.f_l :: Γ) w) := by
  unfold cross_New at hm
  refine st_enter Try.func5 rfl Try.ntmps5 (Nat.le_of_ble_eq_true rfl) ?_
  refine st_seq ?_
  refine st_region ?_
  refine r_pure (.pointer none) rfl ?_
  refine r_seq ?_
  refine st_seq ?_
  refine st_region ?_
  refine r_build [.slice none 0 0] FL53 rfl ?_
  refine r_box [.slice none 0 0] H rfl ?_
  intro b1 wd3 H2
  refine r_pure (.pointer (some ⟨b1, 0, none⟩)) rfl ?_
  refine r_seq ?_
  have H4 := H2.add (A := Row K38 (.slice none 0 0) []) Row.nil
  have hq_ := Option.some.inj hm
  subst hq_
  refine st_ret1 rfl rfl (Nat.le_of_ble_eq_true rfl) rfl ?_
  exact ⟨b1, none, 0, 0, rfl, H4.u1⟩

set_option maxHeartbeats 2000000 in
theorem scutagekeep_Within_ok {w0 w : World} {Γ : List (World → Prop)} (v_ : Int) (n_ : Int) (r0_ : Int) (H : Hp w0 (Γ) w) (hm : scutagekeep_Within v_ n_ = some r0_) : Calls Try.prog 6 #[.int .i64 v_, .int .i64 n_] w (fun e w => e = .returned (.int .i64 r0_) ∧ Hp w0 (Γ) w) := by
  unfold scutagekeep_Within at hm
  refine st_enter Try.func6 rfl Try.ntmps6 (Nat.le_of_ble_eq_true rfl) ?_
  refine st_seq ?_
  refine st_region ?_
  refine r_pure (.int .i64 0) rfl ?_
  refine r_seq ?_
  refine st_seq ?_
  refine st_seq ?_
  refine st_region ?_
  refine r_pure (.int .i64 n_) rfl ?_
  refine r_pure (.bool (decide (n_ < 1))) rfl ?_
  refine r_seq ?_
  rcases ite_some hm with ⟨hb1, hm⟩ | ⟨hb1, hm⟩
  · refine st_condt hb1 rfl ?_
    refine st_seq ?_
    refine st_region ?_
    refine r_pure (.int .i64 0) rfl ?_
    refine r_seq ?_
    have hq_ := Option.some.inj hm
    subst hq_
    refine st_ret1 rfl rfl (Nat.le_of_ble_eq_true rfl) rfl ?_
    exact ⟨rfl, H⟩
  · refine st_condf hb1 rfl ?_
    refine st_skip ?_
    refine n_sq ?_
    refine st_seq ?_
    refine st_region ?_
    refine r_pure (.int .i64 v_) rfl ?_
    refine r_pure (.int .i64 n_) rfl ?_
    obtain ⟨h2, hm⟩ := gd_some hm
    refine r_rem h2 rfl rfl ?_
    refine r_pure (.int .i64 (Int.tmod v_ n_)) rfl ?_
    refine r_seq ?_
    refine st_cut (fun ρ w => ∃ v3 : Int, (∃ base, ρ = updl base [(5, .int .i64 v3)]) ∧ Hp w0 (Γ) w ∧ scutagekeep_Within.j1 v3 = some r0_) ?_ ?_
    · refine st_seq ?_
      refine st_region ?_
      refine r_pure (.int .i64 (Int.tmod v_ n_)) rfl ?_
      refine r_pure (.bool (decide (Int.tmod v_ n_ < 0))) rfl ?_
      refine r_seq ?_
      rcases ite_some hm with ⟨hb5, hm⟩ | ⟨hb5, hm⟩
      · refine st_condt hb5 rfl ?_
        refine st_region ?_
        refine r_pure (.int .i64 (Int.tmod v_ n_)) rfl ?_
        refine r_pure (.int .i64 n_) rfl ?_
        refine r_pure (.int .i64 (w64 (Int.tmod v_ n_ + n_))) rfl ?_
        refine r_pure (.int .i64 (w64 (Int.tmod v_ n_ + n_))) rfl ?_
        refine r_nil ?_
        refine n_cut ⟨w64 (Int.tmod v_ n_ + n_), upk (ac rfl an), H, hm⟩
      · refine st_condf hb5 rfl ?_
        refine st_skip ?_
        refine n_cut ⟨Int.tmod v_ n_, upk (ac rfl an), H, hm⟩
    · rintro ρ w ⟨v3, ⟨base, rfl⟩, H4, hm⟩
      unfold scutagekeep_Within.j1 at hm
      refine st_seq ?_
      refine st_region ?_
      refine r_pure (.int .i64 v3) rfl ?_
      refine r_pure (.int .i64 v3) rfl ?_
      refine r_seq ?_
      have hq_ := Option.some.inj hm
      subst hq_
      refine st_ret1 rfl rfl (Nat.le_of_ble_eq_true rfl) rfl ?_
      exact ⟨rfl, H4⟩

set_option maxHeartbeats 2000000 in
theorem scutageplay_Amount_ok {w0 w : World} {Γ : List (World → Prop)} (n_ : Int) (r0_ : Int) (H : Hp w0 (Γ) w) (hm : scutageplay_Amount n_ = some r0_) : Calls Try.prog 11 #[.int .i64 n_] w (fun e w => e = .returned (.int .i64 r0_) ∧ Hp w0 (Γ) w) := by
  unfold scutageplay_Amount at hm
  refine st_enter Try.func11 rfl Try.ntmps11 (Nat.le_of_ble_eq_true rfl) ?_
  refine st_seq ?_
  refine st_region ?_
  refine r_pure (.int .i64 0) rfl ?_
  refine r_seq ?_
  refine st_seq ?_
  refine st_seq ?_
  refine st_region ?_
  refine r_pure (.int .i64 n_) rfl ?_
  refine r_rem (by decide) rfl rfl ?_
  refine r_seq ?_
  refine st_block ?_
  refine st_seq ?_
  refine st_region ?_
  refine r_pure (.bool (Int.tmod n_ 23 == 20)) rfl ?_
  refine r_pure (.bool (Int.tmod n_ 23 == 20)) rfl ?_
  refine r_seq ?_
  rcases ite_some hm with ⟨hb1, hm⟩ | ⟨hb1, hm⟩
  · refine st_condt hb1 rfl ?_
    refine st_seq ?_
    refine st_region ?_
    refine r_pure (.int .i64 n_) rfl ?_
    refine r_quo (by decide) rfl rfl ?_
    obtain ⟨y2, hy3, hm⟩ := bind_some hm
    refine r_callf Try.call6 (scutagekeep_Within_ok (w64 (Int.tdiv n_ 23)) 5 y2 H hy3) ?_
    rintro e5 wd4 ⟨rfl, H7⟩
    refine ⟨_, rfl, ?_⟩
    refine r_pure (.int .i64 (w64 (100000000000 - y2))) rfl ?_
    refine r_pure (.int .i64 (w64 (w64 (100000000000 - y2) + 2))) rfl ?_
    refine r_pure (.int .i64 (w64 (w64 (100000000000 - y2) + 2))) rfl ?_
    refine r_seq ?_
    have hq_ := Option.some.inj hm
    subst hq_
    refine st_ret1 rfl rfl (Nat.le_of_ble_eq_true rfl) rfl ?_
    exact ⟨rfl, H7⟩
  · refine st_condf hb1 rfl ?_
    refine st_seq ?_
    refine st_region ?_
    refine r_pure (.bool (Int.tmod n_ 23 == 21)) rfl ?_
    refine r_pure (.bool (Int.tmod n_ 23 == 21)) rfl ?_
    refine r_seq ?_
    rcases ite_some hm with ⟨hb8, hm⟩ | ⟨hb8, hm⟩
    · refine st_condt hb8 rfl ?_
      refine st_seq ?_
      refine st_region ?_
      refine r_pure (.int .i64 n_) rfl ?_
      refine r_quo (by decide) rfl rfl ?_
      obtain ⟨y9, hy10, hm⟩ := bind_some hm
      refine r_callf Try.call6 (scutagekeep_Within_ok (w64 (Int.tdiv n_ 23)) 5 y9 H hy10) ?_
      rintro e12 wd11 ⟨rfl, H14⟩
      refine ⟨_, rfl, ?_⟩
      refine r_pure (.int .i64 (w64 ((-100000000000) + y9))) rfl ?_
      refine r_pure (.int .i64 (w64 (w64 ((-100000000000) + y9) - 2))) rfl ?_
      refine r_pure (.int .i64 (w64 (w64 ((-100000000000) + y9) - 2))) rfl ?_
      refine r_seq ?_
      have hq_ := Option.some.inj hm
      subst hq_
      refine st_ret1 rfl rfl (Nat.le_of_ble_eq_true rfl) rfl ?_
      exact ⟨rfl, H14⟩
    · refine st_condf hb8 rfl ?_
      refine st_seq ?_
      refine st_region ?_
      refine r_pure (.bool (Int.tmod n_ 23 == 22)) rfl ?_
      refine r_pure (.bool (Int.tmod n_ 23 == 22)) rfl ?_
      refine r_seq ?_
      rcases ite_some hm with ⟨hb15, hm⟩ | ⟨hb15, hm⟩
      · refine st_condt hb15 rfl ?_
        refine st_seq ?_
        refine st_region ?_
        refine r_pure (.int .i64 n_) rfl ?_
        refine r_pure (.int .i64 n_) rfl ?_
        refine r_seq ?_
        have hq_ := Option.some.inj hm
        subst hq_
        refine st_ret1 rfl rfl (Nat.le_of_ble_eq_true rfl) rfl ?_
        exact ⟨rfl, H⟩
      · refine st_condf hb15 rfl ?_
        refine st_seq ?_
        refine st_region ?_
        refine r_pure (.bool (Int.tmod n_ 23 == 19)) rfl ?_
        refine r_pure (.bool (Int.tmod n_ 23 == 19)) rfl ?_
        refine r_seq ?_
        rcases ite_some hm with ⟨hb16, hm⟩ | ⟨hb16, hm⟩
        · refine st_condt hb16 rfl ?_
          refine st_seq ?_
          refine st_region ?_
          refine r_pure (.int .i64 n_) rfl ?_
          refine r_quo (by decide) rfl rfl ?_
          obtain ⟨y17, hy18, hm⟩ := bind_some hm
          refine r_callf Try.call6 (scutagekeep_Within_ok (w64 (Int.tdiv n_ 23)) 200000000001 y17 H hy18) ?_
          rintro e20 wd19 ⟨rfl, H22⟩
          refine ⟨_, rfl, ?_⟩
          refine r_pure (.int .i64 (w64 (y17 - 100000000000))) rfl ?_
          refine r_pure (.int .i64 (w64 (y17 - 100000000000))) rfl ?_
          refine r_seq ?_
          have hq_ := Option.some.inj hm
          subst hq_
          refine st_ret1 rfl rfl (Nat.le_of_ble_eq_true rfl) rfl ?_
          exact ⟨rfl, H22⟩
        · refine st_condf hb16 rfl ?_
          refine st_skip ?_
          refine n_bl ?_
          refine n_sq ?_
          refine st_seq ?_
          refine st_region ?_
          refine r_pure (.int .i64 n_) rfl ?_
          obtain ⟨y23, hy24, hm⟩ := bind_some hm
          refine r_callf Try.call6 (scutagekeep_Within_ok n_ 4001 y23 H hy24) ?_
          rintro e26 wd25 ⟨rfl, H28⟩
          refine ⟨_, rfl, ?_⟩
          refine r_pure (.int .i64 (w64 (y23 - 2000))) rfl ?_
          refine r_pure (.int .i64 (w64 (y23 - 2000))) rfl ?_
          refine r_seq ?_
          have hq_ := Option.some.inj hm
          subst hq_
          refine st_ret1 rfl rfl (Nat.le_of_ble_eq_true rfl) rfl ?_
          exact ⟨rfl, H28⟩

set_option maxHeartbeats 2000000 in
theorem rate_Money_ok {w0 w : World} {Γ : List (World → Prop)} (n_ : Int) (r0_ : Bool) (H : Hp w0 (Γ) w) (hm : rate_Money n_ = some r0_) : Calls Try.prog 17 #[.int .i64 n_] w (fun e w => e = .returned (.bool r0_) ∧ Hp w0 (Γ) w) := by
  unfold rate_Money at hm
  refine st_enter Try.func17 rfl Try.ntmps17 (Nat.le_of_ble_eq_true rfl) ?_
  refine st_seq ?_
  refine st_region ?_
  refine r_pure (.bool false) rfl ?_
  refine r_seq ?_
  refine st_cut (fun ρ w => ∃ q1 : Bool, (∃ base, ρ = updl base [(2, .bool q1)]) ∧ Hp w0 (Γ) w ∧ rate_Money.j1 q1 = some r0_) ?_ ?_
  · refine st_region ?_
    refine r_pure (.int .i64 n_) rfl ?_
    refine r_pure (.bool (decide (n_ ≥ (-100000000000)))) rfl ?_
    refine r_pure (.bool (decide (n_ ≥ (-100000000000)))) rfl ?_
    rcases ite_some hm with ⟨hb3, hm⟩ | ⟨hb3, hm⟩
    · refine r_pure (.int .i64 n_) rfl ?_ (wn_t rfl rfl (by decide) rfl hb3)
      refine r_pure (.bool (decide (n_ ≤ 100000000000))) rfl ?_ (wn_t rfl rfl (by decide) rfl hb3)
      refine r_pick_t (.bool (decide (n_ ≤ 100000000000))) hb3 rfl rfl ?_
      refine r_pure (.bool (decide (n_ ≤ 100000000000))) rfl ?_
      refine r_nil ?_
      refine n_cut ⟨decide (n_ ≤ 100000000000), upk (ac rfl an), H, hm⟩
    · refine r_not (wn_f rfl rfl (by decide) rfl hb3) ?_
      refine r_not (wn_f rfl rfl (by decide) rfl hb3) ?_
      refine r_pick_f (.bool false) hb3 rfl rfl ?_
      refine r_pure (.bool false) rfl ?_
      refine r_nil ?_
      refine n_cut ⟨false, upk (ac rfl an), H, hm⟩
  · rintro ρ w ⟨q1, ⟨base, rfl⟩, H2, hm⟩
    unfold rate_Money.j1 at hm
    have hq_ := Option.some.inj hm
    subst hq_
    refine st_ret1 rfl rfl (Nat.le_of_ble_eq_true rfl) rfl ?_
    exact ⟨rfl, H2⟩

set_option maxHeartbeats 2000000 in
theorem slices_IndexFunc_cross_Row_ok {w0 w : World} {Γ : List (World → Prop)} (s_ : List cross_Row) (A1 : Option Addr) (n6 c2 : Nat) (hn5 : n6 = s_.length) (hc3 : s_.length ≤ c2) (hv4 : ∀ u, Hp w0 Γ u → SlR K38 A1 s_ u) (fv7 : Value) (f_ : cross_Row → Option Bool) (hp8 : FnOk Try.prog w0 Γ fv7 (fun x => [.agg #[.string x.Seller, .string x.Buyer, .int .i64 x.Amount]]) (fun r => .bool r) f_) (r0_ : Int) (H : Hp w0 (Γ) w) (hm : slices_IndexFunc_cross_Row s_ f_ = some r0_) : Calls Try.prog 19 #[.slice A1 n6 c2, fv7] w (fun e w => e = .returned (.int .i64 r0_) ∧ Hp w0 (Γ) w) := by
  subst hn5
  obtain ⟨gf9, gcap10, rfl, ge11, gp12⟩ := hp8
  unfold slices_IndexFunc_cross_Row at hm
  refine st_enter Try.func19 rfl Try.ntmps19 (Nat.le_of_ble_eq_true rfl) ?_
  refine st_seq ?_
  refine st_region ?_
  refine r_pure (.int .i64 0) rfl ?_
  refine r_seq ?_
  refine st_seq ?_
  refine st_seq ?_
  refine st_region ?_
  refine r_pure (.slice A1 s_.length c2) rfl ?_
  refine r_len Try.underlying34 rfl ?_
  refine r_pure (.int .i64 0) rfl ?_
  refine r_seq ?_
  refine st_block ?_
  have hlim32 := (hv4 _ H).lim
  obtain ⟨tl15, hl16, hm14⟩ := bind_some hm
  refine st_loopL (slices_IndexFunc_cross_Row.l1 f_) (fun ys21 s ρ w => ∃ i17 : Int, ∃ dn18 : List cross_Row, i17 = s ∧ s_ = dn18 ++ ys21 ∧ i17 = (dn18.length : Int) ∧ (∃ base, ρ = updl base [(0, .slice A1 s_.length c2), (1, .func (.func gf9) #[] (List.toArray gcap10)), (7, .int .i64 (s_.length : Int)), (8, .int .i64 i17)]) ∧ Hp w0 (Γ) w) hl16 ⟨0, [], rfl, rfl, rfl, upk (ac rfl (ac rfl (ac rfl (ac rfl an)))), H⟩ ?_
  rintro m ys21 IH25 s ρ w ⟨i17, dn18, rfl, hxs19, hi20, ⟨base, rfl⟩, H13⟩ hm
  rcases ys21 with _ | ⟨y22, ys21⟩
  · rw [slices_IndexFunc_cross_Row.l1] at hm
    have hb26 := range_end hxs19 hi20
    refine st_seq ?_
    refine st_region ?_
    refine r_pure (.bool (decide (i17 < (s_.length : Int)))) rfl ?_
    refine r_seq ?_
    refine st_seq ?_
    refine st_condf hb26 rfl ?_
    have hq_ := Option.some.inj hm
    refine st_exit rfl ?_
    subst hq_
    refine n_sq ?_
    refine st_seq ?_
    refine st_region ?_
    refine r_pure (.int .i64 (-1)) rfl ?_
    refine r_seq ?_
    have hq_ := Option.some.inj hm14
    subst hq_
    refine st_ret1 rfl rfl (Nat.le_of_ble_eq_true rfl) rfl ?_
    exact ⟨rfl, H13⟩
  · rw [slices_IndexFunc_cross_Row.l1] at hm
    have hb27 := range_in hxs19 hi20
    obtain ⟨h028, h129, hj30⟩ := range_ix hxs19 hi20
    have hnx31 := range_next hxs19 hi20 hlim32
    refine st_seq ?_
    refine st_region ?_
    refine r_pure (.bool (decide (i17 < (s_.length : Int)))) rfl ?_
    refine r_seq ?_
    refine st_seq ?_
    refine st_condt hb27 rfl ?_
    refine st_skip ?_
    refine n_sq ?_
    refine st_seq ?_
    refine st_block ?_
    refine st_seq ?_
    refine st_region ?_
    refine r_pure (.int .i64 i17) rfl ?_
    refine r_pure (.int .i64 i17) rfl ?_
    refine r_seq ?_
    refine st_seq ?_
    refine st_region ?_
    refine r_pure (.func (.func gf9) #[] (List.toArray gcap10)) rfl ?_
    refine r_pure (.slice A1 s_.length c2) rfl ?_
    refine r_pure (.int .i64 i17) rfl ?_
    have hA33 := (hv4 _ H13).adO hj30
    refine r_ix IX34 rfl rfl hA33 h028 h129 ?_
    refine r_ldA [.string y22.Seller, .string y22.Buyer, .int .i64 y22.Amount] LD38 rfl rfl ((hv4 _ H13).csA hA33 hj30) ?_
    obtain ⟨y34, hy35, hm⟩ := bind_some hm
    refine r_callv rfl ge11 (gp12 _ _ hy35 _ _ H13 (fun _ H => H)) ?_
    rintro e38 wd37 ⟨rfl, H36⟩
    refine ⟨_, rfl, ?_⟩
    refine r_seq ?_
    rcases ite_some hm with ⟨hb39, hm⟩ | ⟨hb39, hm⟩
    · refine st_condt hb39 rfl ?_
      refine st_seq ?_
      refine st_region ?_
      refine r_pure (.int .i64 i17) rfl ?_
      refine r_pure (.int .i64 i17) rfl ?_
      refine r_seq ?_
      have hq_ := Option.some.inj hm
      subst hq_
      have hq_ := Option.some.inj (show some (i17 : Int) = some r0_ from hm14)
      subst hq_
      refine st_ret1 rfl rfl (Nat.le_of_ble_eq_true rfl) rfl ?_
      exact ⟨rfl, H36⟩
    · refine st_condf hb39 rfl ?_
      refine st_skip ?_
      refine n_bl ?_
      refine n_sq ?_
      refine st_region ?_
      refine r_pure (.int .i64 (w64 (i17 + 1))) rfl ?_
      refine r_pure (.int .i64 (w64 (i17 + 1))) rfl ?_
      refine r_nil ?_
      refine n_round (IH25 _ _ rfl _ _ _ ⟨i17 + 1, dn18 ++ [y22], rfl, range_more hxs19, range_len hi20, upk (ac rfl (ac rfl (ac rfl (ac hnx31 an)))), H36⟩ hm)

set_option maxHeartbeats 2000000 in
theorem cross_Cross_Add_c1_ok {w0 w : World} {Γ : List (World → Prop)} (r_ : cross_Row) (b2 : Nat) (cap1 : ByteArray) (hv3 : ∀ u, Hp w0 Γ u → Bx b2 9 [.string cap1] u) (b5 : Nat) (cap4 : ByteArray) (hv6 : ∀ u, Hp w0 Γ u → Bx b5 9 [.string cap4] u) (r0_ : Bool) (H : Hp w0 (Γ) w) (hm : cross_Cross_Add_c1 r_ cap1 cap4 = some r0_) : Calls Try.prog 18 #[.agg #[.string r_.Seller, .string r_.Buyer, .int .i64 r_.Amount], .pointer (some ⟨b2, 0, none⟩), .pointer (some ⟨b5, 0, none⟩)] w (fun e w => e = .returned (.bool r0_) ∧ Hp w0 (Γ) w) := by
  unfold cross_Cross_Add_c1 at hm
  refine st_enter Try.func18 rfl Try.ntmps18 (Nat.le_of_ble_eq_true rfl) ?_
  refine st_seq ?_
  refine st_region ?_
  refine r_box [.string r_.Seller, .string r_.Buyer, .int .i64 r_.Amount] H rfl ?_
  intro b7 wd9 H8
  refine r_pure (.bool false) rfl ?_
  refine r_seq ?_
  refine st_cut (fun ρ w => ∃ q10 : Bool, (∃ base, ρ = updl base [(4, .bool q10)]) ∧ Hp w0 (Γ) w ∧ cross_Cross_Add_c1.j1 q10 = some r0_) ?_ ?_
  · refine st_region ?_
    refine r_fa FA38_0 ⟨b7, 0, none⟩ rfl rfl ?_
    refine r_ld1 (.string r_.Seller) LD9 rfl ((H8.g0).cell _ rfl) ?_
    refine r_ld1 (.string cap1) LD9 rfl ((hv3 _ H8.d).cell _ rfl) ?_
    refine r_pure (.bool ((r_.Seller).toList == (cap1).toList)) rfl ?_
    refine r_pure (.bool ((r_.Seller).toList == (cap1).toList)) rfl ?_
    rcases ite_some hm with ⟨hb12, hm⟩ | ⟨hb12, hm⟩
    · refine r_fa FA38_1 ⟨b7, 1, none⟩ rfl rfl ?_ (wn_t rfl rfl (by decide) rfl hb12)
      refine r_ld1 (.string r_.Buyer) LD9 rfl ((H8.g0).cell _ rfl) ?_ (wn_t rfl rfl (by decide) rfl hb12)
      refine r_ld1 (.string cap4) LD9 rfl ((hv6 _ H8.d).cell _ rfl) ?_ (wn_t rfl rfl (by decide) rfl hb12)
      refine r_pure (.bool ((r_.Buyer).toList == (cap4).toList)) rfl ?_ (wn_t rfl rfl (by decide) rfl hb12)
      refine r_pick_t (.bool ((r_.Buyer).toList == (cap4).toList)) hb12 rfl rfl ?_
      refine r_pure (.bool ((r_.Buyer).toList == (cap4).toList)) rfl ?_
      refine r_nil ?_
      refine n_cut ⟨(r_.Buyer).toList == (cap4).toList, upk (ac rfl an), H8.d, hm⟩
    · refine r_not (wn_f rfl rfl (by decide) rfl hb12) ?_
      refine r_not (wn_f rfl rfl (by decide) rfl hb12) ?_
      refine r_not (wn_f rfl rfl (by decide) rfl hb12) ?_
      refine r_not (wn_f rfl rfl (by decide) rfl hb12) ?_
      refine r_pick_f (.bool false) hb12 rfl rfl ?_
      refine r_pure (.bool false) rfl ?_
      refine r_nil ?_
      refine n_cut ⟨false, upk (ac rfl an), H8.d, hm⟩
  · rintro ρ w ⟨q10, ⟨base, rfl⟩, H11, hm⟩
    unfold cross_Cross_Add_c1.j1 at hm
    have hq_ := Option.some.inj hm
    subst hq_
    refine st_ret1 rfl rfl (Nat.le_of_ble_eq_true rfl) rfl ?_
    exact ⟨rfl, H11⟩

set_option maxHeartbeats 2000000 in
theorem slices_Clone_cross_Row_ok {w0 w : World} {Γ : List (World → Prop)} (s_ : List cross_Row) (A1 : Option Addr) (n6 c2 : Nat) (hn5 : n6 = s_.length) (hc3 : s_.length ≤ c2) (hv4 : ∀ u, Hp w0 Γ u → SlR K38 A1 s_ u) (r0_ : List cross_Row) (H : Hp w0 (Γ) w) (hm : slices_Clone_cross_Row s_ = some r0_) : Calls Try.prog 25 #[.slice A1 n6 c2] w (fun e w => ∃ (Ax1 : Option Addr) (nx2 cx3 : Nat), e = .returned (.slice Ax1 nx2 cx3) ∧ Hp w0 (Row K38 (.slice Ax1 nx2 cx3) r0_ :: Γ) w) := by
  subst hn5
  unfold slices_Clone_cross_Row at hm
  refine st_enter Try.func25 rfl Try.ntmps25 (Nat.le_of_ble_eq_true rfl) ?_
  refine st_seq ?_
  refine st_region ?_
  refine r_pure (.slice none 0 0) rfl ?_
  refine r_seq ?_
  refine st_seq ?_
  refine st_seq ?_
  refine st_region ?_
  refine r_pure (.slice A1 s_.length c2) rfl ?_
  rcases A1 with _ | ad7
  · obtain rfl := (hv4 _ H).none_nil
    have hm : some ([] : List cross_Row) = some r0_ := hm
    refine r_eqsn Try.underlying34 rfl rfl rfl ?_
    refine r_seq ?_
    refine st_condt rfl rfl ?_
    refine st_seq ?_
    refine st_region ?_
    refine r_pure (.slice none 0 0) rfl ?_
    refine r_seq ?_
    have H8 := H.add (A := Row K38 (.slice none 0 0) []) Row.nil
    have hq_ := Option.some.inj hm
    subst hq_
    refine st_ret1 rfl rfl (Nat.le_of_ble_eq_true rfl) rfl ?_
    exact ⟨none, 0, 0, rfl, H8⟩
  · refine r_eqsn Try.underlying34 rfl rfl rfl ?_
    refine r_seq ?_
    refine st_condf rfl rfl ?_
    refine st_skip ?_
    refine n_sq ?_
    refine st_seq ?_
    refine st_region ?_
    refine r_buildSlice (K := K38) ([] : List cross_Row) EL34 rfl rfl rfl (by decide) (by decide) rfl H ?_
    intro b9 wd11 H10
    refine r_pure (.slice (some ad7) s_.length c2) rfl ?_
    obtain ⟨hf12, hm⟩ := gd_some hm
    refine r_append (K := K38) (ys := s_) AP34 rfl rfl rfl rfl H10 ((hv4 _ H10.d).src) (fit_le hf12 (by decide)) ?_
    intro A13 c14 wd15 H16
    refine r_pure (.slice A13 ((([] : List cross_Row) ++ s_).length) c14) rfl ?_
    refine r_seq ?_
    have hq_ := Option.some.inj hm
    subst hq_
    refine st_ret1 rfl rfl (Nat.le_of_ble_eq_true rfl) rfl ?_
    exact ⟨A13, (([] : List cross_Row) ++ s_).length, c14, rfl, H16⟩

set_option maxHeartbeats 2000000 in
theorem cross_Cross_Rows_ok {w0 w : World} {Γ : List (World → Prop)} (b1 : Nat) (c_ : cross_Cross) (A2 : Option Addr) (n7 c3 : Nat) (hn6 : n7 = c_.f_l.length) (hc4 : c_.f_l.length ≤ c3) (hv5 : ∀ u, Hp w0 Γ u → SlR K38 A2 c_.f_l u) (hv8 : ∀ u, Hp w0 Γ u → Bx b1 53 [.slice A2 n7 c3] u) (r0_ : List cross_Row) (H : Hp w0 (Γ) w) (hm : cross_Cross_Rows c_ = some r0_) : Calls Try.prog 8 #[.pointer (some ⟨b1, 0, none⟩)] w (fun e w => ∃ (Ax1 : Option Addr) (nx2 cx3 : Nat), e = .returned (.slice Ax1 nx2 cx3) ∧ Hp w0 (Row K38 (.slice Ax1 nx2 cx3) r0_ :: Γ) w) := by
  subst hn6
  unfold cross_Cross_Rows at hm
  refine st_enter Try.func8 rfl Try.ntmps8 (Nat.le_of_ble_eq_true rfl) ?_
  refine st_seq ?_
  refine st_region ?_
  refine r_pure (.slice none 0 0) rfl ?_
  refine r_seq ?_
  refine st_seq ?_
  refine st_region ?_
  refine r_pure (.pointer (some ⟨b1, 0, none⟩)) rfl ?_
  refine r_pure (.pointer (some ⟨b1, 0, none⟩)) rfl ?_
  refine r_fa FA53_0 ⟨b1, 0, none⟩ rfl rfl ?_
  refine r_ld1 (.slice A2 c_.f_l.length c3) LD34 rfl ((hv8 _ H).cell _ rfl) ?_
  obtain ⟨y9, hy10, hm⟩ := bind_some hm
  refine r_callf Try.call25 (slices_Clone_cross_Row_ok c_.f_l A2 c_.f_l.length c3 rfl hc4 (fun _ H => (hv5 _ H)) y9 H hy10) ?_
  rintro e12 wd11 ⟨A15, n16, c17, rfl, H14⟩
  obtain rfl := (H14.g0).leneq
  refine ⟨_, rfl, ?_⟩
  refine r_pure (.slice A15 y9.length c17) rfl ?_
  refine r_seq ?_
  have hq_ := Option.some.inj hm
  subst hq_
  refine st_ret1 rfl rfl (Nat.le_of_ble_eq_true rfl) rfl ?_
  exact ⟨A15, y9.length, c17, rfl, H14⟩

set_option maxHeartbeats 2000000 in
theorem slices_DeleteFunc_cross_Row_ok {w0 w : World} {Γ : List (World → Prop)} (s_ : List cross_Row) (A1 : Option Addr) (n3 c2 : Nat) (fv4 : Value) (del : cross_Row → Option Bool) (hp5 : FnOk Try.prog w0 Γ fv4 (fun x => [.agg #[.string x.Seller, .string x.Buyer, .int .i64 x.Amount]]) (fun r => .bool r) del) (r0_ : List cross_Row) (H : Hp w0 (Row K38 (.slice A1 n3 c2) s_ :: Γ) w) (hm : slices_DeleteFunc_cross_Row s_ del = some r0_) : Calls Try.prog 20 #[.slice A1 n3 c2, fv4] w (fun e w => ∃ (Ax1 : Option Addr) (nx2 cx3 : Nat), e = .returned (.slice Ax1 nx2 cx3) ∧ Hp w0 (Row K38 (.slice Ax1 nx2 cx3) r0_ :: Γ) w) := by
  obtain ⟨gf6, gcap7, rfl, ge8, gp9⟩ := hp5
  obtain rfl := (H.g0).leneq
  unfold slices_DeleteFunc_cross_Row at hm
  refine st_enter Try.func20 rfl Try.ntmps20 (Nat.le_of_ble_eq_true rfl) ?_
  refine st_seq ?_
  refine st_region ?_
  refine r_pure (.slice none 0 0) rfl ?_
  refine r_seq ?_
  refine st_seq ?_
  refine st_region ?_
  refine r_pure (.slice A1 s_.length c2) rfl ?_
  refine r_pure (.func (.func gf6) #[] (List.toArray gcap7)) rfl ?_
  obtain ⟨y10, hy11, hm⟩ := bind_some hm
  refine r_callf Try.call19 (slices_IndexFunc_cross_Row_ok s_ A1 s_.length c2 rfl (((H).g0).cap) (fun _ H => (H.g0.rd)) (.func (.func gf6) #[] (List.toArray gcap7)) del ⟨gf6, gcap7, rfl, ge8, fun x y hy Δ w H hΔ => gp9 x y hy Δ w H (fun u hu => (hΔ u hu).d)⟩ y10 H hy11) ?_
  rintro e13 wd12 ⟨rfl, H15⟩
  refine ⟨_, rfl, ?_⟩
  refine r_pure (.int .i64 y10) rfl ?_
  refine r_seq ?_
  refine st_seq ?_
  refine st_seq ?_
  refine st_region ?_
  refine r_pure (.int .i64 y10) rfl ?_
  refine r_pure (.bool (y10 == (-1))) rfl ?_
  refine r_seq ?_
  rcases ite_some hm with ⟨hb16, hm⟩ | ⟨hb16, hm⟩
  · refine st_condt hb16 rfl ?_
    refine st_seq ?_
    refine st_region ?_
    refine r_pure (.slice A1 s_.length c2) rfl ?_
    refine r_pure (.slice A1 s_.length c2) rfl ?_
    refine r_seq ?_
    have hq_ := Option.some.inj hm
    subst hq_
    refine st_ret1 rfl rfl (Nat.le_of_ble_eq_true rfl) rfl ?_
    exact ⟨A1, s_.length, c2, rfl, H15⟩
  · refine st_condf hb16 rfl ?_
    refine st_skip ?_
    refine n_sq ?_
    refine st_seq ?_
    refine st_seq ?_
    refine st_region ?_
    refine r_pure (.int .i64 y10) rfl ?_
    refine r_pure (.int .i64 (w64 (y10 + 1))) rfl ?_
    refine r_pure (.int .i64 (w64 (y10 + 1))) rfl ?_
    refine r_seq ?_
    refine st_block ?_
    obtain ⟨tl25, hl26, hm24⟩ := bind_some hm
    refine st_loopF (slices_DeleteFunc_cross_Row.l1 s_ del) (fun s ρ w => ∃ xs20 : List cross_Row, ∃ v21 : Int, ∃ v22 : Int, (xs20, v21, v22) = s ∧ (∃ base, ρ = updl base [(0, .slice A1 s_.length c2), (1, .func (.func gf6) #[] (List.toArray gcap7)), (5, .int .i64 v21), (6, .int .i64 v22)]) ∧ Hp w0 (Row K38 (.slice A1 s_.length c2) xs20 :: Γ) w) hl26 (fun _ => rfl) ⟨s_, y10, w64 (y10 + 1), rfl, upk (ac rfl (ac rfl (ac rfl (ac rfl an)))), H15⟩ ?_
    rintro fuel32 IH34 s ρ w ⟨xs20, v21, v22, rfl, ⟨base, rfl⟩, H23⟩ hm
    rw [slices_DeleteFunc_cross_Row.l1] at hm
    refine st_seq ?_
    refine st_seq ?_
    refine st_region ?_
    refine r_pure (.int .i64 v22) rfl ?_
    refine r_pure (.slice A1 s_.length c2) rfl ?_
    refine r_len Try.underlying34 rfl ?_
    refine r_pure (.bool (decide (v22 < (s_.length : Int)))) rfl ?_
    refine r_seq ?_
    rcases ite_some hm with ⟨hb35, hm⟩ | ⟨hb35, hm⟩
    · refine st_condt hb35 rfl ?_
      refine st_skip ?_
      refine n_sq ?_
      refine st_cut (fun ρ w => ∃ xs36 : List cross_Row, ∃ v37 : Int, (∃ base, ρ = updl base [(0, .slice A1 s_.length c2), (1, .func (.func gf6) #[] (List.toArray gcap7)), (5, .int .i64 v37), (6, .int .i64 v22)]) ∧ Hp w0 (Row K38 (.slice A1 s_.length c2) xs36 :: Γ) w ∧ slices_DeleteFunc_cross_Row.j1 (slices_DeleteFunc_cross_Row.l1 s_ del fuel32) v22 xs36 v37 = some tl25) ?_ ?_
      · refine st_block ?_
        refine st_seq ?_
        refine st_region ?_
        refine r_pure (.slice A1 s_.length c2) rfl ?_
        refine r_pure (.int .i64 v22) rfl ?_
        obtain ⟨⟨h039, h140⟩, hm⟩ := gd_some hm
        have hj41 := rd_get h039 h140
        have hA42 := (H23.g0.rd).adO hj41
        refine r_ix IX34 rfl rfl hA42 h039 (by have h1_ := (H23.g0).leneq; have h2_ := h140; rw [← h1_] at h2_; exact h2_) ?_
        refine r_ldA [.string ((rd xs20 v22).Seller), .string ((rd xs20 v22).Buyer), .int .i64 ((rd xs20 v22).Amount)] LD38 rfl rfl ((H23.g0.rd).csA hA42 hj41) ?_
        refine r_alloc [.string ⟨#[]⟩, .string ⟨#[]⟩, .int .i64 0] Try.zeroValue38 H23 rfl ?_
        intro b43 wd45 H44
        refine r_stA [.string ((rd xs20 v22).Seller), .string ((rd xs20 v22).Buyer), .int .i64 ((rd xs20 v22).Amount)] LD38 rfl rfl rfl rfl H44 (Nat.le_of_ble_eq_true rfl) rfl ?_
        intro wd47 H46
        refine r_seq ?_
        refine st_seq ?_
        refine st_region ?_
        refine r_pure (.func (.func gf6) #[] (List.toArray gcap7)) rfl ?_
        refine r_ldA [.string ((rd xs20 v22).Seller), .string ((rd xs20 v22).Buyer), .int .i64 ((rd xs20 v22).Amount)] LD38 rfl rfl ((H46.g0).cells rfl) ?_
        obtain ⟨y48, hy49, hm⟩ := bind_some hm
        refine r_callv rfl ge8 (gp9 _ _ hy49 _ _ H46 (fun _ H => H.d.d)) ?_
        rintro e52 wd51 ⟨rfl, H50⟩
        refine ⟨_, rfl, ?_⟩
        refine r_pure (.bool (!y48)) rfl ?_
        refine r_seq ?_
        rcases ite_some hm with ⟨hb53, hm⟩ | ⟨hb53, hm⟩
        · refine st_condt hb53 rfl ?_
          refine st_seq ?_
          refine st_region ?_
          refine r_pure (.slice A1 s_.length c2) rfl ?_
          refine r_pure (.int .i64 v21) rfl ?_
          refine r_ldA [.string ((rd xs20 v22).Seller), .string ((rd xs20 v22).Buyer), .int .i64 ((rd xs20 v22).Amount)] LD38 rfl rfl ((H50.g0).cells rfl) ?_
          obtain ⟨⟨h054, h155⟩, hm⟩ := gd_some hm
          have hj56 := rd_get h054 h155
          refine r_ix IX34 rfl rfl hA42 h054 (by have h1_ := (H50.g1).leneq; have h2_ := h155; rw [← h1_] at h2_; exact h2_) ?_
          refine r_stxA (K := K38) ((rd xs20 v22)) hA42 LD38 rfl rfl rfl rfl H50.u1 (by have h1_ := h054; have h2_ := h155; first | omega | (simp only [List.length_set] at h1_ h2_ ⊢; omega)) ?_
          intro wd58 H57
          refine r_seq ?_
          refine st_region ?_
          refine r_pure (.int .i64 v21) rfl ?_
          refine r_pure (.int .i64 (w64 (v21 + 1))) rfl ?_
          refine r_pure (.int .i64 (w64 (v21 + 1))) rfl ?_
          refine r_nil ?_
          refine n_bl ?_
          refine n_cut ⟨xs20.set (Int.toNat v21) (rd xs20 v22), w64 (v21 + 1), upk (ac rfl (ac rfl (ac rfl (ac rfl an)))), H57.u1.d, hm⟩
        · refine st_condf hb53 rfl ?_
          refine st_skip ?_
          refine n_bl ?_
          refine n_cut ⟨xs20, v21, upk (ac rfl (ac rfl (ac rfl (ac rfl an)))), H50.d, hm⟩
      · rintro ρ w ⟨xs36, v37, ⟨base, rfl⟩, H38, hm⟩
        unfold slices_DeleteFunc_cross_Row.j1 at hm
        refine st_region ?_
        refine r_pure (.int .i64 v22) rfl ?_
        refine r_pure (.int .i64 (w64 (v22 + 1))) rfl ?_
        refine r_pure (.int .i64 (w64 (v22 + 1))) rfl ?_
        refine r_nil ?_
        refine n_round (IH34 _ _ _ ⟨xs36, v37, w64 (v22 + 1), rfl, upk (ac rfl (ac rfl (ac rfl (ac rfl an)))), H38⟩ hm)
    · refine st_condf hb35 rfl ?_
      have hq_ := Option.some.inj hm
      refine st_exit rfl ?_
      subst hq_
      refine n_sq ?_
      refine st_seq ?_
      refine st_region ?_
      refine r_pure (.slice A1 s_.length c2) rfl ?_
      refine r_pure (.int .i64 v21) rfl ?_
      obtain ⟨hs59, hm⟩ := gd_some hm24
      refine r_cut2 (xs := xs20) (lo := v21) (hi := (xs20.length : Int)) IX34 rfl (H23.g0).leneq (H23.g0.cap) (by have h_ := (H23.g0).leneq; simp only [BI]; omega) ⟨_, rfl⟩ hs59 ?_
      refine r_clear (K := K38) (lo := v21) (z := (⟨(⟨#[]⟩ : ByteArray), (⟨#[]⟩ : ByteArray), 0⟩ : cross_Row)) Try.underlying34 rfl rfl ZV38 rfl hs59.1 hs59.2.1 H23 ?_
      intro wd61 H60
      refine r_seq ?_
      refine st_seq ?_
      refine st_region ?_
      refine r_pure (.slice A1 s_.length c2) rfl ?_
      refine r_pure (.int .i64 v21) rfl ?_
      obtain ⟨hs62, hm⟩ := gd_some hm
      refine r_cut2 (xs := clr xs20 v21 (⟨(⟨#[]⟩ : ByteArray), (⟨#[]⟩ : ByteArray), 0⟩ : cross_Row)) (lo := (0 : Int)) (hi := v21) IX34 rfl (H60.g0).leneq (H60.g0.cap) ⟨_, rfl⟩ rfl hs62 ?_
      refine r_pure (.slice (cutA A1 (0 : Int) (c2 : Int) 3) ((sb (clr xs20 v21 (⟨(⟨#[]⟩ : ByteArray), (⟨#[]⟩ : ByteArray), 0⟩ : cross_Row)) (0 : Int) v21).length) (c2 - Int.toNat (0 : Int))) rfl ?_
      refine r_seq ?_
      have H63 : Hp w0 (Row K38 (.slice (cutA A1 (0 : Int) (c2 : Int) 3) ((sb (clr xs20 v21 (⟨(⟨#[]⟩ : ByteArray), (⟨#[]⟩ : ByteArray), 0⟩ : cross_Row)) (0 : Int) v21).length) (c2 - Int.toNat (0 : Int))) (sb (clr xs20 v21 (⟨(⟨#[]⟩ : ByteArray), (⟨#[]⟩ : ByteArray), 0⟩ : cross_Row)) (0 : Int) v21) :: _) _ := H60.imp fun _ h_ => h_.sb hs62.1 hs62.2.1 (by have := (H60.g0.cap); have := hs62; omega) (Int.le_refl _) hs62.2.2
      have hq_ := Option.some.inj hm
      subst hq_
      refine st_ret1 rfl rfl (Nat.le_of_ble_eq_true rfl) rfl ?_
      exact ⟨(cutA A1 (0 : Int) (c2 : Int) 3), (sb (clr xs20 v21 (⟨(⟨#[]⟩ : ByteArray), (⟨#[]⟩ : ByteArray), 0⟩ : cross_Row)) (0 : Int) v21).length, (c2 - Int.toNat (0 : Int)), rfl, H63⟩

set_option maxHeartbeats 2000000 in
theorem math_bits_Len64_ok {w0 w : World} {Γ : List (World → Prop)} (x_ : Int) (r0_ : Int) (H : Hp w0 (Γ) w) (hm : math_bits_Len64 x_ = some r0_) : Calls Try.prog 44 #[.int .u64 x_] w (fun e w => e = .returned (.int .i64 r0_) ∧ Hp w0 (Γ) w) := by
  unfold math_bits_Len64 at hm
  refine st_enter Try.func44 rfl Try.ntmps44 (Nat.le_of_ble_eq_true rfl) ?_
  refine st_seq ?_
  refine st_region ?_
  refine r_pure (.int .i64 0) rfl ?_
  refine r_seq ?_
  refine st_seq ?_
  refine st_seq ?_
  refine st_region ?_
  refine r_pure (.int .u64 x_) rfl ?_
  refine r_pure (.bool (decide (x_ ≥ 4294967296))) rfl ?_
  refine r_seq ?_
  rcases ite_some hm with ⟨hb1, hm⟩ | ⟨hb1, hm⟩
  · cases hm
  · refine st_condf hb1 rfl ?_
    refine st_skip ?_
    refine n_sq ?_
    refine st_seq ?_
    refine st_seq ?_
    refine st_region ?_
    refine r_pure (.int .u64 x_) rfl ?_
    refine r_pure (.bool (decide (x_ ≥ 65536))) rfl ?_
    refine r_seq ?_
    rcases ite_some hm with ⟨hb2, hm⟩ | ⟨hb2, hm⟩
    · cases hm
    · refine st_condf hb2 rfl ?_
      refine st_skip ?_
      refine n_sq ?_
      refine st_seq ?_
      refine st_seq ?_
      refine st_region ?_
      refine r_pure (.int .u64 x_) rfl ?_
      refine r_pure (.bool (decide (x_ ≥ 256))) rfl ?_
      refine r_seq ?_
      rcases ite_some hm with ⟨hb3, hm⟩ | ⟨hb3, hm⟩
      · cases hm
      · refine st_condf hb3 rfl ?_
        refine st_skip ?_
        refine n_sq ?_
        refine st_seq ?_
        refine st_region ?_
        refine r_pure (.int .i64 0) rfl ?_
        refine r_pure (.int .u64 x_) rfl ?_
        refine r_conv Try.underlying79 Try.underlying5 rfl ?_
        obtain ⟨h4, hm⟩ := gd_some hm
        refine r_byte Try.underlying9 rfl rfl h4 ?_
        refine r_conv Try.underlying5 Try.underlying3 rfl ?_
        refine r_pure (.int .i64 (w64 (0 + w64 (byteAt (⟨#[0, 1, 2, 2, 3, 3, 3, 3, 4, 4, 4, 4, 4, 4, 4, 4, 5, 5, 5, 5, 5, 5, 5, 5, 5, 5, 5, 5, 5, 5, 5, 5, 6, 6, 6, 6, 6, 6, 6, 6, 6, 6, 6, 6, 6, 6, 6, 6, 6, 6, 6, 6, 6, 6, 6, 6, 6, 6, 6, 6, 6, 6, 6, 6, 7, 7, 7, 7, 7, 7, 7, 7, 7, 7, 7, 7, 7, 7, 7, 7, 7, 7, 7, 7, 7, 7, 7, 7, 7, 7, 7, 7, 7, 7, 7, 7, 7, 7, 7, 7, 7, 7, 7, 7, 7, 7, 7, 7, 7, 7, 7, 7, 7, 7, 7, 7, 7, 7, 7, 7, 7, 7, 7, 7, 7, 7, 7, 7, 8, 8, 8, 8, 8, 8, 8, 8, 8, 8, 8, 8, 8, 8, 8, 8, 8, 8, 8, 8, 8, 8, 8, 8, 8, 8, 8, 8, 8, 8, 8, 8, 8, 8, 8, 8, 8, 8, 8, 8, 8, 8, 8, 8, 8, 8, 8, 8, 8, 8, 8, 8, 8, 8, 8, 8, 8, 8, 8, 8, 8, 8, 8, 8, 8, 8, 8, 8, 8, 8, 8, 8, 8, 8, 8, 8, 8, 8, 8, 8, 8, 8, 8, 8, 8, 8, 8, 8, 8, 8, 8, 8, 8, 8, 8, 8, 8, 8, 8, 8, 8, 8, 8, 8, 8, 8, 8, 8, 8, 8, 8, 8, 8, 8, 8, 8, 8, 8, 8, 8, 8, 8, 8, 8, 8, 8, 8, 8]⟩ : ByteArray) (IntKind.u8.wrap x_))))) rfl ?_
        refine r_pure (.int .i64 (w64 (0 + w64 (byteAt (⟨#[0, 1, 2, 2, 3, 3, 3, 3, 4, 4, 4, 4, 4, 4, 4, 4, 5, 5, 5, 5, 5, 5, 5, 5, 5, 5, 5, 5, 5, 5, 5, 5, 6, 6, 6, 6, 6, 6, 6, 6, 6, 6, 6, 6, 6, 6, 6, 6, 6, 6, 6, 6, 6, 6, 6, 6, 6, 6, 6, 6, 6, 6, 6, 6, 7, 7, 7, 7, 7, 7, 7, 7, 7, 7, 7, 7, 7, 7, 7, 7, 7, 7, 7, 7, 7, 7, 7, 7, 7, 7, 7, 7, 7, 7, 7, 7, 7, 7, 7, 7, 7, 7, 7, 7, 7, 7, 7, 7, 7, 7, 7, 7, 7, 7, 7, 7, 7, 7, 7, 7, 7, 7, 7, 7, 7, 7, 7, 7, 8, 8, 8, 8, 8, 8, 8, 8, 8, 8, 8, 8, 8, 8, 8, 8, 8, 8, 8, 8, 8, 8, 8, 8, 8, 8, 8, 8, 8, 8, 8, 8, 8, 8, 8, 8, 8, 8, 8, 8, 8, 8, 8, 8, 8, 8, 8, 8, 8, 8, 8, 8, 8, 8, 8, 8, 8, 8, 8, 8, 8, 8, 8, 8, 8, 8, 8, 8, 8, 8, 8, 8, 8, 8, 8, 8, 8, 8, 8, 8, 8, 8, 8, 8, 8, 8, 8, 8, 8, 8, 8, 8, 8, 8, 8, 8, 8, 8, 8, 8, 8, 8, 8, 8, 8, 8, 8, 8, 8, 8, 8, 8, 8, 8, 8, 8, 8, 8, 8, 8, 8, 8, 8, 8, 8, 8, 8, 8]⟩ : ByteArray) (IntKind.u8.wrap x_))))) rfl ?_
        refine r_seq ?_
        have hq_ := Option.some.inj hm
        subst hq_
        refine st_ret1 rfl rfl (Nat.le_of_ble_eq_true rfl) rfl ?_
        exact ⟨rfl, H⟩

set_option maxHeartbeats 2000000 in
theorem math_bits_Len_ok {w0 w : World} {Γ : List (World → Prop)} (x_ : Int) (r0_ : Int) (H : Hp w0 (Γ) w) (hm : math_bits_Len x_ = some r0_) : Calls Try.prog 31 #[.int .u64 x_] w (fun e w => e = .returned (.int .i64 r0_) ∧ Hp w0 (Γ) w) := by
  unfold math_bits_Len at hm
  refine st_enter Try.func31 rfl Try.ntmps31 (Nat.le_of_ble_eq_true rfl) ?_
  refine st_seq ?_
  refine st_region ?_
  refine r_pure (.int .i64 0) rfl ?_
  refine r_seq ?_
  refine st_seq ?_
  refine st_condf rfl rfl ?_
  refine st_skip ?_
  refine n_sq ?_
  refine st_seq ?_
  refine st_region ?_
  refine r_pure (.int .u64 x_) rfl ?_
  obtain ⟨y1, hy2, hm⟩ := bind_some hm
  refine r_callf Try.call44 (math_bits_Len64_ok x_ y1 H hy2) ?_
  rintro e4 wd3 ⟨rfl, H6⟩
  refine ⟨_, rfl, ?_⟩
  refine r_pure (.int .i64 y1) rfl ?_
  refine r_seq ?_
  have hq_ := Option.some.inj hm
  subst hq_
  refine st_ret1 rfl rfl (Nat.le_of_ble_eq_true rfl) rfl ?_
  exact ⟨rfl, H6⟩

set_option maxHeartbeats 2000000 in
theorem slices_insertionSortCmpFunc_cross_Row_ok {w0 w : World} {Γ : List (World → Prop)} (data : List cross_Row) (A1 : Option Addr) (n3 c2 : Nat) (a_ : Int) (b_ : Int) (fv4 : Value) (cmp : (cross_Row × cross_Row) → Option Int) (hp5 : FnOk Try.prog w0 Γ fv4 (fun x => [.agg #[.string x.1.Seller, .string x.1.Buyer, .int .i64 x.1.Amount], .agg #[.string x.2.Seller, .string x.2.Buyer, .int .i64 x.2.Amount]]) (fun r => .int .i64 r) cmp) (r0_ : List cross_Row) (H : Hp w0 (Row K38 (.slice A1 n3 c2) data :: Γ) w) (hm : slices_insertionSortCmpFunc_cross_Row data a_ b_ cmp = some r0_) : Calls Try.prog 35 #[.slice A1 n3 c2, .int .i64 a_, .int .i64 b_, fv4] w (fun e w => e = .returned (.tuple #[]) ∧ Hp w0 (Row K38 (.slice A1 n3 c2) r0_ :: Γ) w) := by
  obtain ⟨gf6, gcap7, rfl, ge8, gp9⟩ := hp5
  obtain rfl := (H.g0).leneq
  unfold slices_insertionSortCmpFunc_cross_Row at hm
  refine st_enter Try.func35 rfl Try.ntmps35 (Nat.le_of_ble_eq_true rfl) ?_
  refine st_seq ?_
  refine st_region ?_
  refine r_pure (.int .i64 a_) rfl ?_
  refine r_pure (.int .i64 (w64 (a_ + 1))) rfl ?_
  refine r_pure (.int .i64 (w64 (a_ + 1))) rfl ?_
  refine r_seq ?_
  refine st_block ?_
  obtain ⟨tl16, hl17, hm15⟩ := bind_some hm
  refine st_loopF (slices_insertionSortCmpFunc_cross_Row.l1 b_ a_ cmp) (fun s ρ w => ∃ xs12 : List cross_Row, ∃ v13 : Int, (xs12, v13) = s ∧ (∃ base, ρ = updl base [(0, .slice A1 data.length c2), (1, .int .i64 a_), (2, .int .i64 b_), (3, .func (.func gf6) #[] (List.toArray gcap7)), (8, .int .i64 v13)]) ∧ Hp w0 (Row K38 (.slice A1 data.length c2) xs12 :: Γ) w) hl17 (fun _ => rfl) ⟨data, w64 (a_ + 1), rfl, upk (ac rfl (ac rfl (ac rfl (ac rfl (ac rfl an))))), H⟩ ?_
  rintro fuel23 IH25 s ρ w ⟨xs12, v13, rfl, ⟨base, rfl⟩, H14⟩ hm
  rw [slices_insertionSortCmpFunc_cross_Row.l1] at hm
  refine st_seq ?_
  refine st_seq ?_
  refine st_region ?_
  refine r_pure (.int .i64 v13) rfl ?_
  refine r_pure (.int .i64 b_) rfl ?_
  refine r_pure (.bool (decide (v13 < b_))) rfl ?_
  refine r_seq ?_
  rcases ite_some hm with ⟨hb26, hm⟩ | ⟨hb26, hm⟩
  · refine st_condt hb26 rfl ?_
    refine st_skip ?_
    refine n_sq ?_
    refine st_seq ?_
    refine st_block ?_
    refine st_seq ?_
    refine st_region ?_
    refine r_pure (.int .i64 v13) rfl ?_
    refine r_pure (.int .i64 v13) rfl ?_
    refine r_seq ?_
    refine st_block ?_
    obtain ⟨tl33, hl34, hm32⟩ := bind_some hm
    refine st_loopF (slices_insertionSortCmpFunc_cross_Row.l2 a_ cmp) (fun s ρ w => ∃ xs29 : List cross_Row, ∃ v30 : Int, (xs29, v30) = s ∧ (∃ base, ρ = updl base [(0, .slice A1 data.length c2), (1, .int .i64 a_), (2, .int .i64 b_), (3, .func (.func gf6) #[] (List.toArray gcap7)), (8, .int .i64 v13), (9, .int .i64 v30)]) ∧ Hp w0 (Row K38 (.slice A1 data.length c2) xs29 :: Γ) w) hl34 (fun _ => rfl) ⟨xs12, v13, rfl, upk (ac rfl (ac rfl (ac rfl (ac rfl (ac rfl (ac rfl an)))))), H14⟩ ?_
    rintro fuel40 IH42 s ρ w ⟨xs29, v30, rfl, ⟨base, rfl⟩, H31⟩ hm
    rw [slices_insertionSortCmpFunc_cross_Row.l2] at hm
    refine st_seq ?_
    refine st_cut (fun ρ w => ∃ q43 : Bool, (∃ base, ρ = updl base [(0, .slice A1 data.length c2), (1, .int .i64 a_), (2, .int .i64 b_), (3, .func (.func gf6) #[] (List.toArray gcap7)), (8, .int .i64 v13), (9, .int .i64 v30), (34, .bool q43)]) ∧ Hp w0 (Row K38 (.slice A1 data.length c2) xs29 :: Γ) w ∧ slices_insertionSortCmpFunc_cross_Row.j1 v30 xs29 (slices_insertionSortCmpFunc_cross_Row.l2 a_ cmp fuel40) q43 = some tl33) ?_ ?_
    · rcases ite_some hm with ⟨hb177, hm⟩ | ⟨hb177, hm⟩
      · obtain ⟨⟨h0178, h1179⟩, hm⟩ := gd_some hm
        have hj180 := rd_get h0178 h1179
        obtain ⟨⟨h0182, h1183⟩, hm⟩ := gd_some hm
        have hj184 := rd_get h0182 h1183
        obtain ⟨y185, hy186, hm⟩ := bind_some hm
        refine Flow.run' [[], [], [0, 1], [0, 1, 2], [0, 1, 2, 3], [0, 1, 2, 3], [0, 1, 2, 3], [0, 1, 2, 3, 5, 6], [0, 1, 2, 3, 5, 6, 7], [0, 1, 2, 3], [0, 1, 2, 3], [0, 1, 2, 3, 10], [0, 1, 2, 3, 9, 10, 11], [0, 1, 2, 3, 9, 10, 11, 12], [0, 1, 2, 3, 4, 5, 6, 7, 8, 9, 10, 11, 12, 13], [0, 1, 2, 3, 4, 5, 6, 7, 8, 9, 10, 11, 12, 13, 14], [0, 1, 2, 3, 4, 5, 6, 7, 8, 9, 10, 11, 12, 13, 14, 15]] [(18, 0), (19, 1), (20, 2), (21, 3), (22, 4), (23, 5), (24, 6), (25, 7), (26, 8), (27, 9), (28, 10), (29, 11), (30, 12), (31, 13), (32, 14), (33, 15), (34, 16)] [(fun η176 v => v.1 = .int .i64 v30), (fun η176 v => v.1 = .int .i64 a_), (fun η176 v => v.1 = .bool (decide (v30 > a_))), (fun η176 v => v.1 = .bool (decide (v30 > a_))), (fun η176 v => v.1 = .func (.func gf6) #[] (List.toArray gcap7)), (fun η176 v => v.1 = .slice A1 data.length c2), (fun η176 v => v.1 = .int .i64 v30), (fun η176 v => v.1 = .pointer (some ((oA A1).add (Int.toNat v30 * 3)))), (fun η176 v => v.1 = .agg #[.string ((rd xs29 v30).Seller), .string ((rd xs29 v30).Buyer), .int .i64 ((rd xs29 v30).Amount)]), (fun η176 v => v.1 = .slice A1 data.length c2), (fun η176 v => v.1 = .int .i64 v30), (fun η176 v => v.1 = .int .i64 (w64 (v30 - 1))), (fun η176 v => v.1 = .pointer (some ((oA A1).add (Int.toNat (w64 (v30 - 1)) * 3)))), (fun η176 v => v.1 = .agg #[.string ((rd xs29 (w64 (v30 - 1))).Seller), .string ((rd xs29 (w64 (v30 - 1))).Buyer), .int .i64 ((rd xs29 (w64 (v30 - 1))).Amount)]), (fun η176 v => v.1 = .int .i64 y185), (fun η176 v => v.1 = .bool (decide (y185 < 0))), (fun η176 v => v.1 = .bool (decide (y185 < 0)))] [] rfl (by kernel_rfl) (by kernel_rfl) H31 ⟨?_, ?_, ?_, ?_, ?_, ?_, ?_, ?_, ?_, ?_, ?_, ?_, ?_, ?_, ?_, ?_, ?_, trivial⟩ ?_
        · intro η176 wd193 Δ194 hE190 hR191 H192
          have H192 : Hp w0 ((Δ194 ++ (Row K38 (.slice A1 data.length c2) xs29 :: Γ))) wd193 := H192
          refine sp_op [(9, .int .i64 v30)] (ac rfl an) ?_
          refine r_pure (.int .i64 v30) rfl ?_
          exact r_nil (n_lp ⟨_, rfl, undef, rfl, H192⟩)
        · intro η176 wd198 Δ199 hE195 hR196 H197
          have H197 : Hp w0 ((Δ199 ++ (Row K38 (.slice A1 data.length c2) xs29 :: Γ))) wd198 := H197
          refine sp_op [(1, .int .i64 a_)] (ac rfl an) ?_
          refine r_pure (.int .i64 a_) rfl ?_
          exact r_nil (n_lp ⟨_, rfl, undef, rfl, H197⟩)
        · intro η176 wd203 Δ204 hE200 hR201 H202
          have H202 : Hp w0 ((Δ204 ++ (Row K38 (.slice A1 data.length c2) xs29 :: Γ))) wd203 := H202
          refine sp_op [(18, .int .i64 v30), (19, .int .i64 a_)] (ac (hE200 0 (by decide)) (ac (hE200 1 (by decide)) an)) ?_
          refine r_pure (.bool (decide (v30 > a_))) rfl ?_
          exact r_nil (n_lp ⟨_, rfl, undef, rfl, H202⟩)
        · intro η176 wd208 Δ209 hE205 hR206 H207
          have H207 : Hp w0 ((Δ209 ++ (Row K38 (.slice A1 data.length c2) xs29 :: Γ))) wd208 := H207
          refine sp_op [(20, .bool (decide (v30 > a_)))] (ac (hE205 2 (by decide)) an) ?_
          refine r_pure (.bool (decide (v30 > a_))) rfl ?_
          exact r_nil (n_lp ⟨_, rfl, undef, rfl, H207⟩)
        · intro η176 wd213 Δ214 hE210 hR211 H212
          have H212 : Hp w0 ((Δ214 ++ (Row K38 (.slice A1 data.length c2) xs29 :: Γ))) wd213 := H212
          refine sp_op [(3, .func (.func gf6) #[] (List.toArray gcap7)), (21, .bool (decide (v30 > a_)))] (ac rfl (ac (hE210 3 (by decide)) an)) ?_
          refine r_pure (.func (.func gf6) #[] (List.toArray gcap7)) rfl ?_ (wn_t rfl rfl (by decide) rfl hb177)
          exact r_nil (n_lp ⟨_, rfl, undef, rfl, H212⟩)
        · intro η176 wd218 Δ219 hE215 hR216 H217
          have H217 : Hp w0 ((Δ219 ++ (Row K38 (.slice A1 data.length c2) xs29 :: Γ))) wd218 := H217
          refine sp_op [(0, .slice A1 data.length c2), (21, .bool (decide (v30 > a_)))] (ac rfl (ac (hE215 3 (by decide)) an)) ?_
          refine r_pure (.slice A1 data.length c2) rfl ?_ (wn_t rfl rfl (by decide) rfl hb177)
          exact r_nil (n_lp ⟨_, rfl, undef, rfl, H217⟩)
        · intro η176 wd223 Δ224 hE220 hR221 H222
          have H222 : Hp w0 ((Δ224 ++ (Row K38 (.slice A1 data.length c2) xs29 :: Γ))) wd223 := H222
          refine sp_op [(9, .int .i64 v30), (21, .bool (decide (v30 > a_)))] (ac rfl (ac (hE220 3 (by decide)) an)) ?_
          refine r_pure (.int .i64 v30) rfl ?_ (wn_t rfl rfl (by decide) rfl hb177)
          exact r_nil (n_lp ⟨_, rfl, undef, rfl, H222⟩)
        · intro η176 wd228 Δ229 hE225 hR226 H227
          have H227 : Hp w0 ((Δ229 ++ (Row K38 (.slice A1 data.length c2) xs29 :: Γ))) wd228 := H227
          refine sp_op [(21, .bool (decide (v30 > a_))), (23, .slice A1 data.length c2), (24, .int .i64 v30)] (ac (hE225 3 (by decide)) (ac (hE225 5 (by decide)) (ac (hE225 6 (by decide)) an))) ?_
          have hA233 := ((H227).tl.g0.rd).adO hj180
          refine r_ix IX34 rfl rfl hA233 h0178 (by have h1_ := ((H227).tl.g0).leneq; have h2_ := h1179; rw [← h1_] at h2_; exact h2_) ?_ (wn_t rfl rfl (by decide) rfl hb177)
          exact r_nil (n_lp ⟨_, rfl, undef, rfl, H227⟩)
        · intro η176 wd237 Δ238 hE234 hR235 H236
          have H236 : Hp w0 ((Δ238 ++ (Row K38 (.slice A1 data.length c2) xs29 :: Γ))) wd237 := H236
          refine sp_op [(21, .bool (decide (v30 > a_))), (25, .pointer (some ((oA A1).add (Int.toNat v30 * 3))))] (ac (hE234 3 (by decide)) (ac (hE234 7 (by decide)) an)) ?_
          have hA239 := ((H236).tl.g0.rd).adO hj180
          refine r_ldA [.string ((rd xs29 v30).Seller), .string ((rd xs29 v30).Buyer), .int .i64 ((rd xs29 v30).Amount)] LD38 rfl rfl (((H236).tl.g0.rd).csA hA239 hj180) ?_ (wn_t rfl rfl (by decide) rfl hb177)
          exact r_nil (n_lp ⟨_, rfl, undef, rfl, H236⟩)
        · intro η176 wd243 Δ244 hE240 hR241 H242
          have H242 : Hp w0 ((Δ244 ++ (Row K38 (.slice A1 data.length c2) xs29 :: Γ))) wd243 := H242
          refine sp_op [(0, .slice A1 data.length c2), (21, .bool (decide (v30 > a_)))] (ac rfl (ac (hE240 3 (by decide)) an)) ?_
          refine r_pure (.slice A1 data.length c2) rfl ?_ (wn_t rfl rfl (by decide) rfl hb177)
          exact r_nil (n_lp ⟨_, rfl, undef, rfl, H242⟩)
        · intro η176 wd248 Δ249 hE245 hR246 H247
          have H247 : Hp w0 ((Δ249 ++ (Row K38 (.slice A1 data.length c2) xs29 :: Γ))) wd248 := H247
          refine sp_op [(9, .int .i64 v30), (21, .bool (decide (v30 > a_)))] (ac rfl (ac (hE245 3 (by decide)) an)) ?_
          refine r_pure (.int .i64 v30) rfl ?_ (wn_t rfl rfl (by decide) rfl hb177)
          exact r_nil (n_lp ⟨_, rfl, undef, rfl, H247⟩)
        · intro η176 wd253 Δ254 hE250 hR251 H252
          have H252 : Hp w0 ((Δ254 ++ (Row K38 (.slice A1 data.length c2) xs29 :: Γ))) wd253 := H252
          refine sp_op [(21, .bool (decide (v30 > a_))), (28, .int .i64 v30)] (ac (hE250 3 (by decide)) (ac (hE250 10 (by decide)) an)) ?_
          refine r_pure (.int .i64 (w64 (v30 - 1))) rfl ?_ (wn_t rfl rfl (by decide) rfl hb177)
          exact r_nil (n_lp ⟨_, rfl, undef, rfl, H252⟩)
        · intro η176 wd258 Δ259 hE255 hR256 H257
          have H257 : Hp w0 ((Δ259 ++ (Row K38 (.slice A1 data.length c2) xs29 :: Γ))) wd258 := H257
          refine sp_op [(21, .bool (decide (v30 > a_))), (27, .slice A1 data.length c2), (29, .int .i64 (w64 (v30 - 1)))] (ac (hE255 3 (by decide)) (ac (hE255 9 (by decide)) (ac (hE255 11 (by decide)) an))) ?_
          have hA263 := ((H257).tl.g0.rd).adO hj184
          refine r_ix IX34 rfl rfl hA263 h0182 (by have h1_ := ((H257).tl.g0).leneq; have h2_ := h1183; rw [← h1_] at h2_; exact h2_) ?_ (wn_t rfl rfl (by decide) rfl hb177)
          exact r_nil (n_lp ⟨_, rfl, undef, rfl, H257⟩)
        · intro η176 wd267 Δ268 hE264 hR265 H266
          have H266 : Hp w0 ((Δ268 ++ (Row K38 (.slice A1 data.length c2) xs29 :: Γ))) wd267 := H266
          refine sp_op [(21, .bool (decide (v30 > a_))), (30, .pointer (some ((oA A1).add (Int.toNat (w64 (v30 - 1)) * 3))))] (ac (hE264 3 (by decide)) (ac (hE264 12 (by decide)) an)) ?_
          have hA269 := ((H266).tl.g0.rd).adO hj184
          refine r_ldA [.string ((rd xs29 (w64 (v30 - 1))).Seller), .string ((rd xs29 (w64 (v30 - 1))).Buyer), .int .i64 ((rd xs29 (w64 (v30 - 1))).Amount)] LD38 rfl rfl (((H266).tl.g0.rd).csA hA269 hj184) ?_ (wn_t rfl rfl (by decide) rfl hb177)
          exact r_nil (n_lp ⟨_, rfl, undef, rfl, H266⟩)
        · intro η176 wd273 Δ274 hE270 hR271 H272
          have H272 : Hp w0 ((Δ274 ++ (Row K38 (.slice A1 data.length c2) xs29 :: Γ))) wd273 := H272
          refine sp_op [(21, .bool (decide (v30 > a_))), (22, .func (.func gf6) #[] (List.toArray gcap7)), (26, .agg #[.string ((rd xs29 v30).Seller), .string ((rd xs29 v30).Buyer), .int .i64 ((rd xs29 v30).Amount)]), (31, .agg #[.string ((rd xs29 (w64 (v30 - 1))).Seller), .string ((rd xs29 (w64 (v30 - 1))).Buyer), .int .i64 ((rd xs29 (w64 (v30 - 1))).Amount)])] (ac (hE270 3 (by decide)) (ac (hE270 4 (by decide)) (ac (hE270 8 (by decide)) (ac (hE270 13 (by decide)) an)))) ?_
          refine r_callv rfl ge8 (gp9 _ _ hy186 _ _ H272 (fun _ H => (H).tl.d)) ?_ (wn_t rfl rfl (by decide) rfl hb177)
          rintro e279 wd278 ⟨rfl, H277⟩
          refine ⟨_, rfl, ?_⟩
          exact r_nil (n_lp ⟨_, rfl, undef, rfl, H277⟩)
        · intro η176 wd283 Δ284 hE280 hR281 H282
          have H282 : Hp w0 ((Δ284 ++ (Row K38 (.slice A1 data.length c2) xs29 :: Γ))) wd283 := H282
          refine sp_op [(21, .bool (decide (v30 > a_))), (32, .int .i64 y185)] (ac (hE280 3 (by decide)) (ac (hE280 14 (by decide)) an)) ?_
          refine r_pure (.bool (decide (y185 < 0))) rfl ?_ (wn_t rfl rfl (by decide) rfl hb177)
          exact r_nil (n_lp ⟨_, rfl, undef, rfl, H282⟩)
        · intro η176 wd288 Δ289 hE285 hR286 H287
          have H287 : Hp w0 ((Δ289 ++ (Row K38 (.slice A1 data.length c2) xs29 :: Γ))) wd288 := H287
          refine sp_op [(21, .bool (decide (v30 > a_))), (33, .bool (decide (y185 < 0)))] (ac (hE285 3 (by decide)) (ac (hE285 15 (by decide)) an)) ?_
          refine r_pick_t (.bool (decide (y185 < 0))) hb177 rfl rfl ?_
          exact r_nil (n_lp ⟨_, rfl, undef, rfl, H287⟩)
        · intro η176 wd291 hV292 H290
          have H293 : Hp w0 (Row K38 (.slice A1 data.length c2) xs29 :: Γ) wd291 := H290
          refine n_frame [(0, .slice A1 data.length c2), (1, .int .i64 a_), (2, .int .i64 b_), (3, .func (.func gf6) #[] (List.toArray gcap7)), (8, .int .i64 v13), (9, .int .i64 v30), (22, .func (.func gf6) #[] (List.toArray gcap7)), (23, .slice A1 data.length c2), (24, .int .i64 v30), (25, .pointer (some ((oA A1).add (Int.toNat v30 * 3)))), (26, .agg #[.string ((rd xs29 v30).Seller), .string ((rd xs29 v30).Buyer), .int .i64 ((rd xs29 v30).Amount)]), (27, .slice A1 data.length c2), (28, .int .i64 v30), (29, .int .i64 (w64 (v30 - 1))), (30, .pointer (some ((oA A1).add (Int.toNat (w64 (v30 - 1)) * 3)))), (31, .agg #[.string ((rd xs29 (w64 (v30 - 1))).Seller), .string ((rd xs29 (w64 (v30 - 1))).Buyer), .int .i64 ((rd xs29 (w64 (v30 - 1))).Amount)]), (32, .int .i64 y185), (33, .bool (decide (y185 < 0))), (34, .bool (decide (y185 < 0)))] (ac rfl (ac rfl (ac rfl (ac rfl (ac rfl (ac rfl (ac (hV292 4 rfl) (ac (hV292 5 rfl) (ac (hV292 6 rfl) (ac (hV292 7 rfl) (ac (hV292 8 rfl) (ac (hV292 9 rfl) (ac (hV292 10 rfl) (ac (hV292 11 rfl) (ac (hV292 12 rfl) (ac (hV292 13 rfl) (ac (hV292 14 rfl) (ac (hV292 15 rfl) (ac (hV292 16 rfl) an))))))))))))))))))) ?_
          refine n_cut ⟨decide (y185 < 0), upk (ac rfl (ac rfl (ac rfl (ac rfl (ac rfl (ac rfl (ac rfl an))))))), H293, hm⟩
      · refine Flow.run' [[], [], [0, 1], [0, 1, 2], [0, 1, 2, 3], [0, 1, 2, 3], [0, 1, 2, 3], [0, 1, 2, 3, 5, 6], [0, 1, 2, 3, 5, 6, 7], [0, 1, 2, 3], [0, 1, 2, 3], [0, 1, 2, 3, 10], [0, 1, 2, 3, 9, 10, 11], [0, 1, 2, 3, 9, 10, 11, 12], [0, 1, 2, 3, 4, 5, 6, 7, 8, 9, 10, 11, 12, 13], [0, 1, 2, 3, 4, 5, 6, 7, 8, 9, 10, 11, 12, 13, 14], [0, 1, 2, 3, 4, 5, 6, 7, 8, 9, 10, 11, 12, 13, 14, 15]] [(18, 0), (19, 1), (20, 2), (21, 3), (22, 4), (23, 5), (24, 6), (25, 7), (26, 8), (27, 9), (28, 10), (29, 11), (30, 12), (31, 13), (32, 14), (33, 15), (34, 16)] [(fun η176 v => v.1 = .int .i64 v30), (fun η176 v => v.1 = .int .i64 a_), (fun η176 v => v.1 = .bool (decide (v30 > a_))), (fun η176 v => v.1 = .bool (decide (v30 > a_))), (fun η176 v => v.1 = undef), (fun η176 v => v.1 = undef), (fun η176 v => v.1 = undef), (fun η176 v => v.1 = undef), (fun η176 v => v.1 = undef), (fun η176 v => v.1 = undef), (fun η176 v => v.1 = undef), (fun η176 v => v.1 = undef), (fun η176 v => v.1 = undef), (fun η176 v => v.1 = undef), (fun η176 v => v.1 = undef), (fun η176 v => v.1 = undef), (fun η176 v => v.1 = .bool false)] [] rfl (by kernel_rfl) (by kernel_rfl) H31 ⟨?_, ?_, ?_, ?_, ?_, ?_, ?_, ?_, ?_, ?_, ?_, ?_, ?_, ?_, ?_, ?_, ?_, trivial⟩ ?_
        · intro η176 wd297 Δ298 hE294 hR295 H296
          have H296 : Hp w0 ((Δ298 ++ (Row K38 (.slice A1 data.length c2) xs29 :: Γ))) wd297 := H296
          refine sp_op [(9, .int .i64 v30)] (ac rfl an) ?_
          refine r_pure (.int .i64 v30) rfl ?_
          exact r_nil (n_lp ⟨_, rfl, undef, rfl, H296⟩)
        · intro η176 wd302 Δ303 hE299 hR300 H301
          have H301 : Hp w0 ((Δ303 ++ (Row K38 (.slice A1 data.length c2) xs29 :: Γ))) wd302 := H301
          refine sp_op [(1, .int .i64 a_)] (ac rfl an) ?_
          refine r_pure (.int .i64 a_) rfl ?_
          exact r_nil (n_lp ⟨_, rfl, undef, rfl, H301⟩)
        · intro η176 wd307 Δ308 hE304 hR305 H306
          have H306 : Hp w0 ((Δ308 ++ (Row K38 (.slice A1 data.length c2) xs29 :: Γ))) wd307 := H306
          refine sp_op [(18, .int .i64 v30), (19, .int .i64 a_)] (ac (hE304 0 (by decide)) (ac (hE304 1 (by decide)) an)) ?_
          refine r_pure (.bool (decide (v30 > a_))) rfl ?_
          exact r_nil (n_lp ⟨_, rfl, undef, rfl, H306⟩)
        · intro η176 wd312 Δ313 hE309 hR310 H311
          have H311 : Hp w0 ((Δ313 ++ (Row K38 (.slice A1 data.length c2) xs29 :: Γ))) wd312 := H311
          refine sp_op [(20, .bool (decide (v30 > a_)))] (ac (hE309 2 (by decide)) an) ?_
          refine r_pure (.bool (decide (v30 > a_))) rfl ?_
          exact r_nil (n_lp ⟨_, rfl, undef, rfl, H311⟩)
        · intro η176 wd317 Δ318 hE314 hR315 H316
          have H316 : Hp w0 ((Δ318 ++ (Row K38 (.slice A1 data.length c2) xs29 :: Γ))) wd317 := H316
          refine sp_op [(3, .func (.func gf6) #[] (List.toArray gcap7)), (21, .bool (decide (v30 > a_)))] (ac rfl (ac (hE314 3 (by decide)) an)) ?_
          refine r_not (wn_f rfl rfl (by decide) rfl hb177) ?_
          exact r_nil (n_lp ⟨_, rfl, undef, rfl, H316⟩)
        · intro η176 wd322 Δ323 hE319 hR320 H321
          have H321 : Hp w0 ((Δ323 ++ (Row K38 (.slice A1 data.length c2) xs29 :: Γ))) wd322 := H321
          refine sp_op [(0, .slice A1 data.length c2), (21, .bool (decide (v30 > a_)))] (ac rfl (ac (hE319 3 (by decide)) an)) ?_
          refine r_not (wn_f rfl rfl (by decide) rfl hb177) ?_
          exact r_nil (n_lp ⟨_, rfl, undef, rfl, H321⟩)
        · intro η176 wd327 Δ328 hE324 hR325 H326
          have H326 : Hp w0 ((Δ328 ++ (Row K38 (.slice A1 data.length c2) xs29 :: Γ))) wd327 := H326
          refine sp_op [(9, .int .i64 v30), (21, .bool (decide (v30 > a_)))] (ac rfl (ac (hE324 3 (by decide)) an)) ?_
          refine r_not (wn_f rfl rfl (by decide) rfl hb177) ?_
          exact r_nil (n_lp ⟨_, rfl, undef, rfl, H326⟩)
        · intro η176 wd332 Δ333 hE329 hR330 H331
          have H331 : Hp w0 ((Δ333 ++ (Row K38 (.slice A1 data.length c2) xs29 :: Γ))) wd332 := H331
          refine sp_op [(21, .bool (decide (v30 > a_))), (23, undef), (24, undef)] (ac (hE329 3 (by decide)) (ac (hE329 5 (by decide)) (ac (hE329 6 (by decide)) an))) ?_
          refine r_not (wn_f rfl rfl (by decide) rfl hb177) ?_
          exact r_nil (n_lp ⟨_, rfl, undef, rfl, H331⟩)
        · intro η176 wd337 Δ338 hE334 hR335 H336
          have H336 : Hp w0 ((Δ338 ++ (Row K38 (.slice A1 data.length c2) xs29 :: Γ))) wd337 := H336
          refine sp_op [(21, .bool (decide (v30 > a_))), (25, undef)] (ac (hE334 3 (by decide)) (ac (hE334 7 (by decide)) an)) ?_
          refine r_not (wn_f rfl rfl (by decide) rfl hb177) ?_
          exact r_nil (n_lp ⟨_, rfl, undef, rfl, H336⟩)
        · intro η176 wd342 Δ343 hE339 hR340 H341
          have H341 : Hp w0 ((Δ343 ++ (Row K38 (.slice A1 data.length c2) xs29 :: Γ))) wd342 := H341
          refine sp_op [(0, .slice A1 data.length c2), (21, .bool (decide (v30 > a_)))] (ac rfl (ac (hE339 3 (by decide)) an)) ?_
          refine r_not (wn_f rfl rfl (by decide) rfl hb177) ?_
          exact r_nil (n_lp ⟨_, rfl, undef, rfl, H341⟩)
        · intro η176 wd347 Δ348 hE344 hR345 H346
          have H346 : Hp w0 ((Δ348 ++ (Row K38 (.slice A1 data.length c2) xs29 :: Γ))) wd347 := H346
          refine sp_op [(9, .int .i64 v30), (21, .bool (decide (v30 > a_)))] (ac rfl (ac (hE344 3 (by decide)) an)) ?_
          refine r_not (wn_f rfl rfl (by decide) rfl hb177) ?_
          exact r_nil (n_lp ⟨_, rfl, undef, rfl, H346⟩)
        · intro η176 wd352 Δ353 hE349 hR350 H351
          have H351 : Hp w0 ((Δ353 ++ (Row K38 (.slice A1 data.length c2) xs29 :: Γ))) wd352 := H351
          refine sp_op [(21, .bool (decide (v30 > a_))), (28, undef)] (ac (hE349 3 (by decide)) (ac (hE349 10 (by decide)) an)) ?_
          refine r_not (wn_f rfl rfl (by decide) rfl hb177) ?_
          exact r_nil (n_lp ⟨_, rfl, undef, rfl, H351⟩)
        · intro η176 wd357 Δ358 hE354 hR355 H356
          have H356 : Hp w0 ((Δ358 ++ (Row K38 (.slice A1 data.length c2) xs29 :: Γ))) wd357 := H356
          refine sp_op [(21, .bool (decide (v30 > a_))), (27, undef), (29, undef)] (ac (hE354 3 (by decide)) (ac (hE354 9 (by decide)) (ac (hE354 11 (by decide)) an))) ?_
          refine r_not (wn_f rfl rfl (by decide) rfl hb177) ?_
          exact r_nil (n_lp ⟨_, rfl, undef, rfl, H356⟩)
        · intro η176 wd362 Δ363 hE359 hR360 H361
          have H361 : Hp w0 ((Δ363 ++ (Row K38 (.slice A1 data.length c2) xs29 :: Γ))) wd362 := H361
          refine sp_op [(21, .bool (decide (v30 > a_))), (30, undef)] (ac (hE359 3 (by decide)) (ac (hE359 12 (by decide)) an)) ?_
          refine r_not (wn_f rfl rfl (by decide) rfl hb177) ?_
          exact r_nil (n_lp ⟨_, rfl, undef, rfl, H361⟩)
        · intro η176 wd367 Δ368 hE364 hR365 H366
          have H366 : Hp w0 ((Δ368 ++ (Row K38 (.slice A1 data.length c2) xs29 :: Γ))) wd367 := H366
          refine sp_op [(21, .bool (decide (v30 > a_))), (22, undef), (26, undef), (31, undef)] (ac (hE364 3 (by decide)) (ac (hE364 4 (by decide)) (ac (hE364 8 (by decide)) (ac (hE364 13 (by decide)) an)))) ?_
          refine r_not (wn_f rfl rfl (by decide) rfl hb177) ?_
          exact r_nil (n_lp ⟨_, rfl, undef, rfl, H366⟩)
        · intro η176 wd372 Δ373 hE369 hR370 H371
          have H371 : Hp w0 ((Δ373 ++ (Row K38 (.slice A1 data.length c2) xs29 :: Γ))) wd372 := H371
          refine sp_op [(21, .bool (decide (v30 > a_))), (32, undef)] (ac (hE369 3 (by decide)) (ac (hE369 14 (by decide)) an)) ?_
          refine r_not (wn_f rfl rfl (by decide) rfl hb177) ?_
          exact r_nil (n_lp ⟨_, rfl, undef, rfl, H371⟩)
        · intro η176 wd377 Δ378 hE374 hR375 H376
          have H376 : Hp w0 ((Δ378 ++ (Row K38 (.slice A1 data.length c2) xs29 :: Γ))) wd377 := H376
          refine sp_op [(21, .bool (decide (v30 > a_))), (33, undef)] (ac (hE374 3 (by decide)) (ac (hE374 15 (by decide)) an)) ?_
          refine r_pick_f (.bool false) hb177 rfl rfl ?_
          exact r_nil (n_lp ⟨_, rfl, undef, rfl, H376⟩)
        · intro η176 wd380 hV381 H379
          have H382 : Hp w0 (Row K38 (.slice A1 data.length c2) xs29 :: Γ) wd380 := H379
          refine n_frame [(0, .slice A1 data.length c2), (1, .int .i64 a_), (2, .int .i64 b_), (3, .func (.func gf6) #[] (List.toArray gcap7)), (8, .int .i64 v13), (9, .int .i64 v30), (22, undef), (23, undef), (24, undef), (25, undef), (26, undef), (27, undef), (28, undef), (29, undef), (30, undef), (31, undef), (32, undef), (33, undef), (34, .bool false)] (ac rfl (ac rfl (ac rfl (ac rfl (ac rfl (ac rfl (ac (hV381 4 rfl) (ac (hV381 5 rfl) (ac (hV381 6 rfl) (ac (hV381 7 rfl) (ac (hV381 8 rfl) (ac (hV381 9 rfl) (ac (hV381 10 rfl) (ac (hV381 11 rfl) (ac (hV381 12 rfl) (ac (hV381 13 rfl) (ac (hV381 14 rfl) (ac (hV381 15 rfl) (ac (hV381 16 rfl) an))))))))))))))))))) ?_
          refine n_cut ⟨false, upk (ac rfl (ac rfl (ac rfl (ac rfl (ac rfl (ac rfl (ac rfl an))))))), H382, hm⟩
    · rintro ρ w ⟨q43, ⟨base, rfl⟩, H44, hm⟩
      unfold slices_insertionSortCmpFunc_cross_Row.j1 at hm
      rcases ite_some hm with ⟨hb45, hm⟩ | ⟨hb45, hm⟩
      · refine st_condt hb45 rfl ?_
        refine st_skip ?_
        refine n_sq ?_
        refine st_seq ?_
        refine st_block ?_
        obtain ⟨⟨h047, h148⟩, hm⟩ := gd_some hm
        have hj49 := rd_get h047 h148
        obtain ⟨⟨h051, h152⟩, hm⟩ := gd_some hm
        have hj53 := rd_get h051 h152
        obtain ⟨⟨h056, h157⟩, hm⟩ := gd_some hm
        have hj58 := rd_get h056 h157
        refine Flow.run' [[], [], [], [], [3], [], [], [6], [5, 6, 7], [5, 6, 7, 8], [], [], [10, 11], [10, 11, 12], [0, 1, 5, 6, 7, 8, 9, 10, 11, 12, 13], [0, 1, 5, 6, 7, 8, 9, 10, 11, 12, 13, 14], [0, 1, 2, 3, 4, 5, 6, 7, 8, 9, 10, 11, 12, 13, 14, 15], [0, 1, 2, 3, 4, 5, 6, 7, 8, 9, 10, 11, 12, 13, 14, 15, 16]] [(37, 0), (38, 1), (39, 2), (40, 3), (41, 4), (42, 5), (43, 6), (44, 7), (45, 8), (46, 9), (47, 10), (48, 11), (49, 12), (50, 13), (51, 14), (52, 16)] [(fun η46 v => v.1 = .slice A1 data.length c2), (fun η46 v => v.1 = .int .i64 v30), (fun η46 v => v.1 = .slice A1 data.length c2), (fun η46 v => v.1 = .int .i64 v30), (fun η46 v => v.1 = .int .i64 (w64 (v30 - 1))), (fun η46 v => v.1 = .slice A1 data.length c2), (fun η46 v => v.1 = .int .i64 v30), (fun η46 v => v.1 = .int .i64 (w64 (v30 - 1))), (fun η46 v => v.1 = .pointer (some ((oA A1).add (Int.toNat (w64 (v30 - 1)) * 3)))), (fun η46 v => v.1 = .agg #[.string ((rd xs29 (w64 (v30 - 1))).Seller), .string ((rd xs29 (w64 (v30 - 1))).Buyer), .int .i64 ((rd xs29 (w64 (v30 - 1))).Amount)]), (fun η46 v => v.1 = .slice A1 data.length c2), (fun η46 v => v.1 = .int .i64 v30), (fun η46 v => v.1 = .pointer (some ((oA A1).add (Int.toNat v30 * 3)))), (fun η46 v => v.1 = .agg #[.string ((rd xs29 v30).Seller), .string ((rd xs29 v30).Buyer), .int .i64 ((rd xs29 v30).Amount)]), (fun η46 v => v.1 = .pointer (some ((oA A1).add (Int.toNat v30 * 3)))), (fun _ _ => True), (fun η46 v => v.1 = .pointer (some ((oA A1).add (Int.toNat (w64 (v30 - 1)) * 3)))), (fun _ _ => True)] [⟨none, (some 15), fun η46 => Row K38 (.slice A1 data.length c2) xs29⟩, ⟨(some 15), (some 17), fun η46 => Row K38 (.slice A1 data.length c2) (xs29.set (Int.toNat v30) (rd xs29 (w64 (v30 - 1))))⟩, ⟨(some 17), none, fun η46 => Row K38 (.slice A1 data.length c2) ((xs29.set (Int.toNat v30) (rd xs29 (w64 (v30 - 1)))).set (Int.toNat (w64 (v30 - 1))) (rd xs29 v30))⟩] rfl (by kernel_rfl) (by kernel_rfl) H44 ⟨?_, ?_, ?_, ?_, ?_, ?_, ?_, ?_, ?_, ?_, ?_, ?_, ?_, ?_, ?_, ?_, ?_, ?_, trivial⟩ ?_
        · intro η46 wd64 Δ65 hE61 hR62 H63
          have H63 : Hp w0 ((Δ65 ++ Γ)) wd64 := H63
          refine sp_op [(0, .slice A1 data.length c2)] (ac rfl an) ?_
          refine r_pure (.slice A1 data.length c2) rfl ?_
          exact r_nil (n_lp ⟨_, rfl, undef, rfl, H63⟩)
        · intro η46 wd69 Δ70 hE66 hR67 H68
          have H68 : Hp w0 ((Δ70 ++ Γ)) wd69 := H68
          refine sp_op [(9, .int .i64 v30)] (ac rfl an) ?_
          refine r_pure (.int .i64 v30) rfl ?_
          exact r_nil (n_lp ⟨_, rfl, undef, rfl, H68⟩)
        · intro η46 wd74 Δ75 hE71 hR72 H73
          have H73 : Hp w0 ((Δ75 ++ Γ)) wd74 := H73
          refine sp_op [(0, .slice A1 data.length c2)] (ac rfl an) ?_
          refine r_pure (.slice A1 data.length c2) rfl ?_
          exact r_nil (n_lp ⟨_, rfl, undef, rfl, H73⟩)
        · intro η46 wd79 Δ80 hE76 hR77 H78
          have H78 : Hp w0 ((Δ80 ++ Γ)) wd79 := H78
          refine sp_op [(9, .int .i64 v30)] (ac rfl an) ?_
          refine r_pure (.int .i64 v30) rfl ?_
          exact r_nil (n_lp ⟨_, rfl, undef, rfl, H78⟩)
        · intro η46 wd84 Δ85 hE81 hR82 H83
          have H83 : Hp w0 ((Δ85 ++ Γ)) wd84 := H83
          refine sp_op [(40, .int .i64 v30)] (ac (hE81 3 (by decide)) an) ?_
          refine r_pure (.int .i64 (w64 (v30 - 1))) rfl ?_
          exact r_nil (n_lp ⟨_, rfl, undef, rfl, H83⟩)
        · intro η46 wd89 Δ90 hE86 hR87 H88
          have H88 : Hp w0 ((Δ90 ++ Γ)) wd89 := H88
          refine sp_op [(0, .slice A1 data.length c2)] (ac rfl an) ?_
          refine r_pure (.slice A1 data.length c2) rfl ?_
          exact r_nil (n_lp ⟨_, rfl, undef, rfl, H88⟩)
        · intro η46 wd94 Δ95 hE91 hR92 H93
          have H93 : Hp w0 ((Δ95 ++ Γ)) wd94 := H93
          refine sp_op [(9, .int .i64 v30)] (ac rfl an) ?_
          refine r_pure (.int .i64 v30) rfl ?_
          exact r_nil (n_lp ⟨_, rfl, undef, rfl, H93⟩)
        · intro η46 wd99 Δ100 hE96 hR97 H98
          have H98 : Hp w0 ((Δ100 ++ Γ)) wd99 := H98
          refine sp_op [(43, .int .i64 v30)] (ac (hE96 6 (by decide)) an) ?_
          refine r_pure (.int .i64 (w64 (v30 - 1))) rfl ?_
          exact r_nil (n_lp ⟨_, rfl, undef, rfl, H98⟩)
        · intro η46 wd104 Δ105 hE101 hR102 H103
          have H103 : Hp w0 ((Δ105 ++ Γ)) wd104 := H103
          refine sp_op [(42, .slice A1 data.length c2), (44, .int .i64 (w64 (v30 - 1)))] (ac (hE101 5 (by decide)) (ac (hE101 7 (by decide)) an)) ?_
          have hA109 := ((show (Row K38 (.slice A1 data.length c2) xs29) _ from (H103).memr (hR102 _ (List.mem_of_getElem? (i := 0) rfl) rfl)).rd).adO hj49
          refine r_ix IX34 rfl rfl hA109 h047 (by have h1_ := ((show (Row K38 (.slice A1 data.length c2) xs29) _ from (H103).memr (hR102 _ (List.mem_of_getElem? (i := 0) rfl) rfl))).leneq; have h2_ := h148; rw [← h1_] at h2_; exact h2_) ?_
          exact r_nil (n_lp ⟨_, rfl, undef, rfl, H103⟩)
        · intro η46 wd113 Δ114 hE110 hR111 H112
          have H112 : Hp w0 ((Δ114 ++ Γ)) wd113 := H112
          refine sp_op [(45, .pointer (some ((oA A1).add (Int.toNat (w64 (v30 - 1)) * 3))))] (ac (hE110 8 (by decide)) an) ?_
          have hA115 := ((show (Row K38 (.slice A1 data.length c2) xs29) _ from (H112).memr (hR111 _ (List.mem_of_getElem? (i := 0) rfl) rfl)).rd).adO hj49
          refine r_ldA [.string ((rd xs29 (w64 (v30 - 1))).Seller), .string ((rd xs29 (w64 (v30 - 1))).Buyer), .int .i64 ((rd xs29 (w64 (v30 - 1))).Amount)] LD38 rfl rfl (((show (Row K38 (.slice A1 data.length c2) xs29) _ from (H112).memr (hR111 _ (List.mem_of_getElem? (i := 0) rfl) rfl)).rd).csA hA115 hj49) ?_
          exact r_nil (n_lp ⟨_, rfl, undef, rfl, H112⟩)
        · intro η46 wd119 Δ120 hE116 hR117 H118
          have H118 : Hp w0 ((Δ120 ++ Γ)) wd119 := H118
          refine sp_op [(0, .slice A1 data.length c2)] (ac rfl an) ?_
          refine r_pure (.slice A1 data.length c2) rfl ?_
          exact r_nil (n_lp ⟨_, rfl, undef, rfl, H118⟩)
        · intro η46 wd124 Δ125 hE121 hR122 H123
          have H123 : Hp w0 ((Δ125 ++ Γ)) wd124 := H123
          refine sp_op [(9, .int .i64 v30)] (ac rfl an) ?_
          refine r_pure (.int .i64 v30) rfl ?_
          exact r_nil (n_lp ⟨_, rfl, undef, rfl, H123⟩)
        · intro η46 wd129 Δ130 hE126 hR127 H128
          have H128 : Hp w0 ((Δ130 ++ Γ)) wd129 := H128
          refine sp_op [(47, .slice A1 data.length c2), (48, .int .i64 v30)] (ac (hE126 10 (by decide)) (ac (hE126 11 (by decide)) an)) ?_
          have hA134 := ((show (Row K38 (.slice A1 data.length c2) xs29) _ from (H128).memr (hR127 _ (List.mem_of_getElem? (i := 0) rfl) rfl)).rd).adO hj53
          refine r_ix IX34 rfl rfl hA134 h051 (by have h1_ := ((show (Row K38 (.slice A1 data.length c2) xs29) _ from (H128).memr (hR127 _ (List.mem_of_getElem? (i := 0) rfl) rfl))).leneq; have h2_ := h152; rw [← h1_] at h2_; exact h2_) ?_
          exact r_nil (n_lp ⟨_, rfl, undef, rfl, H128⟩)
        · intro η46 wd138 Δ139 hE135 hR136 H137
          have H137 : Hp w0 ((Δ139 ++ Γ)) wd138 := H137
          refine sp_op [(49, .pointer (some ((oA A1).add (Int.toNat v30 * 3))))] (ac (hE135 12 (by decide)) an) ?_
          have hA140 := ((show (Row K38 (.slice A1 data.length c2) xs29) _ from (H137).memr (hR136 _ (List.mem_of_getElem? (i := 0) rfl) rfl)).rd).adO hj53
          refine r_ldA [.string ((rd xs29 v30).Seller), .string ((rd xs29 v30).Buyer), .int .i64 ((rd xs29 v30).Amount)] LD38 rfl rfl (((show (Row K38 (.slice A1 data.length c2) xs29) _ from (H137).memr (hR136 _ (List.mem_of_getElem? (i := 0) rfl) rfl)).rd).csA hA140 hj53) ?_
          exact r_nil (n_lp ⟨_, rfl, undef, rfl, H137⟩)
        · intro η46 wd144 Δ145 hE141 hR142 H143
          have H143 : Hp w0 ((Δ145 ++ Γ)) wd144 := H143
          refine sp_op [(37, .slice A1 data.length c2), (38, .int .i64 v30)] (ac (hE141 0 (by decide)) (ac (hE141 1 (by decide)) an)) ?_
          have hA146 := ((show (Row K38 (.slice A1 data.length c2) xs29) _ from (H143).memr (hR142 _ (List.mem_of_getElem? (i := 0) rfl) rfl)).rd).adO hj53
          refine r_ix IX34 rfl rfl hA146 h051 (by have h1_ := ((show (Row K38 (.slice A1 data.length c2) xs29) _ from (H143).memr (hR142 _ (List.mem_of_getElem? (i := 0) rfl) rfl))).leneq; have h2_ := h152; rw [← h1_] at h2_; exact h2_) ?_
          exact r_nil (n_lp ⟨_, rfl, undef, rfl, H143⟩)
        · intro η46 wd150 Δ151 hE147 hR148 H149
          have H149 : Hp w0 (Row K38 (.slice A1 data.length c2) xs29 :: (Δ151 ++ Γ)) wd150 := H149
          refine sp_op [(46, .agg #[.string ((rd xs29 (w64 (v30 - 1))).Seller), .string ((rd xs29 (w64 (v30 - 1))).Buyer), .int .i64 ((rd xs29 (w64 (v30 - 1))).Amount)]), (51, .pointer (some ((oA A1).add (Int.toNat v30 * 3))))] (ac (hE147 9 (by decide)) (ac (hE147 14 (by decide)) an)) ?_
          have hA154 := (H149.g0.rd).adO hj53
          refine r_stxA (K := K38) ((rd xs29 (w64 (v30 - 1)))) hA154 LD38 rfl rfl rfl rfl H149 (by have h1_ := h051; have h2_ := h152; first | omega | (simp only [List.length_set] at h1_ h2_ ⊢; omega)) ?_
          intro wd153 H152
          exact r_nil (n_lp ⟨_, rfl, (.tuple #[.slice A1 data.length c2]), trivial, H152⟩)
        · intro η46 wd158 Δ159 hE155 hR156 H157
          have H157 : Hp w0 ((Δ159 ++ Γ)) wd158 := H157
          refine sp_op [(39, .slice A1 data.length c2), (41, .int .i64 (w64 (v30 - 1)))] (ac (hE155 2 (by decide)) (ac (hE155 4 (by decide)) an)) ?_
          have hA163 := ((show (Row K38 (.slice A1 data.length c2) (xs29.set (Int.toNat v30) (rd xs29 (w64 (v30 - 1))))) _ from (H157).memr (hR156 _ (List.mem_of_getElem? (i := 1) rfl) rfl)).rd).adO hj58
          refine r_ix IX34 rfl rfl hA163 h056 (by have h1_ := ((show (Row K38 (.slice A1 data.length c2) (xs29.set (Int.toNat v30) (rd xs29 (w64 (v30 - 1))))) _ from (H157).memr (hR156 _ (List.mem_of_getElem? (i := 1) rfl) rfl))).leneq; have h2_ := h157; rw [← h1_] at h2_; exact h2_) ?_
          exact r_nil (n_lp ⟨_, rfl, undef, rfl, H157⟩)
        · intro η46 wd167 Δ168 hE164 hR165 H166
          have H166 : Hp w0 (Row K38 (.slice A1 data.length c2) (xs29.set (Int.toNat v30) (rd xs29 (w64 (v30 - 1)))) :: (Δ168 ++ Γ)) wd167 := H166
          refine sp_op [(50, .agg #[.string ((rd xs29 v30).Seller), .string ((rd xs29 v30).Buyer), .int .i64 ((rd xs29 v30).Amount)]), (52, .pointer (some ((oA A1).add (Int.toNat (w64 (v30 - 1)) * 3))))] (ac (hE164 13 (by decide)) (ac (hE164 16 (by decide)) an)) ?_
          have hA171 := (H166.g0.rd).adO hj58
          refine r_stxA (K := K38) ((rd xs29 v30)) hA171 LD38 rfl rfl rfl rfl H166 (by have h1_ := h056; have h2_ := h157; first | omega | (simp only [List.length_set] at h1_ h2_ ⊢; omega)) ?_
          intro wd170 H169
          exact r_nil (n_lp ⟨_, rfl, (.tuple #[.slice A1 data.length c2]), trivial, H169⟩)
        · intro η46 wd173 hV174 H172
          have H175 : Hp w0 (Row K38 (.slice A1 data.length c2) ((xs29.set (Int.toNat v30) (rd xs29 (w64 (v30 - 1)))).set (Int.toNat (w64 (v30 - 1))) (rd xs29 v30)) :: Γ) wd173 := H172
          refine n_frame [(0, .slice A1 data.length c2), (1, .int .i64 a_), (2, .int .i64 b_), (3, .func (.func gf6) #[] (List.toArray gcap7)), (8, .int .i64 v13), (9, .int .i64 v30)] (ac rfl (ac rfl (ac rfl (ac rfl (ac rfl (ac rfl an)))))) ?_
          refine n_bl ?_
          refine n_sq ?_
          refine st_region ?_
          refine r_pure (.int .i64 v30) rfl ?_
          refine r_pure (.int .i64 (w64 (v30 - 1))) rfl ?_
          refine r_pure (.int .i64 (w64 (v30 - 1))) rfl ?_
          refine r_nil ?_
          refine n_round (IH42 _ _ _ ⟨(xs29.set (Int.toNat v30) (rd xs29 (w64 (v30 - 1)))).set (Int.toNat (w64 (v30 - 1))) (rd xs29 v30), w64 (v30 - 1), rfl, upk (ac rfl (ac rfl (ac rfl (ac rfl (ac rfl (ac rfl an)))))), H175⟩ hm)
      · refine st_condf hb45 rfl ?_
        have hq_ := Option.some.inj hm
        refine st_exit rfl ?_
        subst hq_
        refine n_bl ?_
        refine n_sq ?_
        refine st_region ?_
        refine r_pure (.int .i64 v13) rfl ?_
        refine r_pure (.int .i64 (w64 (v13 + 1))) rfl ?_
        refine r_pure (.int .i64 (w64 (v13 + 1))) rfl ?_
        refine r_nil ?_
        refine n_round (IH25 _ _ _ ⟨xs29, w64 (v13 + 1), rfl, upk (ac rfl (ac rfl (ac rfl (ac rfl (ac rfl an))))), H44⟩ hm32)
  · refine st_condf hb26 rfl ?_
    have hq_ := Option.some.inj hm
    refine st_exit rfl ?_
    subst hq_
    have hq_ := Option.some.inj hm15
    subst hq_
    refine n_fin0 rfl ?_
    exact ⟨rfl, H14⟩

set_option maxHeartbeats 2000000 in
theorem slices_pdqsortCmpFunc_cross_Row_ok {w0 w : World} {Γ : List (World → Prop)} (data : List cross_Row) (A1 : Option Addr) (n3 c2 : Nat) (a_ : Int) (b_ : Int) (limit : Int) (fv4 : Value) (cmp : (cross_Row × cross_Row) → Option Int) (hp5 : FnOk Try.prog w0 Γ fv4 (fun x => [.agg #[.string x.1.Seller, .string x.1.Buyer, .int .i64 x.1.Amount], .agg #[.string x.2.Seller, .string x.2.Buyer, .int .i64 x.2.Amount]]) (fun r => .int .i64 r) cmp) (r0_ : List cross_Row) (H : Hp w0 (Row K38 (.slice A1 n3 c2) data :: Γ) w) (hm : slices_pdqsortCmpFunc_cross_Row data a_ b_ limit cmp = some r0_) : Calls Try.prog 30 #[.slice A1 n3 c2, .int .i64 a_, .int .i64 b_, .int .i64 limit, fv4] w (fun e w => e = .returned (.tuple #[]) ∧ Hp w0 (Row K38 (.slice A1 n3 c2) r0_ :: Γ) w) := by
  obtain ⟨gf6, gcap7, rfl, ge8, gp9⟩ := hp5
  obtain rfl := (H.g0).leneq
  unfold slices_pdqsortCmpFunc_cross_Row at hm
  refine st_enter Try.func30 rfl Try.ntmps30 (Nat.le_of_ble_eq_true rfl) ?_
  refine st_seq ?_
  refine st_region ?_
  refine r_pure (.bool true) rfl ?_
  refine r_seq ?_
  refine st_seq ?_
  refine st_region ?_
  refine r_pure (.bool true) rfl ?_
  refine r_seq ?_
  refine st_block ?_
  obtain ⟨tl12, hl13, hm11⟩ := bind_some hm
  refine st_loopF (slices_pdqsortCmpFunc_cross_Row.l1 b_ a_ data cmp) (fun s ρ w => () = s ∧ (∃ base, ρ = updl base [(0, .slice A1 data.length c2), (1, .int .i64 a_), (2, .int .i64 b_), (3, .int .i64 limit), (4, .func (.func gf6) #[] (List.toArray gcap7)), (10, .bool true), (11, .bool true)]) ∧ Hp w0 (Row K38 (.slice A1 data.length c2) data :: Γ) w) hl13 (fun _ => rfl) ⟨rfl, upk (ac rfl (ac rfl (ac rfl (ac rfl (ac rfl (ac rfl (ac rfl an))))))), H⟩ ?_
  rintro fuel19 IH21 s ρ w ⟨rfl, ⟨base, rfl⟩, H10⟩ hm
  rw [slices_pdqsortCmpFunc_cross_Row.l1] at hm
  refine st_block ?_
  refine st_seq ?_
  refine st_region ?_
  refine r_pure (.int .i64 b_) rfl ?_
  refine r_pure (.int .i64 a_) rfl ?_
  refine r_pure (.int .i64 (w64 (b_ - a_))) rfl ?_
  refine r_pure (.int .i64 (w64 (b_ - a_))) rfl ?_
  refine r_seq ?_
  refine st_seq ?_
  refine st_seq ?_
  refine st_region ?_
  refine r_pure (.int .i64 (w64 (b_ - a_))) rfl ?_
  refine r_pure (.bool (decide (w64 (b_ - a_) ≤ 12))) rfl ?_
  refine r_seq ?_
  rcases ite_some hm with ⟨hb22, hm⟩ | ⟨hb22, hm⟩
  · refine st_condt hb22 rfl ?_
    refine st_seq ?_
    refine st_region ?_
    refine r_pure (.slice A1 data.length c2) rfl ?_
    refine r_pure (.int .i64 a_) rfl ?_
    refine r_pure (.int .i64 b_) rfl ?_
    refine r_pure (.func (.func gf6) #[] (List.toArray gcap7)) rfl ?_
    obtain ⟨y23, hy24, hm⟩ := bind_some hm
    refine r_callf Try.call35 (slices_insertionSortCmpFunc_cross_Row_ok data A1 data.length c2 a_ b_ (.func (.func gf6) #[] (List.toArray gcap7)) cmp ⟨gf6, gcap7, rfl, ge8, fun x y hy Δ w H hΔ => gp9 x y hy Δ w H (fun u hu => (hΔ u hu))⟩ y23 H10 hy24) ?_
    rintro e26 wd25 ⟨rfl, H28⟩
    refine ⟨_, rfl, ?_⟩
    refine r_seq ?_
    have hq_ := Option.some.inj hm
    subst hq_
    have hq_ := Option.some.inj (show some (y23 : (List cross_Row)) = some r0_ from hm11)
    subst hq_
    refine st_ret0 rfl rfl ?_
    exact ⟨rfl, H28⟩
  · cases hm

set_option maxHeartbeats 2000000 in
theorem slices_SortFunc_cross_Row_ok {w0 w : World} {Γ : List (World → Prop)} (x_ : List cross_Row) (A1 : Option Addr) (n3 c2 : Nat) (fv4 : Value) (cmp : (cross_Row × cross_Row) → Option Int) (hp5 : FnOk Try.prog w0 Γ fv4 (fun x => [.agg #[.string x.1.Seller, .string x.1.Buyer, .int .i64 x.1.Amount], .agg #[.string x.2.Seller, .string x.2.Buyer, .int .i64 x.2.Amount]]) (fun r => .int .i64 r) cmp) (r0_ : List cross_Row) (H : Hp w0 (Row K38 (.slice A1 n3 c2) x_ :: Γ) w) (hm : slices_SortFunc_cross_Row x_ cmp = some r0_) : Calls Try.prog 21 #[.slice A1 n3 c2, fv4] w (fun e w => e = .returned (.tuple #[]) ∧ Hp w0 (Row K38 (.slice A1 n3 c2) r0_ :: Γ) w) := by
  obtain ⟨gf6, gcap7, rfl, ge8, gp9⟩ := hp5
  obtain rfl := (H.g0).leneq
  unfold slices_SortFunc_cross_Row at hm
  refine st_enter Try.func21 rfl Try.ntmps21 (Nat.le_of_ble_eq_true rfl) ?_
  refine st_seq ?_
  refine st_region ?_
  refine r_pure (.slice A1 x_.length c2) rfl ?_
  refine r_len Try.underlying34 rfl ?_
  refine r_pure (.int .i64 (x_.length : Int)) rfl ?_
  refine r_seq ?_
  refine st_region ?_
  refine r_pure (.slice A1 x_.length c2) rfl ?_
  refine r_pure (.int .i64 (x_.length : Int)) rfl ?_
  refine r_pure (.int .i64 (x_.length : Int)) rfl ?_
  refine r_conv Try.underlying3 Try.underlying68 rfl ?_
  obtain ⟨y10, hy11, hm⟩ := bind_some hm
  refine r_callf Try.call31 (math_bits_Len_ok (IntKind.u64.wrap (x_.length : Int)) y10 H hy11) ?_
  rintro e13 wd12 ⟨rfl, H15⟩
  refine ⟨_, rfl, ?_⟩
  refine r_pure (.func (.func gf6) #[] (List.toArray gcap7)) rfl ?_
  obtain ⟨y16, hy17, hm⟩ := bind_some hm
  refine r_callf Try.call30 (slices_pdqsortCmpFunc_cross_Row_ok x_ A1 x_.length c2 0 (x_.length : Int) y10 (.func (.func gf6) #[] (List.toArray gcap7)) cmp ⟨gf6, gcap7, rfl, ge8, fun x y hy Δ w H hΔ => gp9 x y hy Δ w H (fun u hu => (hΔ u hu))⟩ y16 H15 hy17) ?_
  rintro e19 wd18 ⟨rfl, H21⟩
  refine ⟨_, rfl, ?_⟩
  refine r_nil ?_
  have hq_ := Option.some.inj hm
  subst hq_
  refine n_fin0 rfl ?_
  exact ⟨rfl, H21⟩

set_option maxHeartbeats 2000000 in
theorem internal_bytealg_CompareString_ok {w0 w : World} {Γ : List (World → Prop)} (a_ : ByteArray) (b_ : ByteArray) (r0_ : Int) (H : Hp w0 (Γ) w) (hm : internal_bytealg_CompareString a_ b_ = some r0_) : Calls Try.prog 32 #[.string a_, .string b_] w (fun e w => e = .returned (.int .i64 r0_) ∧ Hp w0 (Γ) w) := by
  unfold internal_bytealg_CompareString at hm
  refine st_enter Try.func32 rfl Try.ntmps32 (Nat.le_of_ble_eq_true rfl) ?_
  refine st_seq ?_
  refine st_region ?_
  refine r_pure (.int .i64 0) rfl ?_
  refine r_seq ?_
  refine st_seq ?_
  refine st_region ?_
  refine r_pure (.string a_) rfl ?_
  refine r_pure (.string b_) rfl ?_
  refine r_cmps CX45 rfl rfl ?_
  refine r_pure (.int .i64 (scmp a_ b_)) rfl ?_
  refine r_seq ?_
  have hq_ := Option.some.inj hm
  subst hq_
  refine st_ret1 rfl rfl (Nat.le_of_ble_eq_true rfl) rfl ?_
  exact ⟨rfl, H⟩

set_option maxHeartbeats 2000000 in
theorem strings_Compare_ok {w0 w : World} {Γ : List (World → Prop)} (a_ : ByteArray) (b_ : ByteArray) (r0_ : Int) (H : Hp w0 (Γ) w) (hm : strings_Compare a_ b_ = some r0_) : Calls Try.prog 24 #[.string a_, .string b_] w (fun e w => e = .returned (.int .i64 r0_) ∧ Hp w0 (Γ) w) := by
  unfold strings_Compare at hm
  refine st_enter Try.func24 rfl Try.ntmps24 (Nat.le_of_ble_eq_true rfl) ?_
  refine st_seq ?_
  refine st_region ?_
  refine r_pure (.int .i64 0) rfl ?_
  refine r_seq ?_
  refine st_seq ?_
  refine st_region ?_
  refine r_pure (.string a_) rfl ?_
  refine r_pure (.string b_) rfl ?_
  obtain ⟨y1, hy2, hm⟩ := bind_some hm
  refine r_callf Try.call32 (internal_bytealg_CompareString_ok a_ b_ y1 H hy2) ?_
  rintro e4 wd3 ⟨rfl, H6⟩
  refine ⟨_, rfl, ?_⟩
  refine r_pure (.int .i64 y1) rfl ?_
  refine r_seq ?_
  have hq_ := Option.some.inj hm
  subst hq_
  refine st_ret1 rfl rfl (Nat.le_of_ble_eq_true rfl) rfl ?_
  exact ⟨rfl, H6⟩

set_option maxHeartbeats 2000000 in
theorem cmp_Or_int_ok {w0 w : World} {Γ : List (World → Prop)} (vals : List Int) (A1 : Option Addr) (n6 c2 : Nat) (hn5 : n6 = vals.length) (hc3 : vals.length ≤ c2) (hv4 : ∀ u, Hp w0 Γ u → SlR K3 A1 vals u) (r0_ : Int) (H : Hp w0 (Γ) w) (hm : cmp_Or_int vals = some r0_) : Calls Try.prog 23 #[.slice A1 n6 c2] w (fun e w => e = .returned (.int .i64 r0_) ∧ Hp w0 (Γ) w) := by
  subst hn5
  unfold cmp_Or_int at hm
  refine st_enter Try.func23 rfl Try.ntmps23 (Nat.le_of_ble_eq_true rfl) ?_
  refine st_seq ?_
  refine st_region ?_
  refine r_pure (.int .i64 0) rfl ?_
  refine r_seq ?_
  refine st_seq ?_
  refine st_region ?_
  refine r_pure (.int .i64 0) rfl ?_
  refine r_seq ?_
  refine st_seq ?_
  refine st_seq ?_
  refine st_region ?_
  refine r_pure (.slice A1 vals.length c2) rfl ?_
  refine r_len Try.underlying41 rfl ?_
  refine r_pure (.int .i64 0) rfl ?_
  refine r_seq ?_
  refine st_block ?_
  have hlim26 := (hv4 _ H).lim
  obtain ⟨tl9, hl10, hm8⟩ := bind_some hm
  refine st_loopL (cmp_Or_int.l1) (fun ys15 s ρ w => ∃ i11 : Int, ∃ dn12 : List Int, i11 = s ∧ vals = dn12 ++ ys15 ∧ i11 = (dn12.length : Int) ∧ (∃ base, ρ = updl base [(3, .int .i64 0), (6, .slice A1 vals.length c2), (7, .int .i64 (vals.length : Int)), (8, .int .i64 i11)]) ∧ Hp w0 (Γ) w) hl10 ⟨0, [], rfl, rfl, rfl, upk (ac rfl (ac rfl (ac rfl (ac rfl an)))), H⟩ ?_
  rintro m ys15 IH19 s ρ w ⟨i11, dn12, rfl, hxs13, hi14, ⟨base, rfl⟩, H7⟩ hm
  rcases ys15 with _ | ⟨y16, ys15⟩
  · rw [cmp_Or_int.l1] at hm
    have hb20 := range_end hxs13 hi14
    refine st_seq ?_
    refine st_region ?_
    refine r_pure (.bool (decide (i11 < (vals.length : Int)))) rfl ?_
    refine r_seq ?_
    refine st_seq ?_
    refine st_condf hb20 rfl ?_
    have hq_ := Option.some.inj hm
    refine st_exit rfl ?_
    subst hq_
    refine n_sq ?_
    refine st_seq ?_
    refine st_region ?_
    refine r_pure (.int .i64 0) rfl ?_
    refine r_pure (.int .i64 0) rfl ?_
    refine r_seq ?_
    have hq_ := Option.some.inj hm8
    subst hq_
    refine st_ret1 rfl rfl (Nat.le_of_ble_eq_true rfl) rfl ?_
    exact ⟨rfl, H7⟩
  · rw [cmp_Or_int.l1] at hm
    have hb21 := range_in hxs13 hi14
    obtain ⟨h022, h123, hj24⟩ := range_ix hxs13 hi14
    have hnx25 := range_next hxs13 hi14 hlim26
    refine st_seq ?_
    refine st_region ?_
    refine r_pure (.bool (decide (i11 < (vals.length : Int)))) rfl ?_
    refine r_seq ?_
    refine st_seq ?_
    refine st_condt hb21 rfl ?_
    refine st_skip ?_
    refine n_sq ?_
    refine st_seq ?_
    refine st_block ?_
    refine st_seq ?_
    refine st_region ?_
    have hA27 := (hv4 _ H7).adO hj24
    refine r_ix IX41 rfl rfl hA27 h022 h123 ?_
    refine r_ld1 (.int .i64 y16) LD3 rfl ((hv4 _ H7).c0A hA27 hj24 _ rfl) ?_
    refine r_pure (.int .i64 y16) rfl ?_
    refine r_seq ?_
    refine st_seq ?_
    refine st_region ?_
    refine r_pure (.int .i64 y16) rfl ?_
    refine r_pure (.int .i64 0) rfl ?_
    refine r_pure (.bool (y16 != 0)) rfl ?_
    refine r_seq ?_
    rcases ite_some hm with ⟨hb28, hm⟩ | ⟨hb28, hm⟩
    · refine st_condt hb28 rfl ?_
      refine st_seq ?_
      refine st_region ?_
      refine r_pure (.int .i64 y16) rfl ?_
      refine r_pure (.int .i64 y16) rfl ?_
      refine r_seq ?_
      have hq_ := Option.some.inj hm
      subst hq_
      have hq_ := Option.some.inj (show some (y16 : Int) = some r0_ from hm8)
      subst hq_
      refine st_ret1 rfl rfl (Nat.le_of_ble_eq_true rfl) rfl ?_
      exact ⟨rfl, H7⟩
    · refine st_condf hb28 rfl ?_
      refine st_skip ?_
      refine n_bl ?_
      refine n_sq ?_
      refine st_region ?_
      refine r_pure (.int .i64 (w64 (i11 + 1))) rfl ?_
      refine r_pure (.int .i64 (w64 (i11 + 1))) rfl ?_
      refine r_nil ?_
      refine n_round (IH19 _ _ rfl _ _ _ ⟨i11 + 1, dn12 ++ [y16], rfl, range_more hxs13, range_len hi14, upk (ac rfl (ac rfl (ac rfl (ac hnx25 an)))), H7⟩ hm)

set_option maxHeartbeats 2000000 in
theorem cross_Cross_Add_c2_ok {w0 w : World} {Γ : List (World → Prop)} (a_ : cross_Row) (b_ : cross_Row) (r0_ : Int) (H : Hp w0 (Γ) w) (hm : cross_Cross_Add_c2 a_ b_ = some r0_) : Calls Try.prog 22 #[.agg #[.string a_.Seller, .string a_.Buyer, .int .i64 a_.Amount], .agg #[.string b_.Seller, .string b_.Buyer, .int .i64 b_.Amount]] w (fun e w => e = .returned (.int .i64 r0_) ∧ Hp w0 (Γ) w) := by
  unfold cross_Cross_Add_c2 at hm
  refine st_enter Try.func22 rfl Try.ntmps22 (Nat.le_of_ble_eq_true rfl) ?_
  refine st_seq ?_
  refine st_region ?_
  refine r_box [.string a_.Seller, .string a_.Buyer, .int .i64 a_.Amount] H rfl ?_
  intro b1 wd3 H2
  refine r_box [.string b_.Seller, .string b_.Buyer, .int .i64 b_.Amount] H2 rfl ?_
  intro b4 wd6 H5
  refine r_pure (.int .i64 0) rfl ?_
  refine r_seq ?_
  refine st_seq ?_
  obtain ⟨y8, hy9, hm⟩ := bind_some hm
  obtain ⟨y14, hy15, hm⟩ := bind_some hm
  obtain ⟨y23, hy24, hm⟩ := bind_some hm
  refine Flow.run' [[], [0], [], [2], [0, 1, 2, 3], [], [5], [], [7], [0, 1, 2, 3, 4, 5, 6, 7, 8], [0, 1, 2, 3, 4, 5, 6, 7, 8, 9], [0, 1, 2, 3, 4, 5, 6, 7, 8, 9, 10], [0, 1, 2, 3, 4, 5, 6, 7, 8, 9, 10, 11]] [(5, 0), (6, 1), (7, 2), (8, 3), (9, 4), (10, 5), (11, 6), (12, 7), (13, 8), (14, 9), (15, 10), (16, 11), (4, 12)] [(fun η7 v => v.1 = .pointer (some ⟨b1, 0, none⟩)), (fun η7 v => v.1 = .string a_.Seller), (fun η7 v => v.1 = .pointer (some ⟨b4, 0, none⟩)), (fun η7 v => v.1 = .string b_.Seller), (fun η7 v => v.1 = .int .i64 y8), (fun η7 v => v.1 = .pointer (some ⟨b1, 1, none⟩)), (fun η7 v => v.1 = .string a_.Buyer), (fun η7 v => v.1 = .pointer (some ⟨b4, 1, none⟩)), (fun η7 v => v.1 = .string b_.Buyer), (fun η7 v => v.1 = .int .i64 y14), (fun η7 v => v.1 = .slice (some ⟨(oA (vA (v.1))).block, 0, none⟩) 2 2), (fun η7 v => v.1 = .int .i64 y23), (fun η7 v => v.1 = .int .i64 y23)] [⟨(some 10), none, fun η7 => Row K3 (.slice (some ⟨(oA (vA ((η7 10).1))).block, 0, none⟩) 2 2) [y8, y14]⟩] rfl (by kernel_rfl) (by kernel_rfl) H5 ⟨?_, ?_, ?_, ?_, ?_, ?_, ?_, ?_, ?_, ?_, ?_, ?_, ?_, trivial⟩ ?_
  · intro η7 wd32 Δ33 hE29 hR30 H31
    have H31 : Hp w0 ((Δ33 ++ (Bx b4 38 [.string b_.Seller, .string b_.Buyer, .int .i64 b_.Amount] :: Bx b1 38 [.string a_.Seller, .string a_.Buyer, .int .i64 a_.Amount] :: Γ))) wd32 := H31
    refine sp_op [(2, .pointer (some ⟨b1, 0, none⟩))] (ac rfl an) ?_
    refine r_fa FA38_0 ⟨b1, 0, none⟩ rfl rfl ?_
    exact r_nil (n_lp ⟨_, rfl, undef, rfl, H31⟩)
  · intro η7 wd37 Δ38 hE34 hR35 H36
    have H36 : Hp w0 ((Δ38 ++ (Bx b4 38 [.string b_.Seller, .string b_.Buyer, .int .i64 b_.Amount] :: Bx b1 38 [.string a_.Seller, .string a_.Buyer, .int .i64 a_.Amount] :: Γ))) wd37 := H36
    refine sp_op [(5, .pointer (some ⟨b1, 0, none⟩))] (ac (hE34 0 (by decide)) an) ?_
    refine r_ld1 (.string a_.Seller) LD9 rfl (((H36).tl.g1).cell _ rfl) ?_
    exact r_nil (n_lp ⟨_, rfl, undef, rfl, H36⟩)
  · intro η7 wd42 Δ43 hE39 hR40 H41
    have H41 : Hp w0 ((Δ43 ++ (Bx b4 38 [.string b_.Seller, .string b_.Buyer, .int .i64 b_.Amount] :: Bx b1 38 [.string a_.Seller, .string a_.Buyer, .int .i64 a_.Amount] :: Γ))) wd42 := H41
    refine sp_op [(3, .pointer (some ⟨b4, 0, none⟩))] (ac rfl an) ?_
    refine r_fa FA38_0 ⟨b4, 0, none⟩ rfl rfl ?_
    exact r_nil (n_lp ⟨_, rfl, undef, rfl, H41⟩)
  · intro η7 wd47 Δ48 hE44 hR45 H46
    have H46 : Hp w0 ((Δ48 ++ (Bx b4 38 [.string b_.Seller, .string b_.Buyer, .int .i64 b_.Amount] :: Bx b1 38 [.string a_.Seller, .string a_.Buyer, .int .i64 a_.Amount] :: Γ))) wd47 := H46
    refine sp_op [(7, .pointer (some ⟨b4, 0, none⟩))] (ac (hE44 2 (by decide)) an) ?_
    refine r_ld1 (.string b_.Seller) LD9 rfl (((H46).tl.g0).cell _ rfl) ?_
    exact r_nil (n_lp ⟨_, rfl, undef, rfl, H46⟩)
  · intro η7 wd52 Δ53 hE49 hR50 H51
    have H51 : Hp w0 ((Δ53 ++ (Bx b4 38 [.string b_.Seller, .string b_.Buyer, .int .i64 b_.Amount] :: Bx b1 38 [.string a_.Seller, .string a_.Buyer, .int .i64 a_.Amount] :: Γ))) wd52 := H51
    refine sp_op [(6, .string a_.Seller), (8, .string b_.Seller)] (ac (hE49 1 (by decide)) (ac (hE49 3 (by decide)) an)) ?_
    refine r_callf Try.call24 (strings_Compare_ok a_.Seller b_.Seller y8 H51 hy9) ?_
    rintro e57 wd56 ⟨rfl, H59⟩
    refine ⟨_, rfl, ?_⟩
    exact r_nil (n_lp ⟨_, rfl, undef, rfl, H59⟩)
  · intro η7 wd63 Δ64 hE60 hR61 H62
    have H62 : Hp w0 ((Δ64 ++ (Bx b4 38 [.string b_.Seller, .string b_.Buyer, .int .i64 b_.Amount] :: Bx b1 38 [.string a_.Seller, .string a_.Buyer, .int .i64 a_.Amount] :: Γ))) wd63 := H62
    refine sp_op [(2, .pointer (some ⟨b1, 0, none⟩))] (ac rfl an) ?_
    refine r_fa FA38_1 ⟨b1, 1, none⟩ rfl rfl ?_
    exact r_nil (n_lp ⟨_, rfl, undef, rfl, H62⟩)
  · intro η7 wd68 Δ69 hE65 hR66 H67
    have H67 : Hp w0 ((Δ69 ++ (Bx b4 38 [.string b_.Seller, .string b_.Buyer, .int .i64 b_.Amount] :: Bx b1 38 [.string a_.Seller, .string a_.Buyer, .int .i64 a_.Amount] :: Γ))) wd68 := H67
    refine sp_op [(10, .pointer (some ⟨b1, 1, none⟩))] (ac (hE65 5 (by decide)) an) ?_
    refine r_ld1 (.string a_.Buyer) LD9 rfl (((H67).tl.g1).cell _ rfl) ?_
    exact r_nil (n_lp ⟨_, rfl, undef, rfl, H67⟩)
  · intro η7 wd73 Δ74 hE70 hR71 H72
    have H72 : Hp w0 ((Δ74 ++ (Bx b4 38 [.string b_.Seller, .string b_.Buyer, .int .i64 b_.Amount] :: Bx b1 38 [.string a_.Seller, .string a_.Buyer, .int .i64 a_.Amount] :: Γ))) wd73 := H72
    refine sp_op [(3, .pointer (some ⟨b4, 0, none⟩))] (ac rfl an) ?_
    refine r_fa FA38_1 ⟨b4, 1, none⟩ rfl rfl ?_
    exact r_nil (n_lp ⟨_, rfl, undef, rfl, H72⟩)
  · intro η7 wd78 Δ79 hE75 hR76 H77
    have H77 : Hp w0 ((Δ79 ++ (Bx b4 38 [.string b_.Seller, .string b_.Buyer, .int .i64 b_.Amount] :: Bx b1 38 [.string a_.Seller, .string a_.Buyer, .int .i64 a_.Amount] :: Γ))) wd78 := H77
    refine sp_op [(12, .pointer (some ⟨b4, 1, none⟩))] (ac (hE75 7 (by decide)) an) ?_
    refine r_ld1 (.string b_.Buyer) LD9 rfl (((H77).tl.g0).cell _ rfl) ?_
    exact r_nil (n_lp ⟨_, rfl, undef, rfl, H77⟩)
  · intro η7 wd83 Δ84 hE80 hR81 H82
    have H82 : Hp w0 ((Δ84 ++ (Bx b4 38 [.string b_.Seller, .string b_.Buyer, .int .i64 b_.Amount] :: Bx b1 38 [.string a_.Seller, .string a_.Buyer, .int .i64 a_.Amount] :: Γ))) wd83 := H82
    refine sp_op [(11, .string a_.Buyer), (13, .string b_.Buyer)] (ac (hE80 6 (by decide)) (ac (hE80 8 (by decide)) an)) ?_
    refine r_callf Try.call24 (strings_Compare_ok a_.Buyer b_.Buyer y14 H82 hy15) ?_
    rintro e88 wd87 ⟨rfl, H90⟩
    refine ⟨_, rfl, ?_⟩
    exact r_nil (n_lp ⟨_, rfl, undef, rfl, H90⟩)
  · intro η7 wd94 Δ95 hE91 hR92 H93
    have H93 : Hp w0 ((Δ95 ++ (Bx b4 38 [.string b_.Seller, .string b_.Buyer, .int .i64 b_.Amount] :: Bx b1 38 [.string a_.Seller, .string a_.Buyer, .int .i64 a_.Amount] :: Γ))) wd94 := H93
    refine sp_op [(9, .int .i64 y8), (14, .int .i64 y14)] (ac (hE91 4 (by decide)) (ac (hE91 9 (by decide)) an)) ?_
    refine r_buildSlice (K := K3) [y8, y14] EL41 rfl rfl rfl (by decide) (by decide) rfl H93 ?_
    intro b96 wd98 H97
    exact r_nil (n_lp ⟨_, rfl, (.tuple #[.slice (some ⟨b96, 0, none⟩) 2 2]), rfl, H97⟩)
  · intro η7 wd102 Δ103 hE99 hR100 H101
    have H101 : Hp w0 ((Δ103 ++ (Bx b4 38 [.string b_.Seller, .string b_.Buyer, .int .i64 b_.Amount] :: Bx b1 38 [.string a_.Seller, .string a_.Buyer, .int .i64 a_.Amount] :: Γ))) wd102 := H101
    refine sp_op [(15, .slice (some ⟨(oA (vA ((η7 10).1))).block, 0, none⟩) 2 2)] (ac (hE99 10 (by decide)) an) ?_
    refine r_callf Try.call23 (cmp_Or_int_ok [y8, y14] (some ⟨(oA (vA ((η7 10).1))).block, 0, none⟩) 2 2 rfl (((show (Row K3 (.slice (some ⟨(oA (vA ((η7 10).1))).block, 0, none⟩) 2 2) [y8, y14]) _ from ((H101)).memr (hR100 _ (List.mem_of_getElem? (i := 0) rfl) rfl))).cap) (fun _ H => ((show (Row K3 (.slice (some ⟨(oA (vA ((η7 10).1))).block, 0, none⟩) 2 2) [y8, y14]) _ from (H).memr (hR100 _ (List.mem_of_getElem? (i := 0) rfl) rfl)).rd)) y23 H101 hy24) ?_
    rintro e107 wd106 ⟨rfl, H109⟩
    refine ⟨_, rfl, ?_⟩
    exact r_nil (n_lp ⟨_, rfl, undef, rfl, H109⟩)
  · intro η7 wd113 Δ114 hE110 hR111 H112
    have H112 : Hp w0 ((Δ114 ++ (Bx b4 38 [.string b_.Seller, .string b_.Buyer, .int .i64 b_.Amount] :: Bx b1 38 [.string a_.Seller, .string a_.Buyer, .int .i64 a_.Amount] :: Γ))) wd113 := H112
    refine sp_op [(16, .int .i64 y23)] (ac (hE110 11 (by decide)) an) ?_
    refine r_pure (.int .i64 y23) rfl ?_
    exact r_nil (n_lp ⟨_, rfl, undef, rfl, H112⟩)
  · intro η7 wd116 hV117 H115
    have H118 : Hp w0 (Row K3 (.slice (some ⟨(oA (vA ((η7 10).1))).block, 0, none⟩) 2 2) [y8, y14] :: Bx b4 38 [.string b_.Seller, .string b_.Buyer, .int .i64 b_.Amount] :: Bx b1 38 [.string a_.Seller, .string a_.Buyer, .int .i64 a_.Amount] :: Γ) wd116 := H115
    refine n_frame [(4, .int .i64 y23)] (ac (hV117 12 rfl) an) ?_
    refine n_sq ?_
    have hq_ := Option.some.inj hm
    subst hq_
    refine st_ret1 rfl rfl (Nat.le_of_ble_eq_true rfl) rfl ?_
    exact ⟨rfl, H118.d.d.d⟩

set_option maxHeartbeats 2000000 in
theorem cross_Cross_Add_ok {w0 w : World} {Γ : List (World → Prop)} (b1 : Nat) (c_ : cross_Cross) (A2 : Option Addr) (c3 : Nat) (seller : ByteArray) (buyer : ByteArray) (n_ : Int) (r0_ : Int) (r1_ : cross_Cross) (H : Hp w0 (Bx b1 53 [.slice A2 c_.f_l.length c3] :: Row K38 (.slice A2 c_.f_l.length c3) c_.f_l :: Γ) w) (hm : cross_Cross_Add c_ seller buyer n_ = some (r0_, r1_)) : Calls Try.prog 7 #[.pointer (some ⟨b1, 0, none⟩), .string seller, .string buyer, .int .i64 n_] w (fun e w => ∃ (Ax1 : Option Addr) (nx2 cx3 : Nat), e = .returned (.int .i64 r0_) ∧ Hp w0 (Bx b1 53 [.slice Ax1 nx2 cx3] :: Row K38 (.slice Ax1 nx2 cx3) r1_.f_l :: Γ) w) := by
  unfold cross_Cross_Add at hm
  refine st_enter Try.func7 rfl Try.ntmps7 (Nat.le_of_ble_eq_true rfl) ?_
  refine st_seq ?_
  refine st_region ?_
  refine r_box [.string seller] H rfl ?_
  intro b4 wd6 H5
  refine r_box [.string buyer] H5 rfl ?_
  intro b7 wd9 H8
  refine r_pure (.int .i64 0) rfl ?_
  refine r_seq ?_
  refine st_seq ?_
  refine st_cut (fun ρ w => ∃ q10 : Bool, (∃ base, ρ = updl base [(0, .pointer (some ⟨b1, 0, none⟩)), (3, .int .i64 n_), (5, .pointer (some ⟨b4, 0, none⟩)), (6, .pointer (some ⟨b7, 0, none⟩)), (28, .bool q10)]) ∧ Hp w0 (Row K38 (.slice A2 c_.f_l.length c3) c_.f_l :: Bx b1 53 [.slice A2 c_.f_l.length c3] :: Bx b4 9 [.string seller] :: Bx b7 9 [.string buyer] :: Γ) w ∧ cross_Cross_Add.j1 c_ seller buyer n_ q10 = some (r0_, r1_)) ?_ ?_
  · refine st_region ?_
    refine r_ld1 (.string seller) LD9 rfl ((H8.g1).cell _ rfl) ?_
    refine r_pure (.bool ((seller).toList == ((⟨#[]⟩ : ByteArray)).toList)) rfl ?_
    refine r_pure (.bool ((seller).toList == ((⟨#[]⟩ : ByteArray)).toList)) rfl ?_
    rcases ite_some hm with ⟨hb77, hm⟩ | ⟨hb77, hm⟩
    · refine r_not (wn_f rfl rfl (by decide) rfl hb77) ?_
      refine r_not (wn_f rfl rfl (by decide) rfl hb77) ?_
      refine r_pick_t (.bool true) hb77 rfl rfl ?_
      refine r_pure (.bool true) rfl ?_
      refine r_not (wn_f rfl rfl (by decide) rfl rfl) ?_
      refine r_not (wn_f rfl rfl (by decide) rfl rfl) ?_
      refine r_not (wn_f rfl rfl (by decide) rfl rfl) ?_
      refine r_pick_t (.bool true) rfl rfl rfl ?_
      refine r_pure (.bool true) rfl ?_
      refine r_not (wn_f rfl rfl (by decide) rfl rfl) ?_
      refine r_not (wn_f rfl rfl (by decide) rfl rfl) ?_
      refine r_not (wn_f rfl rfl (by decide) rfl rfl) ?_
      refine r_pick_t (.bool true) rfl rfl rfl ?_
      refine r_nil ?_
      refine n_cut ⟨true, upk (ac rfl (ac rfl (ac rfl (ac rfl (ac rfl an))))), H8.u1.u2.u3, hm⟩
    · refine r_ld1 (.string buyer) LD9 rfl ((H8.g0).cell _ rfl) ?_ (wn_t rfl rfl (by decide) rfl hb77)
      refine r_pure (.bool ((buyer).toList == ((⟨#[]⟩ : ByteArray)).toList)) rfl ?_ (wn_t rfl rfl (by decide) rfl hb77)
      refine r_pick_f (.bool ((buyer).toList == ((⟨#[]⟩ : ByteArray)).toList)) hb77 rfl rfl ?_
      refine r_pure (.bool ((buyer).toList == ((⟨#[]⟩ : ByteArray)).toList)) rfl ?_
      rcases ite_some hm with ⟨hb78, hm⟩ | ⟨hb78, hm⟩
      · refine r_not (wn_f rfl rfl (by decide) rfl hb78) ?_
        refine r_not (wn_f rfl rfl (by decide) rfl hb78) ?_
        refine r_not (wn_f rfl rfl (by decide) rfl hb78) ?_
        refine r_pick_t (.bool true) hb78 rfl rfl ?_
        refine r_pure (.bool true) rfl ?_
        refine r_not (wn_f rfl rfl (by decide) rfl rfl) ?_
        refine r_not (wn_f rfl rfl (by decide) rfl rfl) ?_
        refine r_not (wn_f rfl rfl (by decide) rfl rfl) ?_
        refine r_pick_t (.bool true) rfl rfl rfl ?_
        refine r_nil ?_
        refine n_cut ⟨true, upk (ac rfl (ac rfl (ac rfl (ac rfl (ac rfl an))))), H8.u1.u2.u3, hm⟩
      · refine r_ld1 (.string seller) LD9 rfl ((H8.g1).cell _ rfl) ?_ (wn_t rfl rfl (by decide) rfl hb78)
        refine r_ld1 (.string buyer) LD9 rfl ((H8.g0).cell _ rfl) ?_ (wn_t rfl rfl (by decide) rfl hb78)
        refine r_pure (.bool ((seller).toList == (buyer).toList)) rfl ?_ (wn_t rfl rfl (by decide) rfl hb78)
        refine r_pick_f (.bool ((seller).toList == (buyer).toList)) hb78 rfl rfl ?_
        refine r_pure (.bool ((seller).toList == (buyer).toList)) rfl ?_
        rcases ite_some hm with ⟨hb79, hm⟩ | ⟨hb79, hm⟩
        · refine r_not (wn_f rfl rfl (by decide) rfl hb79) ?_
          refine r_not (wn_f rfl rfl (by decide) rfl hb79) ?_
          refine r_not (wn_f rfl rfl (by decide) rfl hb79) ?_
          refine r_pick_t (.bool true) hb79 rfl rfl ?_
          refine r_nil ?_
          refine n_cut ⟨true, upk (ac rfl (ac rfl (ac rfl (ac rfl (ac rfl an))))), H8.u1.u2.u3, hm⟩
        · refine r_pure (.int .i64 n_) rfl ?_ (wn_t rfl rfl (by decide) rfl hb79)
          obtain ⟨y80, hy81, hm⟩ := bind_some hm
          refine r_callf Try.call17 (rate_Money_ok n_ y80 H8 hy81) ?_ (wn_t rfl rfl (by decide) rfl hb79)
          rintro e83 wd82 ⟨rfl, H85⟩
          refine ⟨_, rfl, ?_⟩
          refine r_pure (.bool (!y80)) rfl ?_ (wn_t rfl rfl (by decide) rfl hb79)
          refine r_pick_f (.bool (!y80)) hb79 rfl rfl ?_
          refine r_nil ?_
          refine n_cut ⟨!y80, upk (ac rfl (ac rfl (ac rfl (ac rfl (ac rfl an))))), H85.u1.u2.u3, hm⟩
  · rintro ρ w ⟨q10, ⟨base, rfl⟩, H11, hm⟩
    unfold cross_Cross_Add.j1 at hm
    rcases ite_some hm with ⟨hb12, hm⟩ | ⟨hb12, hm⟩
    · refine st_condt hb12 rfl ?_
      refine st_seq ?_
      refine st_region ?_
      refine r_pure (.int .i64 1) rfl ?_
      refine r_seq ?_
      obtain ⟨rfl, rfl⟩ := some_inj2 hm
      refine st_ret1 rfl rfl (Nat.le_of_ble_eq_true rfl) rfl ?_
      exact ⟨A2, c_.f_l.length, c3, rfl, H11.u2.d.u2.d.u1⟩
    · refine st_condf hb12 rfl ?_
      refine st_skip ?_
      refine n_sq ?_
      refine st_seq ?_
      refine st_region ?_
      refine r_func (.func (.func 18) #[] #[.pointer (some ⟨b4, 0, none⟩), .pointer (some ⟨b7, 0, none⟩)]) rfl ?_
      refine r_pure (.func (.func 18) #[] #[.pointer (some ⟨b4, 0, none⟩), .pointer (some ⟨b7, 0, none⟩)]) rfl ?_
      refine r_seq ?_
      refine st_seq ?_
      refine st_region ?_
      refine r_pure (.int .i64 0) rfl ?_
      refine r_seq ?_
      refine st_cut (fun ρ w => ∃ v13 : Int, (∃ base, ρ = updl base [(0, .pointer (some ⟨b1, 0, none⟩)), (3, .int .i64 n_), (5, .pointer (some ⟨b4, 0, none⟩)), (6, .pointer (some ⟨b7, 0, none⟩)), (9, .func (.func 18) #[] #[.pointer (some ⟨b4, 0, none⟩), .pointer (some ⟨b7, 0, none⟩)]), (10, .int .i64 v13)]) ∧ Hp w0 (Row K38 (.slice A2 c_.f_l.length c3) c_.f_l :: Bx b1 53 [.slice A2 c_.f_l.length c3] :: Bx b4 9 [.string seller] :: Bx b7 9 [.string buyer] :: Γ) w ∧ cross_Cross_Add.j2 n_ c_ seller buyer v13 = some (r0_, r1_)) ?_ ?_
      · refine st_seq ?_
        refine st_region ?_
        refine r_pure (.pointer (some ⟨b1, 0, none⟩)) rfl ?_
        refine r_pure (.pointer (some ⟨b1, 0, none⟩)) rfl ?_
        refine r_fa FA53_0 ⟨b1, 0, none⟩ rfl rfl ?_
        refine r_ld1 (.slice A2 c_.f_l.length c3) LD34 rfl ((H11.g1).cell _ rfl) ?_
        refine r_pure (.func (.func 18) #[] #[.pointer (some ⟨b4, 0, none⟩), .pointer (some ⟨b7, 0, none⟩)]) rfl ?_
        obtain ⟨y66, hy67, hm⟩ := bind_some hm
        refine r_callf Try.call19 (slices_IndexFunc_cross_Row_ok c_.f_l A2 c_.f_l.length c3 rfl (((H11).g0).cap) (fun _ H => (H.g0.rd)) (.func (.func 18) #[] #[.pointer (some ⟨b4, 0, none⟩), .pointer (some ⟨b7, 0, none⟩)]) (fun x => cross_Cross_Add_c1 x seller buyer) ⟨18, [.pointer (some ⟨b4, 0, none⟩), .pointer (some ⟨b7, 0, none⟩)], rfl, Try.call18, fun x y hy Δ w H hΔ => cross_Cross_Add_c1_ok x b4 seller (fun _ H => ((hΔ _ H).g2)) b7 buyer (fun _ H => ((hΔ _ H).g3)) y H hy⟩ y66 H11 hy67) ?_
        rintro e69 wd68 ⟨rfl, H71⟩
        refine ⟨_, rfl, ?_⟩
        refine r_pure (.int .i64 y66) rfl ?_
        refine r_seq ?_
        refine st_seq ?_
        refine st_region ?_
        refine r_pure (.int .i64 y66) rfl ?_
        refine r_pure (.bool (decide (y66 ≥ 0))) rfl ?_
        refine r_seq ?_
        rcases ite_some hm with ⟨hb72, hm⟩ | ⟨hb72, hm⟩
        · refine st_condt hb72 rfl ?_
          refine st_region ?_
          refine r_pure (.pointer (some ⟨b1, 0, none⟩)) rfl ?_
          refine r_pure (.pointer (some ⟨b1, 0, none⟩)) rfl ?_
          refine r_fa FA53_0 ⟨b1, 0, none⟩ rfl rfl ?_
          refine r_ld1 (.slice A2 c_.f_l.length c3) LD34 rfl ((H71.g1).cell _ rfl) ?_
          refine r_pure (.int .i64 y66) rfl ?_
          obtain ⟨⟨h073, h174⟩, hm⟩ := gd_some hm
          have hj75 := rd_get h073 h174
          have hA76 := (H71.g0.rd).adO hj75
          refine r_ix IX34 rfl rfl hA76 h073 h174 ?_
          refine r_fa FA38_2 (((oA A2).add (Int.toNat y66 * 3)).add 2) rfl rfl ?_
          refine r_ld1 (.int .i64 ((rd c_.f_l y66).Amount)) LD3 rfl ((H71.g0.rd).cA hA76 hj75 2 _ rfl) ?_
          refine r_pure (.int .i64 ((rd c_.f_l y66).Amount)) rfl ?_
          refine r_nil ?_
          refine n_cut ⟨(rd c_.f_l y66).Amount, upk (ac rfl (ac rfl (ac rfl (ac rfl (ac rfl (ac rfl an)))))), H71.u3.u3.u3.u3, hm⟩
        · refine st_condf hb72 rfl ?_
          refine st_skip ?_
          refine n_cut ⟨0, upk (ac rfl (ac rfl (ac rfl (ac rfl (ac rfl (ac rfl an)))))), H71.u3.u3.u3.u3, hm⟩
      · rintro ρ w ⟨v13, ⟨base, rfl⟩, H14, hm⟩
        unfold cross_Cross_Add.j2 at hm
        refine st_seq ?_
        refine st_cut (fun ρ w => ∃ q15 : Bool, (∃ base, ρ = updl base [(0, .pointer (some ⟨b1, 0, none⟩)), (3, .int .i64 n_), (5, .pointer (some ⟨b4, 0, none⟩)), (6, .pointer (some ⟨b7, 0, none⟩)), (9, .func (.func 18) #[] #[.pointer (some ⟨b4, 0, none⟩), .pointer (some ⟨b7, 0, none⟩)]), (10, .int .i64 v13), (56, .bool q15)]) ∧ Hp w0 (Row K38 (.slice A2 c_.f_l.length c3) c_.f_l :: Bx b1 53 [.slice A2 c_.f_l.length c3] :: Bx b4 9 [.string seller] :: Bx b7 9 [.string buyer] :: Γ) w ∧ cross_Cross_Add.j3 c_ seller buyer v13 n_ q15 = some (r0_, r1_)) ?_ ?_
        · refine st_region ?_
          refine r_pure (.int .i64 v13) rfl ?_
          refine r_pure (.int .i64 n_) rfl ?_
          refine r_pure (.int .i64 (w64 (v13 + n_))) rfl ?_
          refine r_pure (.bool (decide (w64 (v13 + n_) < 0))) rfl ?_
          refine r_pure (.bool (decide (w64 (v13 + n_) < 0))) rfl ?_
          rcases ite_some hm with ⟨hb59, hm⟩ | ⟨hb59, hm⟩
          · refine r_not (wn_f rfl rfl (by decide) rfl hb59) ?_
            refine r_not (wn_f rfl rfl (by decide) rfl hb59) ?_
            refine r_not (wn_f rfl rfl (by decide) rfl hb59) ?_
            refine r_not (wn_f rfl rfl (by decide) rfl hb59) ?_
            refine r_not (wn_f rfl rfl (by decide) rfl hb59) ?_
            refine r_pick_t (.bool true) hb59 rfl rfl ?_
            refine r_nil ?_
            refine n_cut ⟨true, upk (ac rfl (ac rfl (ac rfl (ac rfl (ac rfl (ac rfl (ac rfl an))))))), H14.u3.u3.u3.u3, hm⟩
          · refine r_pure (.int .i64 v13) rfl ?_ (wn_t rfl rfl (by decide) rfl hb59)
            refine r_pure (.int .i64 n_) rfl ?_ (wn_t rfl rfl (by decide) rfl hb59)
            refine r_pure (.int .i64 (w64 (v13 + n_))) rfl ?_ (wn_t rfl rfl (by decide) rfl hb59)
            obtain ⟨y60, hy61, hm⟩ := bind_some hm
            refine r_callf Try.call17 (rate_Money_ok (w64 (v13 + n_)) y60 H14 hy61) ?_ (wn_t rfl rfl (by decide) rfl hb59)
            rintro e63 wd62 ⟨rfl, H65⟩
            refine ⟨_, rfl, ?_⟩
            refine r_pure (.bool (!y60)) rfl ?_ (wn_t rfl rfl (by decide) rfl hb59)
            refine r_pick_f (.bool (!y60)) hb59 rfl rfl ?_
            refine r_nil ?_
            refine n_cut ⟨!y60, upk (ac rfl (ac rfl (ac rfl (ac rfl (ac rfl (ac rfl (ac rfl an))))))), H65.u3.u3.u3.u3, hm⟩
        · rintro ρ w ⟨q15, ⟨base, rfl⟩, H16, hm⟩
          unfold cross_Cross_Add.j3 at hm
          rcases ite_some hm with ⟨hb17, hm⟩ | ⟨hb17, hm⟩
          · refine st_condt hb17 rfl ?_
            refine st_seq ?_
            refine st_region ?_
            refine r_pure (.int .i64 6) rfl ?_
            refine r_seq ?_
            obtain ⟨rfl, rfl⟩ := some_inj2 hm
            refine st_ret1 rfl rfl (Nat.le_of_ble_eq_true rfl) rfl ?_
            exact ⟨A2, c_.f_l.length, c3, rfl, H16.u2.d.u2.d.u1⟩
          · refine st_condf hb17 rfl ?_
            refine st_skip ?_
            refine n_sq ?_
            refine st_seq ?_
            refine st_region ?_
            refine r_pure (.pointer (some ⟨b1, 0, none⟩)) rfl ?_
            obtain ⟨y18, hy19, hm⟩ := bind_some hm
            refine r_callf Try.call8 (cross_Cross_Rows_ok b1 (⟨c_.f_l⟩ : cross_Cross) A2 c_.f_l.length c3 rfl (((H16).g0).cap) (fun _ H => (H.g0.rd)) (fun _ H => (H.g1)) y18 H16 hy19) ?_
            rintro e21 wd20 ⟨A24, n25, c26, rfl, H23⟩
            obtain rfl := (H23.g0).leneq
            refine ⟨_, rfl, ?_⟩
            refine r_pure (.func (.func 18) #[] #[.pointer (some ⟨b4, 0, none⟩), .pointer (some ⟨b7, 0, none⟩)]) rfl ?_
            obtain ⟨y27, hy28, hm⟩ := bind_some hm
            refine r_callf Try.call20 (slices_DeleteFunc_cross_Row_ok y18 A24 y18.length c26 (.func (.func 18) #[] #[.pointer (some ⟨b4, 0, none⟩), .pointer (some ⟨b7, 0, none⟩)]) (fun x => cross_Cross_Add_c1 x seller buyer) ⟨18, [.pointer (some ⟨b4, 0, none⟩), .pointer (some ⟨b7, 0, none⟩)], rfl, Try.call18, fun x y hy Δ w H hΔ => cross_Cross_Add_c1_ok x b4 seller (fun _ H => ((hΔ _ H).g2)) b7 buyer (fun _ H => ((hΔ _ H).g3)) y H hy⟩ y27 H23 hy28) ?_
            rintro e30 wd29 ⟨A33, n34, c35, rfl, H32⟩
            obtain rfl := (H32.g0).leneq
            refine ⟨_, rfl, ?_⟩
            refine r_pure (.slice A33 y27.length c35) rfl ?_
            refine r_seq ?_
            refine st_cut (fun ρ w => ∃ A36 : Option Addr, ∃ n37 : Nat, ∃ c38 : Nat, ∃ xs39 : List cross_Row, (∃ base, ρ = updl base [(0, .pointer (some ⟨b1, 0, none⟩)), (12, .slice A36 n37 c38)]) ∧ Hp w0 (Row K38 (.slice A2 c_.f_l.length c3) c_.f_l :: Bx b1 53 [.slice A2 c_.f_l.length c3] :: Row K38 (.slice A36 n37 c38) xs39 :: Γ) w ∧ cross_Cross_Add.j4 c_ xs39 = some (r0_, r1_)) ?_ ?_
            · refine st_seq ?_
              refine st_region ?_
              refine r_pure (.int .i64 v13) rfl ?_
              refine r_pure (.int .i64 n_) rfl ?_
              refine r_pure (.int .i64 (w64 (v13 + n_))) rfl ?_
              refine r_pure (.bool (w64 (v13 + n_) != 0)) rfl ?_
              refine r_seq ?_
              rcases ite_some hm with ⟨hb50, hm⟩ | ⟨hb50, hm⟩
              · refine st_condt hb50 rfl ?_
                refine st_region ?_
                refine r_pure (.slice A33 y27.length c35) rfl ?_
                refine r_ld1 (.string seller) LD9 rfl ((H32.g3).cell _ rfl) ?_
                refine r_ld1 (.string buyer) LD9 rfl ((H32.g4).cell _ rfl) ?_
                refine r_pure (.int .i64 v13) rfl ?_
                refine r_pure (.int .i64 n_) rfl ?_
                refine r_pure (.int .i64 (w64 (v13 + n_))) rfl ?_
                refine r_build [.string seller, .string buyer, .int .i64 (w64 (v13 + n_))] FL38 rfl ?_
                refine r_buildSlice (K := K38) [(⟨seller, buyer, w64 (v13 + n_)⟩ : cross_Row)] EL34 rfl rfl rfl (by decide) (by decide) rfl H32 ?_
                intro b51 wd53 H52
                obtain ⟨hf54, hm⟩ := gd_some hm
                refine r_append (K := K38) (ys := [(⟨seller, buyer, w64 (v13 + n_)⟩ : cross_Row)]) AP34 rfl rfl rfl rfl H52.u1 (((H52.u1).g1).src) (fit_le hf54 (by decide)) ?_
                intro A55 c56 wd57 H58
                refine r_pure (.slice A55 ((y27 ++ [(⟨seller, buyer, w64 (v13 + n_)⟩ : cross_Row)]).length) c56) rfl ?_
                refine r_nil ?_
                refine n_cut ⟨A55, (y27 ++ [(⟨seller, buyer, w64 (v13 + n_)⟩ : cross_Row)]).length, c56, y27 ++ [(⟨seller, buyer, w64 (v13 + n_)⟩ : cross_Row)], upk (ac rfl (ac rfl an)), H58.u1.d.u3.d.u3.d.u2.u2, hm⟩
              · refine st_condf hb50 rfl ?_
                refine st_skip ?_
                refine n_cut ⟨A33, y27.length, c35, y27, upk (ac rfl (ac rfl an)), H32.u3.d.u3.d.u2.u2, hm⟩
            · rintro ρ w ⟨A36, n37, c38, xs39, ⟨base, rfl⟩, H40, hm⟩
              obtain rfl := (H40.g2).leneq
              unfold cross_Cross_Add.j4 at hm
              refine st_seq ?_
              refine st_seq ?_
              refine st_region ?_
              refine r_pure (.slice A36 xs39.length c38) rfl ?_
              refine r_len Try.underlying34 rfl ?_
              refine r_pure (.bool (decide ((xs39.length : Int) > 8))) rfl ?_
              refine r_seq ?_
              rcases ite_some hm with ⟨hb41, hm⟩ | ⟨hb41, hm⟩
              · refine st_condt hb41 rfl ?_
                refine st_seq ?_
                refine st_region ?_
                refine r_pure (.int .i64 5) rfl ?_
                refine r_seq ?_
                obtain ⟨rfl, rfl⟩ := some_inj2 hm
                refine st_ret1 rfl rfl (Nat.le_of_ble_eq_true rfl) rfl ?_
                exact ⟨A2, c_.f_l.length, c3, rfl, H40.u2.d.u1⟩
              · refine st_condf hb41 rfl ?_
                refine st_skip ?_
                refine n_sq ?_
                refine st_seq ?_
                refine st_region ?_
                refine r_pure (.slice A36 xs39.length c38) rfl ?_
                obtain ⟨y42, hy43, hm⟩ := bind_some hm
                refine r_callf Try.call21 (slices_SortFunc_cross_Row_ok xs39 A36 xs39.length c38 (.func (.func 22) #[] #[]) (fun x => cross_Cross_Add_c2 x.1 x.2) ⟨22, [], rfl, Try.call22, fun x y hy Δ w H hΔ => cross_Cross_Add_c2_ok x.1 x.2 y H hy⟩ y42 H40.u2 hy43) ?_
                rintro e45 wd44 ⟨rfl, H47⟩
                refine ⟨_, rfl, ?_⟩
                refine r_seq ?_
                refine st_seq ?_
                refine st_region ?_
                refine r_pure (.pointer (some ⟨b1, 0, none⟩)) rfl ?_
                refine r_pure (.slice A36 xs39.length c38) rfl ?_
                refine r_pure (.pointer (some ⟨b1, 0, none⟩)) rfl ?_
                refine r_fa FA53_0 ⟨b1, 0, none⟩ rfl rfl ?_
                refine r_st1 LD34 rfl rfl rfl H47.u2 rfl ?_
                intro wd49 H48
                refine r_seq ?_
                refine st_seq ?_
                refine st_region ?_
                refine r_pure (.int .i64 0) rfl ?_
                refine r_seq ?_
                obtain ⟨rfl, rfl⟩ := some_inj2 hm
                refine st_ret1 rfl rfl (Nat.le_of_ble_eq_true rfl) rfl ?_
                exact ⟨A36, xs39.length, c38, rfl, H48.u2.d.u1.u1⟩

set_option maxHeartbeats 2000000 in
theorem scutageref01_Money_ok {w0 w : World} {Γ : List (World → Prop)} (n_ : Int) (r0_ : Bool) (H : Hp w0 (Γ) w) (hm : scutageref01_Money n_ = some r0_) : Calls Try.prog 26 #[.int .i64 n_] w (fun e w => e = .returned (.bool r0_) ∧ Hp w0 (Γ) w) := by
  unfold scutageref01_Money at hm
  refine st_enter Try.func26 rfl Try.ntmps26 (Nat.le_of_ble_eq_true rfl) ?_
  refine st_seq ?_
  refine st_region ?_
  refine r_pure (.bool false) rfl ?_
  refine r_seq ?_
  refine st_cut (fun ρ w => ∃ q1 : Bool, (∃ base, ρ = updl base [(2, .bool q1)]) ∧ Hp w0 (Γ) w ∧ scutageref01_Money.j1 q1 = some r0_) ?_ ?_
  · refine st_region ?_
    refine r_pure (.int .i64 n_) rfl ?_
    refine r_pure (.bool (decide (n_ ≥ (-100000000000)))) rfl ?_
    refine r_pure (.bool (decide (n_ ≥ (-100000000000)))) rfl ?_
    rcases ite_some hm with ⟨hb3, hm⟩ | ⟨hb3, hm⟩
    · refine r_pure (.int .i64 n_) rfl ?_ (wn_t rfl rfl (by decide) rfl hb3)
      refine r_pure (.bool (decide (n_ ≤ 100000000000))) rfl ?_ (wn_t rfl rfl (by decide) rfl hb3)
      refine r_pick_t (.bool (decide (n_ ≤ 100000000000))) hb3 rfl rfl ?_
      refine r_pure (.bool (decide (n_ ≤ 100000000000))) rfl ?_
      refine r_nil ?_
      refine n_cut ⟨decide (n_ ≤ 100000000000), upk (ac rfl an), H, hm⟩
    · refine r_not (wn_f rfl rfl (by decide) rfl hb3) ?_
      refine r_not (wn_f rfl rfl (by decide) rfl hb3) ?_
      refine r_pick_f (.bool false) hb3 rfl rfl ?_
      refine r_pure (.bool false) rfl ?_
      refine r_nil ?_
      refine n_cut ⟨false, upk (ac rfl an), H, hm⟩
  · rintro ρ w ⟨q1, ⟨base, rfl⟩, H2, hm⟩
    unfold scutageref01_Money.j1 at hm
    have hq_ := Option.some.inj hm
    subst hq_
    refine st_ret1 rfl rfl (Nat.le_of_ble_eq_true rfl) rfl ?_
    exact ⟨rfl, H2⟩

set_option maxHeartbeats 2000000 in
theorem scutageref19_Cross_Add_ok {w0 w : World} {Γ : List (World → Prop)} (b1 : Nat) (c_ : scutageref19_Cross) (A2 : Option Addr) (c3 : Nat) (seller : ByteArray) (buyer : ByteArray) (n_ : Int) (r0_ : Int) (r1_ : scutageref19_Cross) (H : Hp w0 (Bx b1 45 [.slice A2 c_.f_R.length c3] :: Row K47 (.slice A2 c_.f_R.length c3) c_.f_R :: Γ) w) (hm : scutageref19_Cross_Add c_ seller buyer n_ = some (r0_, r1_)) : Calls Try.prog 13 #[.pointer (some ⟨b1, 0, none⟩), .string seller, .string buyer, .int .i64 n_] w (fun e w => ∃ (Ax1 : Option Addr) (nx2 cx3 : Nat), e = .returned (.int .i64 r0_) ∧ Hp w0 (Bx b1 45 [.slice Ax1 nx2 cx3] :: Row K47 (.slice Ax1 nx2 cx3) r1_.f_R :: Γ) w) := by
  unfold scutageref19_Cross_Add at hm
  refine st_enter Try.func13 rfl Try.ntmps13 (Nat.le_of_ble_eq_true rfl) ?_
  refine st_seq ?_
  refine st_region ?_
  refine r_pure (.int .i64 0) rfl ?_
  refine r_seq ?_
  refine st_seq ?_
  refine st_cut (fun ρ w => ∃ q4 : Bool, (∃ base, ρ = updl base [(0, .pointer (some ⟨b1, 0, none⟩)), (1, .string seller), (2, .string buyer), (3, .int .i64 n_), (31, .bool q4)]) ∧ Hp w0 (Row K47 (.slice A2 c_.f_R.length c3) c_.f_R :: Bx b1 45 [.slice A2 c_.f_R.length c3] :: Γ) w ∧ scutageref19_Cross_Add.j1 c_ seller buyer n_ q4 = some (r0_, r1_)) ?_ ?_
  · refine st_region ?_
    refine r_pure (.string seller) rfl ?_
    refine r_pure (.bool ((seller).toList == ((⟨#[]⟩ : ByteArray)).toList)) rfl ?_
    refine r_pure (.bool ((seller).toList == ((⟨#[]⟩ : ByteArray)).toList)) rfl ?_
    rcases ite_some hm with ⟨hb144, hm⟩ | ⟨hb144, hm⟩
    · refine r_not (wn_f rfl rfl (by decide) rfl hb144) ?_
      refine r_not (wn_f rfl rfl (by decide) rfl hb144) ?_
      refine r_pick_t (.bool true) hb144 rfl rfl ?_
      refine r_pure (.bool true) rfl ?_
      refine r_not (wn_f rfl rfl (by decide) rfl rfl) ?_
      refine r_not (wn_f rfl rfl (by decide) rfl rfl) ?_
      refine r_not (wn_f rfl rfl (by decide) rfl rfl) ?_
      refine r_pick_t (.bool true) rfl rfl rfl ?_
      refine r_pure (.bool true) rfl ?_
      refine r_not (wn_f rfl rfl (by decide) rfl rfl) ?_
      refine r_not (wn_f rfl rfl (by decide) rfl rfl) ?_
      refine r_not (wn_f rfl rfl (by decide) rfl rfl) ?_
      refine r_pick_t (.bool true) rfl rfl rfl ?_
      refine r_nil ?_
      refine n_cut ⟨true, upk (ac rfl (ac rfl (ac rfl (ac rfl (ac rfl an))))), H.u1, hm⟩
    · refine r_pure (.string buyer) rfl ?_ (wn_t rfl rfl (by decide) rfl hb144)
      refine r_pure (.bool ((buyer).toList == ((⟨#[]⟩ : ByteArray)).toList)) rfl ?_ (wn_t rfl rfl (by decide) rfl hb144)
      refine r_pick_f (.bool ((buyer).toList == ((⟨#[]⟩ : ByteArray)).toList)) hb144 rfl rfl ?_
      refine r_pure (.bool ((buyer).toList == ((⟨#[]⟩ : ByteArray)).toList)) rfl ?_
      rcases ite_some hm with ⟨hb145, hm⟩ | ⟨hb145, hm⟩
      · refine r_not (wn_f rfl rfl (by decide) rfl hb145) ?_
        refine r_not (wn_f rfl rfl (by decide) rfl hb145) ?_
        refine r_not (wn_f rfl rfl (by decide) rfl hb145) ?_
        refine r_pick_t (.bool true) hb145 rfl rfl ?_
        refine r_pure (.bool true) rfl ?_
        refine r_not (wn_f rfl rfl (by decide) rfl rfl) ?_
        refine r_not (wn_f rfl rfl (by decide) rfl rfl) ?_
        refine r_not (wn_f rfl rfl (by decide) rfl rfl) ?_
        refine r_pick_t (.bool true) rfl rfl rfl ?_
        refine r_nil ?_
        refine n_cut ⟨true, upk (ac rfl (ac rfl (ac rfl (ac rfl (ac rfl an))))), H.u1, hm⟩
      · refine r_pure (.string seller) rfl ?_ (wn_t rfl rfl (by decide) rfl hb145)
        refine r_pure (.string buyer) rfl ?_ (wn_t rfl rfl (by decide) rfl hb145)
        refine r_pure (.bool ((seller).toList == (buyer).toList)) rfl ?_ (wn_t rfl rfl (by decide) rfl hb145)
        refine r_pick_f (.bool ((seller).toList == (buyer).toList)) hb145 rfl rfl ?_
        refine r_pure (.bool ((seller).toList == (buyer).toList)) rfl ?_
        rcases ite_some hm with ⟨hb146, hm⟩ | ⟨hb146, hm⟩
        · refine r_not (wn_f rfl rfl (by decide) rfl hb146) ?_
          refine r_not (wn_f rfl rfl (by decide) rfl hb146) ?_
          refine r_not (wn_f rfl rfl (by decide) rfl hb146) ?_
          refine r_pick_t (.bool true) hb146 rfl rfl ?_
          refine r_nil ?_
          refine n_cut ⟨true, upk (ac rfl (ac rfl (ac rfl (ac rfl (ac rfl an))))), H.u1, hm⟩
        · refine r_pure (.int .i64 n_) rfl ?_ (wn_t rfl rfl (by decide) rfl hb146)
          obtain ⟨y147, hy148, hm⟩ := bind_some hm
          refine r_callf Try.call26 (scutageref01_Money_ok n_ y147 H hy148) ?_ (wn_t rfl rfl (by decide) rfl hb146)
          rintro e150 wd149 ⟨rfl, H152⟩
          refine ⟨_, rfl, ?_⟩
          refine r_pure (.bool (!y147)) rfl ?_ (wn_t rfl rfl (by decide) rfl hb146)
          refine r_pick_f (.bool (!y147)) hb146 rfl rfl ?_
          refine r_nil ?_
          refine n_cut ⟨!y147, upk (ac rfl (ac rfl (ac rfl (ac rfl (ac rfl an))))), H152.u1, hm⟩
  · rintro ρ w ⟨q4, ⟨base, rfl⟩, H5, hm⟩
    unfold scutageref19_Cross_Add.j1 at hm
    rcases ite_some hm with ⟨hb6, hm⟩ | ⟨hb6, hm⟩
    · refine st_condt hb6 rfl ?_
      refine st_seq ?_
      refine st_region ?_
      refine r_pure (.int .i64 1) rfl ?_
      refine r_seq ?_
      obtain ⟨rfl, rfl⟩ := some_inj2 hm
      refine st_ret1 rfl rfl (Nat.le_of_ble_eq_true rfl) rfl ?_
      exact ⟨A2, c_.f_R.length, c3, rfl, H5.u1⟩
    · refine st_condf hb6 rfl ?_
      refine st_skip ?_
      refine n_sq ?_
      refine st_seq ?_
      refine st_region ?_
      refine r_pure (.slice none 0 0) rfl ?_
      refine r_seq ?_
      refine st_seq ?_
      refine st_region ?_
      refine r_pure (.int .i64 0) rfl ?_
      refine r_seq ?_
      refine st_seq ?_
      refine st_seq ?_
      refine st_region ?_
      refine r_pure (.pointer (some ⟨b1, 0, none⟩)) rfl ?_
      refine r_pure (.pointer (some ⟨b1, 0, none⟩)) rfl ?_
      refine r_fa FA45_0 ⟨b1, 0, none⟩ rfl rfl ?_
      refine r_ld1 (.slice A2 c_.f_R.length c3) LD43 rfl ((H5.g1).cell _ rfl) ?_
      refine r_len Try.underlying43 rfl ?_
      refine r_pure (.int .i64 0) rfl ?_
      refine r_seq ?_
      refine st_block ?_
      have hlim28 := (H5.g0.rd).lim
      obtain ⟨tl11, hl12, hm10⟩ := bind_some hm
      refine st_loopL (scutageref19_Cross_Add.l1 seller buyer) (fun ys17 s ρ w => ∃ i13 : Int, ∃ v8 : Int, ∃ dn14 : List scutageref19_Pair, (i13, v8) = s ∧ c_.f_R = dn14 ++ ys17 ∧ i13 = (dn14.length : Int) ∧ (∃ base, ρ = updl base [(0, .pointer (some ⟨b1, 0, none⟩)), (1, .string seller), (2, .string buyer), (3, .int .i64 n_), (9, .slice none 0 0), (10, .int .i64 v8), (35, .slice A2 c_.f_R.length c3), (36, .int .i64 (c_.f_R.length : Int)), (37, .int .i64 i13)]) ∧ Hp w0 (Row K47 (.slice A2 c_.f_R.length c3) c_.f_R :: Bx b1 45 [.slice A2 c_.f_R.length c3] :: Γ) w) hl12 ⟨0, 0, [], rfl, rfl, rfl, upk (ac rfl (ac rfl (ac rfl (ac rfl (ac rfl (ac rfl (ac rfl (ac rfl (ac rfl an))))))))), H5.u1.u1⟩ ?_
      rintro m ys17 IH21 s ρ w ⟨i13, v8, dn14, rfl, hxs15, hi16, ⟨base, rfl⟩, H9⟩ hm
      rcases ys17 with _ | ⟨y18, ys17⟩
      · rw [scutageref19_Cross_Add.l1] at hm
        have hb22 := range_end hxs15 hi16
        refine st_seq ?_
        refine st_region ?_
        refine r_pure (.bool (decide (i13 < (c_.f_R.length : Int)))) rfl ?_
        refine r_seq ?_
        refine st_seq ?_
        refine st_condf hb22 rfl ?_
        have hq_ := Option.some.inj hm
        refine st_exit rfl ?_
        subst hq_
        refine n_sq ?_
        refine st_seq ?_
        refine st_region ?_
        refine r_pure (.int .i64 n_) rfl ?_
        refine r_pure (.int .i64 v8) rfl ?_
        refine r_pure (.int .i64 (w64 (n_ + v8))) rfl ?_
        refine r_pure (.int .i64 (w64 (n_ + v8))) rfl ?_
        refine r_seq ?_
        refine st_seq ?_
        refine st_cut (fun ρ w => ∃ q29 : Bool, (∃ base, ρ = updl base [(0, .pointer (some ⟨b1, 0, none⟩)), (1, .string seller), (2, .string buyer), (3, .int .i64 (w64 (n_ + v8))), (9, .slice none 0 0), (63, .bool q29)]) ∧ Hp w0 (Row K47 (.slice A2 c_.f_R.length c3) c_.f_R :: Bx b1 45 [.slice A2 c_.f_R.length c3] :: Γ) w ∧ scutageref19_Cross_Add.j2 c_ seller buyer n_ v8 q29 = some (r0_, r1_)) ?_ ?_
        · refine st_region ?_
          refine r_pure (.int .i64 (w64 (n_ + v8))) rfl ?_
          refine r_pure (.bool (decide (w64 (n_ + v8) < 0))) rfl ?_
          refine r_pure (.bool (decide (w64 (n_ + v8) < 0))) rfl ?_
          rcases ite_some hm10 with ⟨hb125, hm⟩ | ⟨hb125, hm⟩
          · refine r_not (wn_f rfl rfl (by decide) rfl hb125) ?_
            refine r_not (wn_f rfl rfl (by decide) rfl hb125) ?_
            refine r_not (wn_f rfl rfl (by decide) rfl hb125) ?_
            refine r_pick_t (.bool true) hb125 rfl rfl ?_
            refine r_nil ?_
            refine n_cut ⟨true, upk (ac rfl (ac rfl (ac rfl (ac rfl (ac rfl (ac rfl an)))))), H9.u1.u1, hm⟩
          · refine r_pure (.int .i64 (w64 (n_ + v8))) rfl ?_ (wn_t rfl rfl (by decide) rfl hb125)
            obtain ⟨y126, hy127, hm⟩ := bind_some hm
            refine r_callf Try.call26 (scutageref01_Money_ok (w64 (n_ + v8)) y126 H9 hy127) ?_ (wn_t rfl rfl (by decide) rfl hb125)
            rintro e129 wd128 ⟨rfl, H131⟩
            refine ⟨_, rfl, ?_⟩
            refine r_pure (.bool (!y126)) rfl ?_ (wn_t rfl rfl (by decide) rfl hb125)
            refine r_pick_f (.bool (!y126)) hb125 rfl rfl ?_
            refine r_nil ?_
            refine n_cut ⟨!y126, upk (ac rfl (ac rfl (ac rfl (ac rfl (ac rfl (ac rfl an)))))), H131.u1.u1, hm⟩
        · rintro ρ w ⟨q29, ⟨base, rfl⟩, H30, hm⟩
          unfold scutageref19_Cross_Add.j2 at hm
          rcases ite_some hm with ⟨hb31, hm⟩ | ⟨hb31, hm⟩
          · refine st_condt hb31 rfl ?_
            refine st_seq ?_
            refine st_region ?_
            refine r_pure (.int .i64 6) rfl ?_
            refine r_seq ?_
            obtain ⟨rfl, rfl⟩ := some_inj2 hm
            refine st_ret1 rfl rfl (Nat.le_of_ble_eq_true rfl) rfl ?_
            exact ⟨A2, c_.f_R.length, c3, rfl, H30.u1⟩
          · refine st_condf hb31 rfl ?_
            refine st_skip ?_
            refine n_sq ?_
            refine st_seq ?_
            refine st_region ?_
            refine r_pure (.int .i64 (w64 (n_ + v8))) rfl ?_
            refine r_pure (.bool (w64 (n_ + v8) == 0)) rfl ?_
            refine r_pure (.bool (w64 (n_ + v8) == 0)) rfl ?_
            refine r_seq ?_
            refine st_seq ?_
            refine st_seq ?_
            refine st_region ?_
            refine r_pure (.pointer (some ⟨b1, 0, none⟩)) rfl ?_
            refine r_pure (.pointer (some ⟨b1, 0, none⟩)) rfl ?_
            refine r_fa FA45_0 ⟨b1, 0, none⟩ rfl rfl ?_
            refine r_ld1 (.slice A2 c_.f_R.length c3) LD43 rfl ((H30.g1).cell _ rfl) ?_
            refine r_len Try.underlying43 rfl ?_
            refine r_pure (.int .i64 0) rfl ?_
            refine r_seq ?_
            refine st_block ?_
            have H38 := H30.add (A := Row K47 (.slice none 0 0) []) Row.nil
            have hlim63 := (H38.g1.rd).lim
            obtain ⟨tl46, hl47, hm45⟩ := bind_some hm
            refine st_loopL (scutageref19_Cross_Add.l2 seller buyer n_ v8) (fun ys52 s ρ w => ∃ i48 : Int, ∃ xs42 : List scutageref19_Pair, ∃ q43 : Bool, ∃ dn49 : List scutageref19_Pair, ∃ A39 : Option Addr, ∃ n40 : Nat, ∃ c41 : Nat, (i48, xs42, q43) = s ∧ c_.f_R = dn49 ++ ys52 ∧ i48 = (dn49.length : Int) ∧ (∃ base, ρ = updl base [(0, .pointer (some ⟨b1, 0, none⟩)), (1, .string seller), (2, .string buyer), (3, .int .i64 (w64 (n_ + v8))), (9, .slice A39 n40 c41), (13, .bool q43), (69, .slice A2 c_.f_R.length c3), (70, .int .i64 (c_.f_R.length : Int)), (71, .int .i64 i48)]) ∧ Hp w0 (Row K47 (.slice A2 c_.f_R.length c3) c_.f_R :: Bx b1 45 [.slice A2 c_.f_R.length c3] :: Row K47 (.slice A39 n40 c41) xs42 :: Γ) w) hl47 ⟨0, ([] : List scutageref19_Pair), w64 (n_ + v8) == 0, [], none, 0, 0, rfl, rfl, rfl, upk (ac rfl (ac rfl (ac rfl (ac rfl (ac rfl (ac rfl (ac rfl (ac rfl (ac rfl an))))))))), H38.u2.u2⟩ ?_
            rintro m ys52 IH56 s ρ w ⟨i48, xs42, q43, dn49, A39, n40, c41, rfl, hxs50, hi51, ⟨base, rfl⟩, H44⟩ hm
            obtain rfl := (H44.g2).leneq
            rcases ys52 with _ | ⟨y53, ys52⟩
            · rw [scutageref19_Cross_Add.l2] at hm
              have hb57 := range_end hxs50 hi51
              refine st_seq ?_
              refine st_region ?_
              refine r_pure (.bool (decide (i48 < (c_.f_R.length : Int)))) rfl ?_
              refine r_seq ?_
              refine st_seq ?_
              refine st_condf hb57 rfl ?_
              have hq_ := Option.some.inj hm
              refine st_exit rfl ?_
              subst hq_
              refine n_sq ?_
              refine st_cut (fun ρ w => ∃ A64 : Option Addr, ∃ n65 : Nat, ∃ c66 : Nat, ∃ xs67 : List scutageref19_Pair, (∃ base, ρ = updl base [(0, .pointer (some ⟨b1, 0, none⟩)), (9, .slice A64 n65 c66)]) ∧ Hp w0 (Row K47 (.slice A2 c_.f_R.length c3) c_.f_R :: Bx b1 45 [.slice A2 c_.f_R.length c3] :: Row K47 (.slice A64 n65 c66) xs67 :: Γ) w ∧ scutageref19_Cross_Add.j3 c_ xs67 = some (r0_, r1_)) ?_ ?_
              · refine st_seq ?_
                refine st_region ?_
                refine r_pure (.bool q43) rfl ?_
                refine r_pure (.bool (!q43)) rfl ?_
                refine r_seq ?_
                rcases ite_some hm45 with ⟨hb72, hm⟩ | ⟨hb72, hm⟩
                · refine st_condt hb72 rfl ?_
                  refine st_region ?_
                  refine r_pure (.slice A39 xs42.length c41) rfl ?_
                  refine r_pure (.string seller) rfl ?_
                  refine r_pure (.string buyer) rfl ?_
                  refine r_pure (.int .i64 (w64 (n_ + v8))) rfl ?_
                  refine r_build [.string seller, .string buyer, .int .i64 (w64 (n_ + v8))] FL47 rfl ?_
                  refine r_buildSlice (K := K47) [(⟨seller, buyer, w64 (n_ + v8)⟩ : scutageref19_Pair)] EL43 rfl rfl rfl (by decide) (by decide) rfl H44 ?_
                  intro b73 wd75 H74
                  obtain ⟨hf76, hm⟩ := gd_some hm
                  refine r_append (K := K47) (ys := [(⟨seller, buyer, w64 (n_ + v8)⟩ : scutageref19_Pair)]) AP43 rfl rfl rfl rfl H74.u3 (((H74.u3).g1).src) (fit_le hf76 (by decide)) ?_
                  intro A77 c78 wd79 H80
                  refine r_pure (.slice A77 ((xs42 ++ [(⟨seller, buyer, w64 (n_ + v8)⟩ : scutageref19_Pair)]).length) c78) rfl ?_
                  refine r_nil ?_
                  refine n_cut ⟨A77, (xs42 ++ [(⟨seller, buyer, w64 (n_ + v8)⟩ : scutageref19_Pair)]).length, c78, xs42 ++ [(⟨seller, buyer, w64 (n_ + v8)⟩ : scutageref19_Pair)], upk (ac rfl (ac rfl an)), H80.u1.d.u2.u2, hm⟩
                · refine st_condf hb72 rfl ?_
                  refine st_skip ?_
                  refine n_cut ⟨A39, xs42.length, c41, xs42, upk (ac rfl (ac rfl an)), H44.u2.u2.u2, hm⟩
              · rintro ρ w ⟨A64, n65, c66, xs67, ⟨base, rfl⟩, H68, hm⟩
                obtain rfl := (H68.g2).leneq
                unfold scutageref19_Cross_Add.j3 at hm
                refine st_seq ?_
                refine st_seq ?_
                refine st_region ?_
                refine r_pure (.slice A64 xs67.length c66) rfl ?_
                refine r_len Try.underlying43 rfl ?_
                refine r_pure (.bool (decide ((xs67.length : Int) > 8))) rfl ?_
                refine r_seq ?_
                rcases ite_some hm with ⟨hb69, hm⟩ | ⟨hb69, hm⟩
                · refine st_condt hb69 rfl ?_
                  refine st_seq ?_
                  refine st_region ?_
                  refine r_pure (.int .i64 5) rfl ?_
                  refine r_seq ?_
                  obtain ⟨rfl, rfl⟩ := some_inj2 hm
                  refine st_ret1 rfl rfl (Nat.le_of_ble_eq_true rfl) rfl ?_
                  exact ⟨A2, c_.f_R.length, c3, rfl, H68.u2.d.u1⟩
                · refine st_condf hb69 rfl ?_
                  refine st_skip ?_
                  refine n_sq ?_
                  refine st_seq ?_
                  refine st_region ?_
                  refine r_pure (.pointer (some ⟨b1, 0, none⟩)) rfl ?_
                  refine r_pure (.slice A64 xs67.length c66) rfl ?_
                  refine r_pure (.pointer (some ⟨b1, 0, none⟩)) rfl ?_
                  refine r_fa FA45_0 ⟨b1, 0, none⟩ rfl rfl ?_
                  refine r_st1 LD43 rfl rfl rfl H68.u1 rfl ?_
                  intro wd71 H70
                  refine r_seq ?_
                  refine st_seq ?_
                  refine st_region ?_
                  refine r_pure (.int .i64 0) rfl ?_
                  refine r_seq ?_
                  obtain ⟨rfl, rfl⟩ := some_inj2 hm
                  refine st_ret1 rfl rfl (Nat.le_of_ble_eq_true rfl) rfl ?_
                  exact ⟨A64, xs67.length, c66, rfl, H70.u1.d.u1.u1⟩
            · rw [scutageref19_Cross_Add.l2] at hm
              have hb58 := range_in hxs50 hi51
              obtain ⟨h059, h160, hj61⟩ := range_ix hxs50 hi51
              have hnx62 := range_next hxs50 hi51 hlim63
              refine st_seq ?_
              refine st_region ?_
              refine r_pure (.bool (decide (i48 < (c_.f_R.length : Int)))) rfl ?_
              refine r_seq ?_
              refine st_seq ?_
              refine st_condt hb58 rfl ?_
              refine st_skip ?_
              refine n_sq ?_
              refine st_cut (fun ρ w => ∃ A81 : Option Addr, ∃ n82 : Nat, ∃ c83 : Nat, ∃ xs84 : List scutageref19_Pair, ∃ q85 : Bool, (∃ base, ρ = updl base [(0, .pointer (some ⟨b1, 0, none⟩)), (1, .string seller), (2, .string buyer), (3, .int .i64 (w64 (n_ + v8))), (9, .slice A81 n82 c83), (13, .bool q85), (69, .slice A2 c_.f_R.length c3), (70, .int .i64 (c_.f_R.length : Int)), (71, .int .i64 i48)]) ∧ Hp w0 (Row K47 (.slice A2 c_.f_R.length c3) c_.f_R :: Bx b1 45 [.slice A2 c_.f_R.length c3] :: Row K47 (.slice A81 n82 c83) xs84 :: Γ) w ∧ scutageref19_Cross_Add.j4 (scutageref19_Cross_Add.l2 seller buyer n_ v8 ys52) i48 xs84 q85 = some tl46) ?_ ?_
              · refine st_block ?_
                refine st_seq ?_
                refine st_region ?_
                have hA87 := (H44.g0.rd).adO hj61
                refine r_ix IX43 rfl rfl hA87 h059 h160 ?_
                refine r_ldA [.string y53.Seller, .string y53.Buyer, .int .i64 y53.Amount] LD47 rfl rfl ((H44.g0.rd).csA hA87 hj61) ?_
                refine r_alloc [.string ⟨#[]⟩, .string ⟨#[]⟩, .int .i64 0] Try.zeroValue47 H44 rfl ?_
                intro b88 wd90 H89
                refine r_stA [.string y53.Seller, .string y53.Buyer, .int .i64 y53.Amount] LD47 rfl rfl rfl rfl H89 (Nat.le_of_ble_eq_true rfl) rfl ?_
                intro wd92 H91
                refine r_seq ?_
                refine st_seq ?_
                refine st_cut (fun ρ w => ∃ q93 : Bool, (∃ base, ρ = updl base [(0, .pointer (some ⟨b1, 0, none⟩)), (1, .string seller), (2, .string buyer), (3, .int .i64 (w64 (n_ + v8))), (9, .slice A39 xs42.length c41), (13, .bool q43), (15, .pointer (some ⟨b88, 0, none⟩)), (69, .slice A2 c_.f_R.length c3), (70, .int .i64 (c_.f_R.length : Int)), (71, .int .i64 i48), (84, .bool q93)]) ∧ Hp w0 (Row K47 (.slice A2 c_.f_R.length c3) c_.f_R :: Bx b1 45 [.slice A2 c_.f_R.length c3] :: Row K47 (.slice A39 xs42.length c41) xs42 :: Bx b88 47 [.string y53.Seller, .string y53.Buyer, .int .i64 y53.Amount] :: Γ) w ∧ scutageref19_Cross_Add.j5 (scutageref19_Cross_Add.l2 seller buyer n_ v8 ys52) i48 xs42 q43 y53 seller buyer n_ v8 q93 = some tl46) ?_ ?_
                · refine st_region ?_
                  refine r_fa FA47_0 ⟨b88, 0, none⟩ rfl rfl ?_
                  refine r_ld1 (.string y53.Seller) LD9 rfl ((H91.g0).cell _ rfl) ?_
                  refine r_pure (.string seller) rfl ?_
                  refine r_pure (.bool ((y53.Seller).toList == (seller).toList)) rfl ?_
                  refine r_pure (.bool ((y53.Seller).toList == (seller).toList)) rfl ?_
                  rcases ite_some hm with ⟨hb124, hm⟩ | ⟨hb124, hm⟩
                  · refine r_fa FA47_1 ⟨b88, 1, none⟩ rfl rfl ?_ (wn_t rfl rfl (by decide) rfl hb124)
                    refine r_ld1 (.string y53.Buyer) LD9 rfl ((H91.g0).cell _ rfl) ?_ (wn_t rfl rfl (by decide) rfl hb124)
                    refine r_pure (.string buyer) rfl ?_ (wn_t rfl rfl (by decide) rfl hb124)
                    refine r_pure (.bool ((y53.Buyer).toList == (buyer).toList)) rfl ?_ (wn_t rfl rfl (by decide) rfl hb124)
                    refine r_pick_t (.bool ((y53.Buyer).toList == (buyer).toList)) hb124 rfl rfl ?_
                    refine r_nil ?_
                    refine n_cut ⟨(y53.Buyer).toList == (buyer).toList, upk (ac rfl (ac rfl (ac rfl (ac rfl (ac rfl (ac rfl (ac rfl (ac rfl (ac rfl (ac rfl (ac rfl an))))))))))), H91.u3.u3.u3, hm⟩
                  · refine r_not (wn_f rfl rfl (by decide) rfl hb124) ?_
                    refine r_not (wn_f rfl rfl (by decide) rfl hb124) ?_
                    refine r_not (wn_f rfl rfl (by decide) rfl hb124) ?_
                    refine r_not (wn_f rfl rfl (by decide) rfl hb124) ?_
                    refine r_pick_f (.bool false) hb124 rfl rfl ?_
                    refine r_nil ?_
                    refine n_cut ⟨false, upk (ac rfl (ac rfl (ac rfl (ac rfl (ac rfl (ac rfl (ac rfl (ac rfl (ac rfl (ac rfl (ac rfl an))))))))))), H91.u3.u3.u3, hm⟩
                · rintro ρ w ⟨q93, ⟨base, rfl⟩, H94, hm⟩
                  unfold scutageref19_Cross_Add.j5 at hm
                  rcases ite_some hm with ⟨hb95, hm⟩ | ⟨hb95, hm⟩
                  · refine st_condt hb95 rfl ?_
                    refine st_exit rfl ?_
                    refine n_cut ⟨A39, xs42.length, c41, xs42, q43, upk (ac rfl (ac rfl (ac rfl (ac rfl (ac rfl (ac rfl (ac rfl (ac rfl (ac rfl an))))))))), H94.u3.d.u2.u2.u2, hm⟩
                  · refine st_condf hb95 rfl ?_
                    refine st_skip ?_
                    refine n_sq ?_
                    refine st_cut (fun ρ w => ∃ A96 : Option Addr, ∃ n97 : Nat, ∃ c98 : Nat, ∃ xs99 : List scutageref19_Pair, ∃ q100 : Bool, (∃ base, ρ = updl base [(0, .pointer (some ⟨b1, 0, none⟩)), (1, .string seller), (2, .string buyer), (3, .int .i64 (w64 (n_ + v8))), (9, .slice A96 n97 c98), (13, .bool q100), (15, .pointer (some ⟨b88, 0, none⟩)), (69, .slice A2 c_.f_R.length c3), (70, .int .i64 (c_.f_R.length : Int)), (71, .int .i64 i48)]) ∧ Hp w0 (Row K47 (.slice A2 c_.f_R.length c3) c_.f_R :: Bx b1 45 [.slice A2 c_.f_R.length c3] :: Row K47 (.slice A96 n97 c98) xs99 :: Bx b88 47 [.string y53.Seller, .string y53.Buyer, .int .i64 y53.Amount] :: Γ) w ∧ scutageref19_Cross_Add.j6 y53 (scutageref19_Cross_Add.l2 seller buyer n_ v8 ys52) i48 xs99 q100 = some tl46) ?_ ?_
                    · refine st_cut (fun ρ w => ∃ q110 : Bool, (∃ base, ρ = updl base [(0, .pointer (some ⟨b1, 0, none⟩)), (1, .string seller), (2, .string buyer), (3, .int .i64 (w64 (n_ + v8))), (9, .slice A39 xs42.length c41), (13, .bool q43), (15, .pointer (some ⟨b88, 0, none⟩)), (69, .slice A2 c_.f_R.length c3), (70, .int .i64 (c_.f_R.length : Int)), (71, .int .i64 i48), (104, .bool q110)]) ∧ Hp w0 (Row K47 (.slice A2 c_.f_R.length c3) c_.f_R :: Bx b1 45 [.slice A2 c_.f_R.length c3] :: Row K47 (.slice A39 xs42.length c41) xs42 :: Bx b88 47 [.string y53.Seller, .string y53.Buyer, .int .i64 y53.Amount] :: Γ) w ∧ scutageref19_Cross_Add.j7 xs42 seller buyer n_ v8 y53 (scutageref19_Cross_Add.l2 seller buyer n_ v8 ys52) i48 q43 q110 = some tl46) ?_ ?_
                      · refine st_region ?_
                        refine r_pure (.bool q43) rfl ?_
                        refine r_pure (.bool (!q43)) rfl ?_
                        refine r_pure (.bool (!q43)) rfl ?_
                        rcases ite_some hm with ⟨hb121, hm⟩ | ⟨hb121, hm⟩
                        · refine r_fa FA47_0 ⟨b88, 0, none⟩ rfl rfl ?_ (wn_t rfl rfl (by decide) rfl hb121)
                          refine r_ld1 (.string y53.Seller) LD9 rfl ((H94.g3).cell _ rfl) ?_ (wn_t rfl rfl (by decide) rfl hb121)
                          refine r_pure (.string seller) rfl ?_ (wn_t rfl rfl (by decide) rfl hb121)
                          refine r_pure (.bool (!(Op.bytesLess (y53.Seller).toList (seller).toList || (y53.Seller).toList == (seller).toList))) rfl ?_ (wn_t rfl rfl (by decide) rfl hb121)
                          refine r_pure (.bool (!(Op.bytesLess (y53.Seller).toList (seller).toList || (y53.Seller).toList == (seller).toList))) rfl ?_ (wn_t rfl rfl (by decide) rfl hb121)
                          rcases ite_some hm with ⟨hb122, hm⟩ | ⟨hb122, hm⟩
                          · refine r_not (wn_f rfl rfl (by decide) rfl hb122) ?_
                            refine r_not (wn_f rfl rfl (by decide) rfl hb122) ?_
                            refine r_not (wn_f rfl rfl (by decide) rfl hb122) ?_
                            refine r_not (wn_f rfl rfl (by decide) rfl hb122) ?_
                            refine r_not (wn_f rfl rfl (by decide) rfl hb122) ?_
                            refine r_not (wn_u rfl rfl (by decide) rfl rfl) ?_
                            refine r_not (wn_u rfl rfl (by decide) rfl rfl) ?_
                            refine r_not (wn_u rfl rfl (by decide) rfl rfl) ?_
                            refine r_not (wn_u rfl rfl (by decide) rfl rfl) ?_
                            refine r_not (wn_f rfl rfl (by decide) rfl hb122) ?_
                            refine r_pick_t (.bool true) hb122 rfl rfl ?_ (wn_t rfl rfl (by decide) rfl hb121)
                            refine r_pick_t (.bool true) hb121 rfl rfl ?_
                            refine r_nil ?_
                            refine n_cut ⟨true, upk (ac rfl (ac rfl (ac rfl (ac rfl (ac rfl (ac rfl (ac rfl (ac rfl (ac rfl (ac rfl (ac rfl an))))))))))), H94.u3.u3.u3.u3, hm⟩
                          · refine r_fa FA47_0 ⟨b88, 0, none⟩ rfl rfl ?_ (wn_t rfl rfl (by decide) rfl hb122)
                            refine r_ld1 (.string y53.Seller) LD9 rfl ((H94.g3).cell _ rfl) ?_ (wn_t rfl rfl (by decide) rfl hb122)
                            refine r_pure (.string seller) rfl ?_ (wn_t rfl rfl (by decide) rfl hb122)
                            refine r_pure (.bool ((y53.Seller).toList == (seller).toList)) rfl ?_ (wn_t rfl rfl (by decide) rfl hb122)
                            refine r_pure (.bool ((y53.Seller).toList == (seller).toList)) rfl ?_ (wn_t rfl rfl (by decide) rfl hb122)
                            rcases ite_some hm with ⟨hb123, hm⟩ | ⟨hb123, hm⟩
                            · refine r_fa FA47_1 ⟨b88, 1, none⟩ rfl rfl ?_ (wn_t rfl rfl (by decide) rfl hb123)
                              refine r_ld1 (.string y53.Buyer) LD9 rfl ((H94.g3).cell _ rfl) ?_ (wn_t rfl rfl (by decide) rfl hb123)
                              refine r_pure (.string buyer) rfl ?_ (wn_t rfl rfl (by decide) rfl hb123)
                              refine r_pure (.bool (!(Op.bytesLess (y53.Buyer).toList (buyer).toList || (y53.Buyer).toList == (buyer).toList))) rfl ?_ (wn_t rfl rfl (by decide) rfl hb123)
                              refine r_pick_t (.bool (!(Op.bytesLess (y53.Buyer).toList (buyer).toList || (y53.Buyer).toList == (buyer).toList))) hb123 rfl rfl ?_ (wn_t rfl rfl (by decide) rfl hb122)
                              refine r_pick_f (.bool (!(Op.bytesLess (y53.Buyer).toList (buyer).toList || (y53.Buyer).toList == (buyer).toList))) hb122 rfl rfl ?_ (wn_t rfl rfl (by decide) rfl hb121)
                              refine r_pick_t (.bool (!(Op.bytesLess (y53.Buyer).toList (buyer).toList || (y53.Buyer).toList == (buyer).toList))) hb121 rfl rfl ?_
                              refine r_nil ?_
                              refine n_cut ⟨!(Op.bytesLess (y53.Buyer).toList (buyer).toList || (y53.Buyer).toList == (buyer).toList), upk (ac rfl (ac rfl (ac rfl (ac rfl (ac rfl (ac rfl (ac rfl (ac rfl (ac rfl (ac rfl (ac rfl an))))))))))), H94.u3.u3.u3.u3, hm⟩
                            · refine r_not (wn_f rfl rfl (by decide) rfl hb123) ?_
                              refine r_not (wn_f rfl rfl (by decide) rfl hb123) ?_
                              refine r_not (wn_f rfl rfl (by decide) rfl hb123) ?_
                              refine r_not (wn_f rfl rfl (by decide) rfl hb123) ?_
                              refine r_pick_f (.bool false) hb123 rfl rfl ?_ (wn_t rfl rfl (by decide) rfl hb122)
                              refine r_pick_f (.bool false) hb122 rfl rfl ?_ (wn_t rfl rfl (by decide) rfl hb121)
                              refine r_pick_t (.bool false) hb121 rfl rfl ?_
                              refine r_nil ?_
                              refine n_cut ⟨false, upk (ac rfl (ac rfl (ac rfl (ac rfl (ac rfl (ac rfl (ac rfl (ac rfl (ac rfl (ac rfl (ac rfl an))))))))))), H94.u3.u3.u3.u3, hm⟩
                        · refine r_not (wn_f rfl rfl (by decide) rfl hb121) ?_
                          refine r_not (wn_f rfl rfl (by decide) rfl hb121) ?_
                          refine r_not (wn_f rfl rfl (by decide) rfl hb121) ?_
                          refine r_not (wn_f rfl rfl (by decide) rfl hb121) ?_
                          refine r_not (wn_f rfl rfl (by decide) rfl hb121) ?_
                          refine r_not (wn_u rfl rfl (by decide) rfl rfl) ?_
                          refine r_not (wn_u rfl rfl (by decide) rfl rfl) ?_
                          refine r_not (wn_u rfl rfl (by decide) rfl rfl) ?_
                          refine r_not (wn_u rfl rfl (by decide) rfl rfl) ?_
                          refine r_not (wn_u rfl rfl (by decide) rfl rfl) ?_
                          refine r_not (wn_u rfl rfl (by decide) rfl rfl) ?_
                          refine r_not (wn_u rfl rfl (by decide) rfl rfl) ?_
                          refine r_not (wn_u rfl rfl (by decide) rfl rfl) ?_
                          refine r_not (wn_u rfl rfl (by decide) rfl rfl) ?_
                          refine r_not (wn_u rfl rfl (by decide) rfl rfl) ?_
                          refine r_not (wn_f rfl rfl (by decide) rfl hb121) ?_
                          refine r_pick_f (.bool false) hb121 rfl rfl ?_
                          refine r_nil ?_
                          refine n_cut ⟨false, upk (ac rfl (ac rfl (ac rfl (ac rfl (ac rfl (ac rfl (ac rfl (ac rfl (ac rfl (ac rfl (ac rfl an))))))))))), H94.u3.u3.u3.u3, hm⟩
                      · rintro ρ w ⟨q110, ⟨base, rfl⟩, H111, hm⟩
                        unfold scutageref19_Cross_Add.j7 at hm
                        rcases ite_some hm with ⟨hb112, hm⟩ | ⟨hb112, hm⟩
                        · refine st_condt hb112 rfl ?_
                          refine st_region ?_
                          refine r_pure (.slice A39 xs42.length c41) rfl ?_
                          refine r_pure (.string seller) rfl ?_
                          refine r_pure (.string buyer) rfl ?_
                          refine r_pure (.int .i64 (w64 (n_ + v8))) rfl ?_
                          refine r_build [.string seller, .string buyer, .int .i64 (w64 (n_ + v8))] FL47 rfl ?_
                          refine r_buildSlice (K := K47) [(⟨seller, buyer, w64 (n_ + v8)⟩ : scutageref19_Pair)] EL43 rfl rfl rfl (by decide) (by decide) rfl H111 ?_
                          intro b113 wd115 H114
                          obtain ⟨hf116, hm⟩ := gd_some hm
                          refine r_append (K := K47) (ys := [(⟨seller, buyer, w64 (n_ + v8)⟩ : scutageref19_Pair)]) AP43 rfl rfl rfl rfl H114.u3 (((H114.u3).g1).src) (fit_le hf116 (by decide)) ?_
                          intro A117 c118 wd119 H120
                          refine r_pure (.slice A117 ((xs42 ++ [(⟨seller, buyer, w64 (n_ + v8)⟩ : scutageref19_Pair)]).length) c118) rfl ?_
                          refine r_pure (.bool true) rfl ?_
                          refine r_nil ?_
                          refine n_cut ⟨A117, (xs42 ++ [(⟨seller, buyer, w64 (n_ + v8)⟩ : scutageref19_Pair)]).length, c118, xs42 ++ [(⟨seller, buyer, w64 (n_ + v8)⟩ : scutageref19_Pair)], true, upk (ac rfl (ac rfl (ac rfl (ac rfl (ac rfl (ac rfl (ac rfl (ac rfl (ac rfl (ac rfl an)))))))))), H120.u1.d.u3.u1.u3.u3, hm⟩
                        · refine st_condf hb112 rfl ?_
                          refine st_skip ?_
                          refine n_cut ⟨A39, xs42.length, c41, xs42, q43, upk (ac rfl (ac rfl (ac rfl (ac rfl (ac rfl (ac rfl (ac rfl (ac rfl (ac rfl (ac rfl an)))))))))), H111.u3.u3.u3.u3, hm⟩
                    · rintro ρ w ⟨A96, n97, c98, xs99, q100, ⟨base, rfl⟩, H101, hm⟩
                      obtain rfl := (H101.g2).leneq
                      unfold scutageref19_Cross_Add.j6 at hm
                      refine st_region ?_
                      refine r_pure (.slice A96 xs99.length c98) rfl ?_
                      refine r_ldA [.string y53.Seller, .string y53.Buyer, .int .i64 y53.Amount] LD47 rfl rfl ((H101.g3).cells rfl) ?_
                      refine r_buildSlice (K := K47) [y53] EL43 rfl rfl rfl (by decide) (by decide) rfl H101 ?_
                      intro b102 wd104 H103
                      obtain ⟨hf105, hm⟩ := gd_some hm
                      refine r_append (K := K47) (ys := [y53]) AP43 rfl rfl rfl rfl H103.u3 (((H103.u3).g1).src) (fit_le hf105 (by decide)) ?_
                      intro A106 c107 wd108 H109
                      refine r_pure (.slice A106 ((xs99 ++ [y53]).length) c107) rfl ?_
                      refine r_nil ?_
                      refine n_bl ?_
                      refine n_cut ⟨A106, (xs99 ++ [y53]).length, c107, xs99 ++ [y53], q100, upk (ac rfl (ac rfl (ac rfl (ac rfl (ac rfl (ac rfl (ac rfl (ac rfl (ac rfl an))))))))), H109.u1.d.u3.d.u2.u2, hm⟩
              · rintro ρ w ⟨A81, n82, c83, xs84, q85, ⟨base, rfl⟩, H86, hm⟩
                obtain rfl := (H86.g2).leneq
                unfold scutageref19_Cross_Add.j4 at hm
                refine st_region ?_
                refine r_pure (.int .i64 (w64 (i48 + 1))) rfl ?_
                refine r_pure (.int .i64 (w64 (i48 + 1))) rfl ?_
                refine r_nil ?_
                refine n_round (IH56 _ _ rfl _ _ _ ⟨i48 + 1, xs84, q85, dn49 ++ [y53], A81, xs84.length, c83, rfl, range_more hxs50, range_len hi51, upk (ac rfl (ac rfl (ac rfl (ac rfl (ac rfl (ac rfl (ac rfl (ac rfl (ac hnx62 an))))))))), H86.u2.u2.u2⟩ hm)
      · rw [scutageref19_Cross_Add.l1] at hm
        have hb23 := range_in hxs15 hi16
        obtain ⟨h024, h125, hj26⟩ := range_ix hxs15 hi16
        have hnx27 := range_next hxs15 hi16 hlim28
        refine st_seq ?_
        refine st_region ?_
        refine r_pure (.bool (decide (i13 < (c_.f_R.length : Int)))) rfl ?_
        refine r_seq ?_
        refine st_seq ?_
        refine st_condt hb23 rfl ?_
        refine st_skip ?_
        refine n_sq ?_
        refine st_cut (fun ρ w => ∃ v132 : Int, (∃ base, ρ = updl base [(0, .pointer (some ⟨b1, 0, none⟩)), (1, .string seller), (2, .string buyer), (3, .int .i64 n_), (9, .slice none 0 0), (10, .int .i64 v132), (35, .slice A2 c_.f_R.length c3), (36, .int .i64 (c_.f_R.length : Int)), (37, .int .i64 i13)]) ∧ Hp w0 (Row K47 (.slice A2 c_.f_R.length c3) c_.f_R :: Bx b1 45 [.slice A2 c_.f_R.length c3] :: Γ) w ∧ scutageref19_Cross_Add.j8 (scutageref19_Cross_Add.l1 seller buyer ys17) i13 v132 = some tl11) ?_ ?_
        · refine st_block ?_
          refine st_seq ?_
          refine st_region ?_
          have hA134 := (H9.g0.rd).adO hj26
          refine r_ix IX43 rfl rfl hA134 h024 h125 ?_
          refine r_ldA [.string y18.Seller, .string y18.Buyer, .int .i64 y18.Amount] LD47 rfl rfl ((H9.g0.rd).csA hA134 hj26) ?_
          refine r_alloc [.string ⟨#[]⟩, .string ⟨#[]⟩, .int .i64 0] Try.zeroValue47 H9 rfl ?_
          intro b135 wd137 H136
          refine r_stA [.string y18.Seller, .string y18.Buyer, .int .i64 y18.Amount] LD47 rfl rfl rfl rfl H136 (Nat.le_of_ble_eq_true rfl) rfl ?_
          intro wd139 H138
          refine r_seq ?_
          refine st_cut (fun ρ w => ∃ q140 : Bool, (∃ base, ρ = updl base [(0, .pointer (some ⟨b1, 0, none⟩)), (1, .string seller), (2, .string buyer), (3, .int .i64 n_), (9, .slice none 0 0), (10, .int .i64 v8), (12, .pointer (some ⟨b135, 0, none⟩)), (35, .slice A2 c_.f_R.length c3), (36, .int .i64 (c_.f_R.length : Int)), (37, .int .i64 i13), (50, .bool q140)]) ∧ Hp w0 (Row K47 (.slice A2 c_.f_R.length c3) c_.f_R :: Bx b1 45 [.slice A2 c_.f_R.length c3] :: Bx b135 47 [.string y18.Seller, .string y18.Buyer, .int .i64 y18.Amount] :: Γ) w ∧ scutageref19_Cross_Add.j9 (scutageref19_Cross_Add.l1 seller buyer ys17) i13 y18 v8 q140 = some tl11) ?_ ?_
          · refine st_region ?_
            refine r_fa FA47_0 ⟨b135, 0, none⟩ rfl rfl ?_
            refine r_ld1 (.string y18.Seller) LD9 rfl ((H138.g0).cell _ rfl) ?_
            refine r_pure (.string seller) rfl ?_
            refine r_pure (.bool ((y18.Seller).toList == (seller).toList)) rfl ?_
            refine r_pure (.bool ((y18.Seller).toList == (seller).toList)) rfl ?_
            rcases ite_some hm with ⟨hb143, hm⟩ | ⟨hb143, hm⟩
            · refine r_fa FA47_1 ⟨b135, 1, none⟩ rfl rfl ?_ (wn_t rfl rfl (by decide) rfl hb143)
              refine r_ld1 (.string y18.Buyer) LD9 rfl ((H138.g0).cell _ rfl) ?_ (wn_t rfl rfl (by decide) rfl hb143)
              refine r_pure (.string buyer) rfl ?_ (wn_t rfl rfl (by decide) rfl hb143)
              refine r_pure (.bool ((y18.Buyer).toList == (buyer).toList)) rfl ?_ (wn_t rfl rfl (by decide) rfl hb143)
              refine r_pick_t (.bool ((y18.Buyer).toList == (buyer).toList)) hb143 rfl rfl ?_
              refine r_nil ?_
              refine n_cut ⟨(y18.Buyer).toList == (buyer).toList, upk (ac rfl (ac rfl (ac rfl (ac rfl (ac rfl (ac rfl (ac rfl (ac rfl (ac rfl (ac rfl (ac rfl an))))))))))), H138.u2.u2, hm⟩
            · refine r_not (wn_f rfl rfl (by decide) rfl hb143) ?_
              refine r_not (wn_f rfl rfl (by decide) rfl hb143) ?_
              refine r_not (wn_f rfl rfl (by decide) rfl hb143) ?_
              refine r_not (wn_f rfl rfl (by decide) rfl hb143) ?_
              refine r_pick_f (.bool false) hb143 rfl rfl ?_
              refine r_nil ?_
              refine n_cut ⟨false, upk (ac rfl (ac rfl (ac rfl (ac rfl (ac rfl (ac rfl (ac rfl (ac rfl (ac rfl (ac rfl (ac rfl an))))))))))), H138.u2.u2, hm⟩
          · rintro ρ w ⟨q140, ⟨base, rfl⟩, H141, hm⟩
            unfold scutageref19_Cross_Add.j9 at hm
            rcases ite_some hm with ⟨hb142, hm⟩ | ⟨hb142, hm⟩
            · refine st_condt hb142 rfl ?_
              refine st_region ?_
              refine r_fa FA47_2 ⟨b135, 2, none⟩ rfl rfl ?_
              refine r_ld1 (.int .i64 y18.Amount) LD3 rfl ((H141.g2).cell _ rfl) ?_
              refine r_pure (.int .i64 y18.Amount) rfl ?_
              refine r_nil ?_
              refine n_bl ?_
              refine n_cut ⟨y18.Amount, upk (ac rfl (ac rfl (ac rfl (ac rfl (ac rfl (ac rfl (ac rfl (ac rfl (ac rfl an))))))))), H141.u2.d.u1.u1, hm⟩
            · refine st_condf hb142 rfl ?_
              refine st_skip ?_
              refine n_bl ?_
              refine n_cut ⟨v8, upk (ac rfl (ac rfl (ac rfl (ac rfl (ac rfl (ac rfl (ac rfl (ac rfl (ac rfl an))))))))), H141.u2.d.u1.u1, hm⟩
        · rintro ρ w ⟨v132, ⟨base, rfl⟩, H133, hm⟩
          unfold scutageref19_Cross_Add.j8 at hm
          refine st_region ?_
          refine r_pure (.int .i64 (w64 (i13 + 1))) rfl ?_
          refine r_pure (.int .i64 (w64 (i13 + 1))) rfl ?_
          refine r_nil ?_
          refine n_round (IH21 _ _ rfl _ _ _ ⟨i13 + 1, v132, dn14 ++ [y18], rfl, range_more hxs15, range_len hi16, upk (ac rfl (ac rfl (ac rfl (ac rfl (ac rfl (ac rfl (ac rfl (ac rfl (ac hnx27 an))))))))), H133.u1.u1⟩ hm)

set_option maxHeartbeats 2000000 in
theorem cross_Cross_Clone_ok {w0 w : World} {Γ : List (World → Prop)} (b1 : Nat) (c_ : cross_Cross) (A2 : Option Addr) (n7 c3 : Nat) (hn6 : n7 = c_.f_l.length) (hc4 : c_.f_l.length ≤ c3) (hv5 : ∀ u, Hp w0 Γ u → SlR K38 A2 c_.f_l u) (hv8 : ∀ u, Hp w0 Γ u → Bx b1 53 [.slice A2 n7 c3] u) (r0_ : cross_Cross) (H : Hp w0 (Γ) w) (hm : cross_Cross_Clone c_ = some r0_) : Calls Try.prog 12 #[.pointer (some ⟨b1, 0, none⟩)] w (fun e w => ∃ (bx1 : Nat), ∃ (Ax2 : Option Addr) (nx3 cx4 : Nat), e = .returned (.pointer (some ⟨bx1, 0, none⟩)) ∧ Hp w0 (Bx bx1 53 [.slice Ax2 nx3 cx4] :: Row K38 (.slice Ax2 nx3 cx4) r0_.f_l :: Γ) w) := by
  subst hn6
  unfold cross_Cross_Clone at hm
  refine st_enter Try.func12 rfl Try.ntmps12 (Nat.le_of_ble_eq_true rfl) ?_
  refine st_seq ?_
  refine st_region ?_
  refine r_pure (.pointer none) rfl ?_
  refine r_seq ?_
  refine st_seq ?_
  refine st_region ?_
  refine r_pure (.pointer (some ⟨b1, 0, none⟩)) rfl ?_
  obtain ⟨y9, hy10, hm⟩ := bind_some hm
  refine r_callf Try.call8 (cross_Cross_Rows_ok b1 (⟨c_.f_l⟩ : cross_Cross) A2 c_.f_l.length c3 rfl hc4 (fun _ H => (hv5 _ H)) (fun _ H => (hv8 _ H)) y9 H hy10) ?_
  rintro e12 wd11 ⟨A15, n16, c17, rfl, H14⟩
  obtain rfl := (H14.g0).leneq
  refine ⟨_, rfl, ?_⟩
  refine r_build [.slice A15 y9.length c17] FL53 rfl ?_
  refine r_box [.slice A15 y9.length c17] H14 rfl ?_
  intro b18 wd20 H19
  refine r_pure (.pointer (some ⟨b18, 0, none⟩)) rfl ?_
  refine r_seq ?_
  have hq_ := Option.some.inj hm
  subst hq_
  refine st_ret1 rfl rfl (Nat.le_of_ble_eq_true rfl) rfl ?_
  exact ⟨b18, A15, y9.length, c17, rfl, H19.u1.u1⟩

set_option maxHeartbeats 2000000 in
theorem scutageplay_Rate_ok {w0 w : World} {Γ : List (World → Prop)} (n_ : Int) (r0_ : Int) (H : Hp w0 (Γ) w) (hm : scutageplay_Rate n_ = some r0_) : Calls Try.prog 14 #[.int .i64 n_] w (fun e w => e = .returned (.int .i64 r0_) ∧ Hp w0 (Γ) w) := by
  unfold scutageplay_Rate at hm
  refine st_enter Try.func14 rfl Try.ntmps14 (Nat.le_of_ble_eq_true rfl) ?_
  refine st_seq ?_
  refine st_region ?_
  refine r_pure (.int .i64 0) rfl ?_
  refine r_seq ?_
  refine st_seq ?_
  refine st_seq ?_
  refine st_region ?_
  refine r_pure (.int .i64 n_) rfl ?_
  refine r_rem (by decide) rfl rfl ?_
  refine r_pure (.bool (Int.tmod n_ 29 == 28)) rfl ?_
  refine r_seq ?_
  rcases ite_some hm with ⟨hb1, hm⟩ | ⟨hb1, hm⟩
  · refine st_condt hb1 rfl ?_
    refine st_seq ?_
    refine st_region ?_
    refine r_pure (.int .i64 n_) rfl ?_
    refine r_pure (.int .i64 n_) rfl ?_
    refine r_seq ?_
    have hq_ := Option.some.inj hm
    subst hq_
    refine st_ret1 rfl rfl (Nat.le_of_ble_eq_true rfl) rfl ?_
    exact ⟨rfl, H⟩
  · refine st_condf hb1 rfl ?_
    refine st_skip ?_
    refine n_sq ?_
    refine st_seq ?_
    refine st_region ?_
    refine r_buildSliceF (K := K3) ([250000, 300000, 190000, 0, 1000000, 333333, 500000, 1, 125000, 999999] : List Int) EL41 rfl rfl rfl (by decide) (by decide) ⟨rfl, rfl, ⟨rfl, rfl, ⟨rfl, rfl, ⟨rfl, rfl, ⟨rfl, rfl, ⟨rfl, rfl, ⟨rfl, rfl, ⟨rfl, rfl, ⟨rfl, rfl, ⟨rfl, rfl, trivial⟩⟩⟩⟩⟩⟩⟩⟩⟩⟩ H ?_
    intro b2 wd4 H3
    refine r_pure (.int .i64 n_) rfl ?_
    obtain ⟨y5, hy6, hm⟩ := bind_some hm
    refine r_callf Try.call6 (scutagekeep_Within_ok n_ 10 y5 H3 hy6) ?_
    rintro e8 wd7 ⟨rfl, H10⟩
    refine ⟨_, rfl, ?_⟩
    obtain ⟨⟨h011, h112⟩, hm⟩ := gd_some hm
    have hj13 := rd_get h011 h112
    refine r_ix IX41 rfl rfl rfl h011 (by have h1_ := (H10.g0).leneq; have h2_ := h112; rw [← h1_] at h2_; exact h2_) ?_
    refine r_ld1 (.int .i64 (rd ([250000, 300000, 190000, 0, 1000000, 333333, 500000, 1, 125000, 999999] : List Int) y5)) LD3 rfl ((H10.g0.rd).c0A rfl hj13 _ rfl) ?_
    refine r_pure (.int .i64 (rd ([250000, 300000, 190000, 0, 1000000, 333333, 500000, 1, 125000, 999999] : List Int) y5)) rfl ?_
    refine r_seq ?_
    have hq_ := Option.some.inj hm
    subst hq_
    refine st_ret1 rfl rfl (Nat.le_of_ble_eq_true rfl) rfl ?_
    exact ⟨rfl, H10.d⟩

set_option maxHeartbeats 2000000 in
theorem rate_Right_ok {w0 w : World} {Γ : List (World → Prop)} (rate_ : Int) (r0_ : Bool) (H : Hp w0 (Γ) w) (hm : rate_Right rate_ = some r0_) : Calls Try.prog 27 #[.int .i64 rate_] w (fun e w => e = .returned (.bool r0_) ∧ Hp w0 (Γ) w) := by
  unfold rate_Right at hm
  refine st_enter Try.func27 rfl Try.ntmps27 (Nat.le_of_ble_eq_true rfl) ?_
  refine st_seq ?_
  refine st_region ?_
  refine r_pure (.bool false) rfl ?_
  refine r_seq ?_
  refine st_cut (fun ρ w => ∃ q1 : Bool, (∃ base, ρ = updl base [(2, .bool q1)]) ∧ Hp w0 (Γ) w ∧ rate_Right.j1 q1 = some r0_) ?_ ?_
  · refine st_region ?_
    refine r_pure (.int .i64 rate_) rfl ?_
    refine r_pure (.bool (decide (rate_ ≥ 0))) rfl ?_
    refine r_pure (.bool (decide (rate_ ≥ 0))) rfl ?_
    rcases ite_some hm with ⟨hb3, hm⟩ | ⟨hb3, hm⟩
    · refine r_pure (.int .i64 rate_) rfl ?_ (wn_t rfl rfl (by decide) rfl hb3)
      refine r_pure (.bool (decide (rate_ ≤ 1000000))) rfl ?_ (wn_t rfl rfl (by decide) rfl hb3)
      refine r_pick_t (.bool (decide (rate_ ≤ 1000000))) hb3 rfl rfl ?_
      refine r_pure (.bool (decide (rate_ ≤ 1000000))) rfl ?_
      refine r_nil ?_
      refine n_cut ⟨decide (rate_ ≤ 1000000), upk (ac rfl an), H, hm⟩
    · refine r_not (wn_f rfl rfl (by decide) rfl hb3) ?_
      refine r_not (wn_f rfl rfl (by decide) rfl hb3) ?_
      refine r_pick_f (.bool false) hb3 rfl rfl ?_
      refine r_pure (.bool false) rfl ?_
      refine r_nil ?_
      refine n_cut ⟨false, upk (ac rfl an), H, hm⟩
  · rintro ρ w ⟨q1, ⟨base, rfl⟩, H2, hm⟩
    unfold rate_Right.j1 at hm
    have hq_ := Option.some.inj hm
    subst hq_
    refine st_ret1 rfl rfl (Nat.le_of_ble_eq_true rfl) rfl ?_
    exact ⟨rfl, H2⟩

set_option maxHeartbeats 2000000 in
theorem rate_Of_ok {w0 w : World} {Γ : List (World → Prop)} (n_ : Int) (rate_ : Int) (r0_ : Int) (r1_ : Bool) (H : Hp w0 (Γ) w) (hm : rate_Of n_ rate_ = some (r0_, r1_)) : Calls Try.prog 28 #[.int .i64 n_, .int .i64 rate_] w (fun e w => e = .returned (.tuple #[.int .i64 r0_, .bool r1_]) ∧ Hp w0 (Γ) w) := by
  unfold rate_Of at hm
  refine st_enter Try.func28 rfl Try.ntmps28 (Nat.le_of_ble_eq_true rfl) ?_
  refine st_seq ?_
  refine st_region ?_
  refine r_pure (.int .i64 0) rfl ?_
  refine r_pure (.bool false) rfl ?_
  refine r_seq ?_
  refine st_seq ?_
  refine st_cut (fun ρ w => ∃ q1 : Bool, (∃ base, ρ = updl base [(0, .int .i64 n_), (1, .int .i64 rate_), (20, .bool q1)]) ∧ Hp w0 (Γ) w ∧ rate_Of.j1 n_ rate_ q1 = some (r0_, r1_)) ?_ ?_
  · refine st_region ?_
    refine r_pure (.int .i64 n_) rfl ?_
    refine r_pure (.bool (decide (n_ < (-400000000000)))) rfl ?_
    refine r_pure (.bool (decide (n_ < (-400000000000)))) rfl ?_
    rcases ite_some hm with ⟨hb5, hm⟩ | ⟨hb5, hm⟩
    · refine r_not (wn_f rfl rfl (by decide) rfl hb5) ?_
      refine r_not (wn_f rfl rfl (by decide) rfl hb5) ?_
      refine r_pick_t (.bool true) hb5 rfl rfl ?_
      refine r_pure (.bool true) rfl ?_
      refine r_not (wn_f rfl rfl (by decide) rfl rfl) ?_
      refine r_not (wn_f rfl rfl (by decide) rfl rfl) ?_
      refine r_pick_t (.bool true) rfl rfl rfl ?_
      refine r_pure (.bool true) rfl ?_
      refine r_not (wn_f rfl rfl (by decide) rfl rfl) ?_
      refine r_not (wn_f rfl rfl (by decide) rfl rfl) ?_
      refine r_pick_t (.bool true) rfl rfl rfl ?_
      refine r_nil ?_
      refine n_cut ⟨true, upk (ac rfl (ac rfl (ac rfl an))), H, hm⟩
    · refine r_pure (.int .i64 n_) rfl ?_ (wn_t rfl rfl (by decide) rfl hb5)
      refine r_pure (.bool (decide (n_ > 400000000000))) rfl ?_ (wn_t rfl rfl (by decide) rfl hb5)
      refine r_pick_f (.bool (decide (n_ > 400000000000))) hb5 rfl rfl ?_
      refine r_pure (.bool (decide (n_ > 400000000000))) rfl ?_
      rcases ite_some hm with ⟨hb6, hm⟩ | ⟨hb6, hm⟩
      · refine r_not (wn_f rfl rfl (by decide) rfl hb6) ?_
        refine r_not (wn_f rfl rfl (by decide) rfl hb6) ?_
        refine r_pick_t (.bool true) hb6 rfl rfl ?_
        refine r_pure (.bool true) rfl ?_
        refine r_not (wn_f rfl rfl (by decide) rfl rfl) ?_
        refine r_not (wn_f rfl rfl (by decide) rfl rfl) ?_
        refine r_pick_t (.bool true) rfl rfl rfl ?_
        refine r_nil ?_
        refine n_cut ⟨true, upk (ac rfl (ac rfl (ac rfl an))), H, hm⟩
      · refine r_pure (.int .i64 rate_) rfl ?_ (wn_t rfl rfl (by decide) rfl hb6)
        refine r_pure (.bool (decide (rate_ < 0))) rfl ?_ (wn_t rfl rfl (by decide) rfl hb6)
        refine r_pick_f (.bool (decide (rate_ < 0))) hb6 rfl rfl ?_
        refine r_pure (.bool (decide (rate_ < 0))) rfl ?_
        rcases ite_some hm with ⟨hb7, hm⟩ | ⟨hb7, hm⟩
        · refine r_not (wn_f rfl rfl (by decide) rfl hb7) ?_
          refine r_not (wn_f rfl rfl (by decide) rfl hb7) ?_
          refine r_pick_t (.bool true) hb7 rfl rfl ?_
          refine r_nil ?_
          refine n_cut ⟨true, upk (ac rfl (ac rfl (ac rfl an))), H, hm⟩
        · refine r_pure (.int .i64 rate_) rfl ?_ (wn_t rfl rfl (by decide) rfl hb7)
          refine r_pure (.bool (decide (rate_ > 10000000))) rfl ?_ (wn_t rfl rfl (by decide) rfl hb7)
          refine r_pick_f (.bool (decide (rate_ > 10000000))) hb7 rfl rfl ?_
          refine r_nil ?_
          refine n_cut ⟨decide (rate_ > 10000000), upk (ac rfl (ac rfl (ac rfl an))), H, hm⟩
  · rintro ρ w ⟨q1, ⟨base, rfl⟩, H2, hm⟩
    unfold rate_Of.j1 at hm
    rcases ite_some hm with ⟨hb3, hm⟩ | ⟨hb3, hm⟩
    · refine st_condt hb3 rfl ?_
      refine st_seq ?_
      refine st_region ?_
      refine r_pure (.int .i64 0) rfl ?_
      refine r_pure (.bool false) rfl ?_
      refine r_seq ?_
      obtain ⟨rfl, rfl⟩ := some_inj2 hm
      refine st_ret2 rfl rfl (Nat.le_of_ble_eq_true rfl) (Nat.le_of_ble_eq_true rfl) rfl rfl ?_
      exact ⟨rfl, H2⟩
    · refine st_condf hb3 rfl ?_
      refine st_skip ?_
      refine n_sq ?_
      refine st_seq ?_
      refine st_region ?_
      refine r_pure (.int .i64 n_) rfl ?_
      refine r_pure (.int .i64 (w64 (2 * n_))) rfl ?_
      refine r_pure (.int .i64 rate_) rfl ?_
      refine r_pure (.int .i64 (w64 (w64 (2 * n_) * rate_))) rfl ?_
      refine r_pure (.int .i64 (w64 (w64 (2 * n_) * rate_))) rfl ?_
      refine r_seq ?_
      refine st_seq ?_
      refine st_seq ?_
      refine st_region ?_
      refine r_pure (.int .i64 n_) rfl ?_
      refine r_pure (.bool (decide (n_ < 0))) rfl ?_
      refine r_seq ?_
      rcases ite_some hm with ⟨hb4, hm⟩ | ⟨hb4, hm⟩
      · refine st_condt hb4 rfl ?_
        refine st_seq ?_
        refine st_region ?_
        refine r_pure (.int .i64 (w64 (w64 (2 * n_) * rate_))) rfl ?_
        refine r_pure (.int .i64 (w64 (w64 (w64 (2 * n_) * rate_) - 1000000))) rfl ?_
        refine r_quo (by decide) rfl rfl ?_
        refine r_pure (.int .i64 (w64 (Int.tdiv (w64 (w64 (w64 (2 * n_) * rate_) - 1000000)) 2000000))) rfl ?_
        refine r_pure (.bool true) rfl ?_
        refine r_seq ?_
        obtain ⟨rfl, rfl⟩ := some_inj2 hm
        refine st_ret2 rfl rfl (Nat.le_of_ble_eq_true rfl) (Nat.le_of_ble_eq_true rfl) rfl rfl ?_
        exact ⟨rfl, H2⟩
      · refine st_condf hb4 rfl ?_
        refine st_skip ?_
        refine n_sq ?_
        refine st_seq ?_
        refine st_region ?_
        refine r_pure (.int .i64 (w64 (w64 (2 * n_) * rate_))) rfl ?_
        refine r_pure (.int .i64 (w64 (w64 (w64 (2 * n_) * rate_) + 1000000))) rfl ?_
        refine r_quo (by decide) rfl rfl ?_
        refine r_pure (.int .i64 (w64 (Int.tdiv (w64 (w64 (w64 (2 * n_) * rate_) + 1000000)) 2000000))) rfl ?_
        refine r_pure (.bool true) rfl ?_
        refine r_seq ?_
        obtain ⟨rfl, rfl⟩ := some_inj2 hm
        refine st_ret2 rfl rfl (Nat.le_of_ble_eq_true rfl) (Nat.le_of_ble_eq_true rfl) rfl rfl ?_
        exact ⟨rfl, H2⟩

set_option maxHeartbeats 2000000 in
theorem cross_Asset_ok {w0 w : World} {Γ : List (World → Prop)} (rows : List cross_Row) (A1 : Option Addr) (n6 c2 : Nat) (hn5 : n6 = rows.length) (hc3 : rows.length ≤ c2) (hv4 : ∀ u, Hp w0 Γ u → SlR K38 A1 rows u) (rates : List Int) (A7 : Option Addr) (n12 c8 : Nat) (hn11 : n12 = rates.length) (hc9 : rates.length ≤ c8) (hv10 : ∀ u, Hp w0 Γ u → SlR K3 A7 rates u) (r0_ : Int) (r1_ : Int) (H : Hp w0 (Γ) w) (hm : cross_Asset rows rates = some (r0_, r1_)) : Calls Try.prog 15 #[.slice A1 n6 c2, .slice A7 n12 c8] w (fun e w => e = .returned (.tuple #[.int .i64 r0_, .int .i64 r1_]) ∧ Hp w0 (Γ) w) := by
  subst hn5
  subst hn11
  unfold cross_Asset at hm
  refine st_enter Try.func15 rfl Try.ntmps15 (Nat.le_of_ble_eq_true rfl) ?_
  refine st_seq ?_
  refine st_region ?_
  refine r_pure (.int .i64 0) rfl ?_
  refine r_pure (.int .i64 0) rfl ?_
  refine r_seq ?_
  refine st_seq ?_
  refine st_seq ?_
  refine st_region ?_
  refine r_pure (.slice A7 rates.length c8) rfl ?_
  refine r_len Try.underlying41 rfl ?_
  refine r_pure (.slice A1 rows.length c2) rfl ?_
  refine r_len Try.underlying34 rfl ?_
  refine r_pure (.bool ((rates.length : Int) != (rows.length : Int))) rfl ?_
  refine r_seq ?_
  rcases ite_some hm with ⟨hb13, hm⟩ | ⟨hb13, hm⟩
  · refine st_condt hb13 rfl ?_
    refine st_seq ?_
    refine st_region ?_
    refine r_pure (.int .i64 0) rfl ?_
    refine r_pure (.int .i64 1) rfl ?_
    refine r_seq ?_
    obtain ⟨rfl, rfl⟩ := some_inj2 hm
    refine st_ret2 rfl rfl (Nat.le_of_ble_eq_true rfl) (Nat.le_of_ble_eq_true rfl) rfl rfl ?_
    exact ⟨rfl, H⟩
  · refine st_condf hb13 rfl ?_
    refine st_skip ?_
    refine n_sq ?_
    refine st_seq ?_
    refine st_region ?_
    refine r_pure (.int .i64 0) rfl ?_
    refine r_seq ?_
    refine st_seq ?_
    refine st_seq ?_
    refine st_region ?_
    refine r_pure (.slice A1 rows.length c2) rfl ?_
    refine r_len Try.underlying34 rfl ?_
    refine r_pure (.int .i64 0) rfl ?_
    refine r_seq ?_
    refine st_block ?_
    have hlim35 := (hv4 _ H).lim
    obtain ⟨tl18, hl19, hm17⟩ := bind_some hm
    refine st_loopL (cross_Asset.l1 rates) (fun ys24 s ρ w => ∃ i20 : Int, ∃ v15 : Int, ∃ dn21 : List cross_Row, (i20, v15) = s ∧ rows = dn21 ++ ys24 ∧ i20 = (dn21.length : Int) ∧ (∃ base, ρ = updl base [(1, .slice A7 rates.length c8), (6, .int .i64 v15), (16, .slice A1 rows.length c2), (17, .int .i64 (rows.length : Int)), (18, .int .i64 i20)]) ∧ Hp w0 (Γ) w) hl19 ⟨0, 0, [], rfl, rfl, rfl, upk (ac rfl (ac rfl (ac rfl (ac rfl (ac rfl an))))), H⟩ ?_
    rintro m ys24 IH28 s ρ w ⟨i20, v15, dn21, rfl, hxs22, hi23, ⟨base, rfl⟩, H16⟩ hm
    rcases ys24 with _ | ⟨y25, ys24⟩
    · rw [cross_Asset.l1] at hm
      have hb29 := range_end hxs22 hi23
      refine st_seq ?_
      refine st_region ?_
      refine r_pure (.bool (decide (i20 < (rows.length : Int)))) rfl ?_
      refine r_seq ?_
      refine st_seq ?_
      refine st_condf hb29 rfl ?_
      have hq_ := Option.some.inj hm
      refine st_exit rfl ?_
      subst hq_
      refine n_sq ?_
      refine st_seq ?_
      refine st_seq ?_
      refine st_region ?_
      refine r_pure (.int .i64 v15) rfl ?_
      obtain ⟨y36, hy37, hm⟩ := bind_some hm17
      refine r_callf Try.call17 (rate_Money_ok v15 y36 H16 hy37) ?_
      rintro e39 wd38 ⟨rfl, H41⟩
      refine ⟨_, rfl, ?_⟩
      refine r_pure (.bool (!y36)) rfl ?_
      refine r_seq ?_
      rcases ite_some hm with ⟨hb42, hm⟩ | ⟨hb42, hm⟩
      · refine st_condt hb42 rfl ?_
        refine st_seq ?_
        refine st_region ?_
        refine r_pure (.int .i64 0) rfl ?_
        refine r_pure (.int .i64 6) rfl ?_
        refine r_seq ?_
        obtain ⟨rfl, rfl⟩ := some_inj2 hm
        refine st_ret2 rfl rfl (Nat.le_of_ble_eq_true rfl) (Nat.le_of_ble_eq_true rfl) rfl rfl ?_
        exact ⟨rfl, H41⟩
      · refine st_condf hb42 rfl ?_
        refine st_skip ?_
        refine n_sq ?_
        refine st_seq ?_
        refine st_region ?_
        refine r_pure (.int .i64 v15) rfl ?_
        refine r_pure (.int .i64 v15) rfl ?_
        refine r_pure (.int .i64 0) rfl ?_
        refine r_seq ?_
        obtain ⟨rfl, rfl⟩ := some_inj2 hm
        refine st_ret2 rfl rfl (Nat.le_of_ble_eq_true rfl) (Nat.le_of_ble_eq_true rfl) rfl rfl ?_
        exact ⟨rfl, H41⟩
    · rw [cross_Asset.l1] at hm
      have hb30 := range_in hxs22 hi23
      obtain ⟨h031, h132, hj33⟩ := range_ix hxs22 hi23
      have hnx34 := range_next hxs22 hi23 hlim35
      refine st_seq ?_
      refine st_region ?_
      refine r_pure (.bool (decide (i20 < (rows.length : Int)))) rfl ?_
      refine r_seq ?_
      refine st_seq ?_
      refine st_condt hb30 rfl ?_
      refine st_skip ?_
      refine n_sq ?_
      refine st_seq ?_
      refine st_block ?_
      refine st_seq ?_
      refine st_region ?_
      refine r_pure (.int .i64 i20) rfl ?_
      have hA43 := (hv4 _ H16).adO hj33
      refine r_ix IX34 rfl rfl hA43 h031 h132 ?_
      refine r_ldA [.string y25.Seller, .string y25.Buyer, .int .i64 y25.Amount] LD38 rfl rfl ((hv4 _ H16).csA hA43 hj33) ?_
      refine r_alloc [.string ⟨#[]⟩, .string ⟨#[]⟩, .int .i64 0] Try.zeroValue38 H16 rfl ?_
      intro b44 wd46 H45
      refine r_pure (.int .i64 i20) rfl ?_
      refine r_stA [.string y25.Seller, .string y25.Buyer, .int .i64 y25.Amount] LD38 rfl rfl rfl rfl H45 (Nat.le_of_ble_eq_true rfl) rfl ?_
      intro wd48 H47
      refine r_seq ?_
      refine st_seq ?_
      refine st_cut (fun ρ w => ∃ q49 : Bool, (∃ base, ρ = updl base [(1, .slice A7 rates.length c8), (6, .int .i64 v15), (7, .int .i64 i20), (8, .pointer (some ⟨b44, 0, none⟩)), (16, .slice A1 rows.length c2), (17, .int .i64 (rows.length : Int)), (18, .int .i64 i20), (39, .bool q49)]) ∧ Hp w0 (Bx b44 38 [.string y25.Seller, .string y25.Buyer, .int .i64 y25.Amount] :: Γ) w ∧ cross_Asset.j1 i20 rates y25 (cross_Asset.l1 rates ys24) v15 q49 = some tl18) ?_ ?_
      · refine st_region ?_
        refine r_pure (.slice A7 rates.length c8) rfl ?_
        refine r_pure (.int .i64 i20) rfl ?_
        obtain ⟨⟨h0140, h1141⟩, hm⟩ := gd_some hm
        have hj142 := rd_get h0140 h1141
        have hA143 := (hv10 _ H47.d).adO hj142
        refine r_ix IX41 rfl rfl hA143 h0140 h1141 ?_
        refine r_ld1 (.int .i64 (rd rates i20)) LD3 rfl ((hv10 _ H47.d).c0A hA143 hj142 _ rfl) ?_
        obtain ⟨y144, hy145, hm⟩ := bind_some hm
        refine r_callf Try.call27 (rate_Right_ok (rd rates i20) y144 H47 hy145) ?_
        rintro e147 wd146 ⟨rfl, H149⟩
        refine ⟨_, rfl, ?_⟩
        refine r_pure (.bool (!y144)) rfl ?_
        refine r_pure (.bool (!y144)) rfl ?_
        rcases ite_some hm with ⟨hb150, hm⟩ | ⟨hb150, hm⟩
        · refine r_not (wn_f rfl rfl (by decide) rfl hb150) ?_
          refine r_not (wn_f rfl rfl (by decide) rfl hb150) ?_
          refine r_not (wn_f rfl rfl (by decide) rfl hb150) ?_
          refine r_pick_t (.bool true) hb150 rfl rfl ?_
          refine r_pure (.bool true) rfl ?_
          refine r_not (wn_f rfl rfl (by decide) rfl rfl) ?_
          refine r_not (wn_f rfl rfl (by decide) rfl rfl) ?_
          refine r_not (wn_f rfl rfl (by decide) rfl rfl) ?_
          refine r_not (wn_f rfl rfl (by decide) rfl rfl) ?_
          refine r_pick_t (.bool true) rfl rfl rfl ?_
          refine r_nil ?_
          refine n_cut ⟨true, upk (ac rfl (ac rfl (ac rfl (ac rfl (ac rfl (ac rfl (ac rfl (ac rfl an)))))))), H149, hm⟩
        · refine r_fa FA38_2 ⟨b44, 2, none⟩ rfl rfl ?_ (wn_t rfl rfl (by decide) rfl hb150)
          refine r_ld1 (.int .i64 y25.Amount) LD3 rfl ((H149.g0).cell _ rfl) ?_ (wn_t rfl rfl (by decide) rfl hb150)
          refine r_pure (.bool (decide (y25.Amount < 0))) rfl ?_ (wn_t rfl rfl (by decide) rfl hb150)
          refine r_pick_f (.bool (decide (y25.Amount < 0))) hb150 rfl rfl ?_
          refine r_pure (.bool (decide (y25.Amount < 0))) rfl ?_
          rcases ite_some hm with ⟨hb151, hm⟩ | ⟨hb151, hm⟩
          · refine r_not (wn_f rfl rfl (by decide) rfl hb151) ?_
            refine r_not (wn_f rfl rfl (by decide) rfl hb151) ?_
            refine r_not (wn_f rfl rfl (by decide) rfl hb151) ?_
            refine r_not (wn_f rfl rfl (by decide) rfl hb151) ?_
            refine r_pick_t (.bool true) hb151 rfl rfl ?_
            refine r_nil ?_
            refine n_cut ⟨true, upk (ac rfl (ac rfl (ac rfl (ac rfl (ac rfl (ac rfl (ac rfl (ac rfl an)))))))), H149, hm⟩
          · refine r_fa FA38_2 ⟨b44, 2, none⟩ rfl rfl ?_ (wn_t rfl rfl (by decide) rfl hb151)
            refine r_ld1 (.int .i64 y25.Amount) LD3 rfl ((H149.g0).cell _ rfl) ?_ (wn_t rfl rfl (by decide) rfl hb151)
            obtain ⟨y152, hy153, hm⟩ := bind_some hm
            refine r_callf Try.call17 (rate_Money_ok y25.Amount y152 H149 hy153) ?_ (wn_t rfl rfl (by decide) rfl hb151)
            rintro e155 wd154 ⟨rfl, H157⟩
            refine ⟨_, rfl, ?_⟩
            refine r_pure (.bool (!y152)) rfl ?_ (wn_t rfl rfl (by decide) rfl hb151)
            refine r_pick_f (.bool (!y152)) hb151 rfl rfl ?_
            refine r_nil ?_
            refine n_cut ⟨!y152, upk (ac rfl (ac rfl (ac rfl (ac rfl (ac rfl (ac rfl (ac rfl (ac rfl an)))))))), H157, hm⟩
      · rintro ρ w ⟨q49, ⟨base, rfl⟩, H50, hm⟩
        unfold cross_Asset.j1 at hm
        rcases ite_some hm with ⟨hb51, hm⟩ | ⟨hb51, hm⟩
        · refine st_condt hb51 rfl ?_
          refine st_seq ?_
          refine st_region ?_
          refine r_pure (.int .i64 0) rfl ?_
          refine r_pure (.int .i64 1) rfl ?_
          refine r_seq ?_
          have hq_ := Option.some.inj hm
          subst hq_
          obtain ⟨rfl, rfl⟩ := some_inj2 (show some ((0, 1) : (Int × Int)) = some (r0_, r1_) from hm17)
          refine st_ret2 rfl rfl (Nat.le_of_ble_eq_true rfl) (Nat.le_of_ble_eq_true rfl) rfl rfl ?_
          exact ⟨rfl, H50.d⟩
        · refine st_condf hb51 rfl ?_
          refine st_skip ?_
          refine n_sq ?_
          refine st_seq ?_
          obtain ⟨⟨h053, h154⟩, hm⟩ := gd_some hm
          have hj55 := rd_get h053 h154
          obtain ⟨⟨y57, y58⟩, hy59, hm⟩ := bind_some hm
          refine Flow.run' [[], [0], [], [], [2, 3], [2, 3, 4], [0, 1, 2, 3, 4, 5], [0, 1, 2, 3, 4, 5, 6], [0, 1, 2, 3, 4, 5, 6, 7], [0, 1, 2, 3, 4, 5, 6, 7], [0, 1, 2, 3, 4, 5, 6, 7, 8], [0, 1, 2, 3, 4, 5, 6, 7, 8, 9, 10]] [(41, 0), (42, 1), (43, 2), (44, 3), (45, 4), (46, 5), (47, 6), (40, 7), (48, 8), (49, 9), (9, 10), (10, 11)] [(fun η52 v => v.1 = .pointer (some ⟨b44, 2, none⟩)), (fun η52 v => v.1 = .int .i64 y25.Amount), (fun η52 v => v.1 = .slice A7 rates.length c8), (fun η52 v => v.1 = .int .i64 i20), (fun η52 v => v.1 = .pointer (some ((oA A7).add (Int.toNat i20 * 1)))), (fun η52 v => v.1 = .int .i64 (rd rates i20)), (fun η52 v => v.1 = .tuple #[.int .i64 y57, .bool y58]), (fun η52 v => v.1 = .tuple #[.int .i64 y57, .bool y58]), (fun η52 v => v.1 = .int .i64 y57), (fun η52 v => v.1 = .bool y58), (fun η52 v => v.1 = .int .i64 y57), (fun η52 v => v.1 = .bool y58)] [] rfl (by kernel_rfl) (by kernel_rfl) H50 ⟨?_, ?_, ?_, ?_, ?_, ?_, ?_, ?_, ?_, ?_, ?_, ?_, trivial⟩ ?_
          · intro η52 wd67 Δ68 hE64 hR65 H66
            have H66 : Hp w0 ((Δ68 ++ (Bx b44 38 [.string y25.Seller, .string y25.Buyer, .int .i64 y25.Amount] :: Γ))) wd67 := H66
            refine sp_op [(8, .pointer (some ⟨b44, 0, none⟩))] (ac rfl an) ?_
            refine r_fa FA38_2 ⟨b44, 2, none⟩ rfl rfl ?_
            exact r_nil (n_lp ⟨_, rfl, undef, rfl, H66⟩)
          · intro η52 wd72 Δ73 hE69 hR70 H71
            have H71 : Hp w0 ((Δ73 ++ (Bx b44 38 [.string y25.Seller, .string y25.Buyer, .int .i64 y25.Amount] :: Γ))) wd72 := H71
            refine sp_op [(41, .pointer (some ⟨b44, 2, none⟩))] (ac (hE69 0 (by decide)) an) ?_
            refine r_ld1 (.int .i64 y25.Amount) LD3 rfl (((H71).tl.g0).cell _ rfl) ?_
            exact r_nil (n_lp ⟨_, rfl, undef, rfl, H71⟩)
          · intro η52 wd77 Δ78 hE74 hR75 H76
            have H76 : Hp w0 ((Δ78 ++ (Bx b44 38 [.string y25.Seller, .string y25.Buyer, .int .i64 y25.Amount] :: Γ))) wd77 := H76
            refine sp_op [(1, .slice A7 rates.length c8)] (ac rfl an) ?_
            refine r_pure (.slice A7 rates.length c8) rfl ?_
            exact r_nil (n_lp ⟨_, rfl, undef, rfl, H76⟩)
          · intro η52 wd82 Δ83 hE79 hR80 H81
            have H81 : Hp w0 ((Δ83 ++ (Bx b44 38 [.string y25.Seller, .string y25.Buyer, .int .i64 y25.Amount] :: Γ))) wd82 := H81
            refine sp_op [(7, .int .i64 i20)] (ac rfl an) ?_
            refine r_pure (.int .i64 i20) rfl ?_
            exact r_nil (n_lp ⟨_, rfl, undef, rfl, H81⟩)
          · intro η52 wd87 Δ88 hE84 hR85 H86
            have H86 : Hp w0 ((Δ88 ++ (Bx b44 38 [.string y25.Seller, .string y25.Buyer, .int .i64 y25.Amount] :: Γ))) wd87 := H86
            refine sp_op [(43, .slice A7 rates.length c8), (44, .int .i64 i20)] (ac (hE84 2 (by decide)) (ac (hE84 3 (by decide)) an)) ?_
            have hA92 := (hv10 _ (H86).tl.d).adO hj55
            refine r_ix IX41 rfl rfl hA92 h053 h154 ?_
            exact r_nil (n_lp ⟨_, rfl, undef, rfl, H86⟩)
          · intro η52 wd96 Δ97 hE93 hR94 H95
            have H95 : Hp w0 ((Δ97 ++ (Bx b44 38 [.string y25.Seller, .string y25.Buyer, .int .i64 y25.Amount] :: Γ))) wd96 := H95
            refine sp_op [(45, .pointer (some ((oA A7).add (Int.toNat i20 * 1))))] (ac (hE93 4 (by decide)) an) ?_
            have hA98 := (hv10 _ (H95).tl.d).adO hj55
            refine r_ld1 (.int .i64 (rd rates i20)) LD3 rfl ((hv10 _ (H95).tl.d).c0A hA98 hj55 _ rfl) ?_
            exact r_nil (n_lp ⟨_, rfl, undef, rfl, H95⟩)
          · intro η52 wd102 Δ103 hE99 hR100 H101
            have H101 : Hp w0 ((Δ103 ++ (Bx b44 38 [.string y25.Seller, .string y25.Buyer, .int .i64 y25.Amount] :: Γ))) wd102 := H101
            refine sp_op [(42, .int .i64 y25.Amount), (46, .int .i64 (rd rates i20))] (ac (hE99 1 (by decide)) (ac (hE99 5 (by decide)) an)) ?_
            refine r_callf Try.call28 (rate_Of_ok y25.Amount (rd rates i20) y57 y58 H101 hy59) ?_
            rintro e108 wd107 ⟨rfl, H110⟩
            refine ⟨_, rfl, ?_⟩
            exact r_nil (n_lp ⟨_, rfl, undef, rfl, H110⟩)
          · intro η52 wd114 Δ115 hE111 hR112 H113
            have H113 : Hp w0 ((Δ115 ++ (Bx b44 38 [.string y25.Seller, .string y25.Buyer, .int .i64 y25.Amount] :: Γ))) wd114 := H113
            refine sp_op [(47, .tuple #[.int .i64 y57, .bool y58])] (ac (hE111 6 (by decide)) an) ?_
            refine r_pure (.tuple #[.int .i64 y57, .bool y58]) rfl ?_
            exact r_nil (n_lp ⟨_, rfl, undef, rfl, H113⟩)
          · intro η52 wd119 Δ120 hE116 hR117 H118
            have H118 : Hp w0 ((Δ120 ++ (Bx b44 38 [.string y25.Seller, .string y25.Buyer, .int .i64 y25.Amount] :: Γ))) wd119 := H118
            refine sp_op [(40, .tuple #[.int .i64 y57, .bool y58])] (ac (hE116 7 (by decide)) an) ?_
            refine r_pure (.int .i64 y57) rfl ?_
            exact r_nil (n_lp ⟨_, rfl, undef, rfl, H118⟩)
          · intro η52 wd124 Δ125 hE121 hR122 H123
            have H123 : Hp w0 ((Δ125 ++ (Bx b44 38 [.string y25.Seller, .string y25.Buyer, .int .i64 y25.Amount] :: Γ))) wd124 := H123
            refine sp_op [(40, .tuple #[.int .i64 y57, .bool y58])] (ac (hE121 7 (by decide)) an) ?_
            refine r_pure (.bool y58) rfl ?_
            exact r_nil (n_lp ⟨_, rfl, undef, rfl, H123⟩)
          · intro η52 wd129 Δ130 hE126 hR127 H128
            have H128 : Hp w0 ((Δ130 ++ (Bx b44 38 [.string y25.Seller, .string y25.Buyer, .int .i64 y25.Amount] :: Γ))) wd129 := H128
            refine sp_op [(48, .int .i64 y57)] (ac (hE126 8 (by decide)) an) ?_
            refine r_pure (.int .i64 y57) rfl ?_
            exact r_nil (n_lp ⟨_, rfl, undef, rfl, H128⟩)
          · intro η52 wd134 Δ135 hE131 hR132 H133
            have H133 : Hp w0 ((Δ135 ++ (Bx b44 38 [.string y25.Seller, .string y25.Buyer, .int .i64 y25.Amount] :: Γ))) wd134 := H133
            refine sp_op [(49, .bool y58)] (ac (hE131 9 (by decide)) an) ?_
            refine r_pure (.bool y58) rfl ?_
            exact r_nil (n_lp ⟨_, rfl, undef, rfl, H133⟩)
          · intro η52 wd137 hV138 H136
            have H139 : Hp w0 (Bx b44 38 [.string y25.Seller, .string y25.Buyer, .int .i64 y25.Amount] :: Γ) wd137 := H136
            refine n_frame [(1, .slice A7 rates.length c8), (6, .int .i64 v15), (9, .int .i64 y57), (16, .slice A1 rows.length c2), (17, .int .i64 (rows.length : Int)), (18, .int .i64 i20)] (ac rfl (ac rfl (ac (hV138 10 rfl) (ac rfl (ac rfl (ac rfl an)))))) ?_
            refine n_sq ?_
            refine st_region ?_
            refine r_pure (.int .i64 v15) rfl ?_
            refine r_pure (.int .i64 y57) rfl ?_
            refine r_pure (.int .i64 (w64 (v15 + y57))) rfl ?_
            refine r_pure (.int .i64 (w64 (v15 + y57))) rfl ?_
            refine r_nil ?_
            refine n_bl ?_
            refine n_sq ?_
            refine st_region ?_
            refine r_pure (.int .i64 (w64 (i20 + 1))) rfl ?_
            refine r_pure (.int .i64 (w64 (i20 + 1))) rfl ?_
            refine r_nil ?_
            refine n_round (IH28 _ _ rfl _ _ _ ⟨i20 + 1, w64 (v15 + y57), dn21 ++ [y25], rfl, range_more hxs22, range_len hi23, upk (ac rfl (ac rfl (ac rfl (ac rfl (ac hnx34 an))))), H139.d⟩ hm)

set_option maxHeartbeats 2000000 in
theorem scutageref01_Right_ok {w0 w : World} {Γ : List (World → Prop)} (r_ : Int) (r0_ : Bool) (H : Hp w0 (Γ) w) (hm : scutageref01_Right r_ = some r0_) : Calls Try.prog 33 #[.int .i64 r_] w (fun e w => e = .returned (.bool r0_) ∧ Hp w0 (Γ) w) := by
  unfold scutageref01_Right at hm
  refine st_enter Try.func33 rfl Try.ntmps33 (Nat.le_of_ble_eq_true rfl) ?_
  refine st_seq ?_
  refine st_region ?_
  refine r_pure (.bool false) rfl ?_
  refine r_seq ?_
  refine st_cut (fun ρ w => ∃ q1 : Bool, (∃ base, ρ = updl base [(2, .bool q1)]) ∧ Hp w0 (Γ) w ∧ scutageref01_Right.j1 q1 = some r0_) ?_ ?_
  · refine st_region ?_
    refine r_pure (.int .i64 r_) rfl ?_
    refine r_pure (.bool (decide (r_ ≥ 0))) rfl ?_
    refine r_pure (.bool (decide (r_ ≥ 0))) rfl ?_
    rcases ite_some hm with ⟨hb3, hm⟩ | ⟨hb3, hm⟩
    · refine r_pure (.int .i64 r_) rfl ?_ (wn_t rfl rfl (by decide) rfl hb3)
      refine r_pure (.bool (decide (r_ ≤ 1000000))) rfl ?_ (wn_t rfl rfl (by decide) rfl hb3)
      refine r_pick_t (.bool (decide (r_ ≤ 1000000))) hb3 rfl rfl ?_
      refine r_pure (.bool (decide (r_ ≤ 1000000))) rfl ?_
      refine r_nil ?_
      refine n_cut ⟨decide (r_ ≤ 1000000), upk (ac rfl an), H, hm⟩
    · refine r_not (wn_f rfl rfl (by decide) rfl hb3) ?_
      refine r_not (wn_f rfl rfl (by decide) rfl hb3) ?_
      refine r_pick_f (.bool false) hb3 rfl rfl ?_
      refine r_pure (.bool false) rfl ?_
      refine r_nil ?_
      refine n_cut ⟨false, upk (ac rfl an), H, hm⟩
  · rintro ρ w ⟨q1, ⟨base, rfl⟩, H2, hm⟩
    unfold scutageref01_Right.j1 at hm
    have hq_ := Option.some.inj hm
    subst hq_
    refine st_ret1 rfl rfl (Nat.le_of_ble_eq_true rfl) rfl ?_
    exact ⟨rfl, H2⟩

set_option maxHeartbeats 2000000 in
theorem scutageref01_Of_r1_ok {w0 w : World} {Γ : List (World → Prop)} (n_ : Int) (r_ : Int) (r0_ : Int) (r1_ : Bool) (H : Hp w0 (Γ) w) (hm : scutageref01_Of_r1 n_ r_ = some (r0_, r1_)) : Calls Try.prog 46 #[.int .i64 n_, .int .i64 r_] w (fun e w => e = .returned (.tuple #[.int .i64 r0_, .bool r1_]) ∧ Hp w0 (Γ) w) := by
  unfold scutageref01_Of_r1 at hm
  refine st_enter Try.func46 rfl Try.ntmps46 (Nat.le_of_ble_eq_true rfl) ?_
  refine st_seq ?_
  refine st_region ?_
  refine r_pure (.int .i64 0) rfl ?_
  refine r_pure (.bool false) rfl ?_
  refine r_seq ?_
  refine st_seq ?_
  refine st_cut (fun ρ w => ∃ q1 : Bool, (∃ base, ρ = updl base [(0, .int .i64 n_), (1, .int .i64 r_), (24, .bool q1)]) ∧ Hp w0 (Γ) w ∧ scutageref01_Of_r1.j1 n_ r_ q1 = some (r0_, r1_)) ?_ ?_
  · refine st_region ?_
    refine r_pure (.int .i64 n_) rfl ?_
    refine r_pure (.bool (decide (n_ < (-400000000000)))) rfl ?_
    refine r_pure (.bool (decide (n_ < (-400000000000)))) rfl ?_
    rcases ite_some hm with ⟨hb8, hm⟩ | ⟨hb8, hm⟩
    · refine r_not (wn_f rfl rfl (by decide) rfl hb8) ?_
      refine r_not (wn_f rfl rfl (by decide) rfl hb8) ?_
      refine r_pick_t (.bool true) hb8 rfl rfl ?_
      refine r_pure (.bool true) rfl ?_
      refine r_not (wn_f rfl rfl (by decide) rfl rfl) ?_
      refine r_not (wn_f rfl rfl (by decide) rfl rfl) ?_
      refine r_pick_t (.bool true) rfl rfl rfl ?_
      refine r_pure (.bool true) rfl ?_
      refine r_not (wn_f rfl rfl (by decide) rfl rfl) ?_
      refine r_not (wn_f rfl rfl (by decide) rfl rfl) ?_
      refine r_pick_t (.bool true) rfl rfl rfl ?_
      refine r_nil ?_
      refine n_cut ⟨true, upk (ac rfl (ac rfl (ac rfl an))), H, hm⟩
    · refine r_pure (.int .i64 n_) rfl ?_ (wn_t rfl rfl (by decide) rfl hb8)
      refine r_pure (.bool (decide (n_ > 400000000000))) rfl ?_ (wn_t rfl rfl (by decide) rfl hb8)
      refine r_pick_f (.bool (decide (n_ > 400000000000))) hb8 rfl rfl ?_
      refine r_pure (.bool (decide (n_ > 400000000000))) rfl ?_
      rcases ite_some hm with ⟨hb9, hm⟩ | ⟨hb9, hm⟩
      · refine r_not (wn_f rfl rfl (by decide) rfl hb9) ?_
        refine r_not (wn_f rfl rfl (by decide) rfl hb9) ?_
        refine r_pick_t (.bool true) hb9 rfl rfl ?_
        refine r_pure (.bool true) rfl ?_
        refine r_not (wn_f rfl rfl (by decide) rfl rfl) ?_
        refine r_not (wn_f rfl rfl (by decide) rfl rfl) ?_
        refine r_pick_t (.bool true) rfl rfl rfl ?_
        refine r_nil ?_
        refine n_cut ⟨true, upk (ac rfl (ac rfl (ac rfl an))), H, hm⟩
      · refine r_pure (.int .i64 r_) rfl ?_ (wn_t rfl rfl (by decide) rfl hb9)
        refine r_pure (.bool (decide (r_ < 0))) rfl ?_ (wn_t rfl rfl (by decide) rfl hb9)
        refine r_pick_f (.bool (decide (r_ < 0))) hb9 rfl rfl ?_
        refine r_pure (.bool (decide (r_ < 0))) rfl ?_
        rcases ite_some hm with ⟨hb10, hm⟩ | ⟨hb10, hm⟩
        · refine r_not (wn_f rfl rfl (by decide) rfl hb10) ?_
          refine r_not (wn_f rfl rfl (by decide) rfl hb10) ?_
          refine r_pick_t (.bool true) hb10 rfl rfl ?_
          refine r_nil ?_
          refine n_cut ⟨true, upk (ac rfl (ac rfl (ac rfl an))), H, hm⟩
        · refine r_pure (.int .i64 r_) rfl ?_ (wn_t rfl rfl (by decide) rfl hb10)
          refine r_pure (.bool (decide (r_ > 10000000))) rfl ?_ (wn_t rfl rfl (by decide) rfl hb10)
          refine r_pick_f (.bool (decide (r_ > 10000000))) hb10 rfl rfl ?_
          refine r_nil ?_
          refine n_cut ⟨decide (r_ > 10000000), upk (ac rfl (ac rfl (ac rfl an))), H, hm⟩
  · rintro ρ w ⟨q1, ⟨base, rfl⟩, H2, hm⟩
    unfold scutageref01_Of_r1.j1 at hm
    rcases ite_some hm with ⟨hb3, hm⟩ | ⟨hb3, hm⟩
    · refine st_condt hb3 rfl ?_
      refine st_seq ?_
      refine st_region ?_
      refine r_pure (.int .i64 0) rfl ?_
      refine r_pure (.bool false) rfl ?_
      refine r_seq ?_
      obtain ⟨rfl, rfl⟩ := some_inj2 hm
      refine st_ret2 rfl rfl (Nat.le_of_ble_eq_true rfl) (Nat.le_of_ble_eq_true rfl) rfl rfl ?_
      exact ⟨rfl, H2⟩
    · refine st_condf hb3 rfl ?_
      refine st_skip ?_
      refine n_sq ?_
      refine st_seq ?_
      refine st_seq ?_
      refine st_region ?_
      refine r_pure (.int .i64 n_) rfl ?_
      refine r_pure (.bool (decide (n_ < 0))) rfl ?_
      refine r_seq ?_
      rcases ite_some hm with ⟨hb4, hm⟩ | ⟨hb4, hm⟩
      · cases hm
      · refine st_condf hb4 rfl ?_
        refine st_skip ?_
        refine n_sq ?_
        refine st_seq ?_
        refine st_region ?_
        refine r_pure (.int .i64 n_) rfl ?_
        refine r_pure (.int .i64 r_) rfl ?_
        refine r_pure (.int .i64 (w64 (n_ * r_))) rfl ?_
        refine r_pure (.int .i64 (w64 (n_ * r_))) rfl ?_
        refine r_seq ?_
        refine st_seq ?_
        refine st_region ?_
        refine r_pure (.int .i64 (w64 (n_ * r_))) rfl ?_
        refine r_quo (by decide) rfl rfl ?_
        refine r_pure (.int .i64 (w64 (n_ * r_))) rfl ?_
        refine r_rem (by decide) rfl rfl ?_
        refine r_pure (.int .i64 (w64 (Int.tdiv (w64 (n_ * r_)) 1000000))) rfl ?_
        refine r_pure (.int .i64 (Int.tmod (w64 (n_ * r_)) 1000000)) rfl ?_
        refine r_seq ?_
        refine st_cut (fun ρ w => ∃ v5 : Int, (∃ base, ρ = updl base [(9, .int .i64 v5)]) ∧ Hp w0 (Γ) w ∧ scutageref01_Of_r1.j2 v5 = some (r0_, r1_)) ?_ ?_
        · refine st_seq ?_
          refine st_region ?_
          refine r_pure (.int .i64 (Int.tmod (w64 (n_ * r_)) 1000000)) rfl ?_
          refine r_pure (.int .i64 (w64 (2 * Int.tmod (w64 (n_ * r_)) 1000000))) rfl ?_
          refine r_pure (.bool (decide (w64 (2 * Int.tmod (w64 (n_ * r_)) 1000000) ≥ 1000000))) rfl ?_
          refine r_seq ?_
          rcases ite_some hm with ⟨hb7, hm⟩ | ⟨hb7, hm⟩
          · refine st_condt hb7 rfl ?_
            refine st_region ?_
            refine r_pure (.int .i64 (w64 (Int.tdiv (w64 (n_ * r_)) 1000000))) rfl ?_
            refine r_pure (.int .i64 (w64 (w64 (Int.tdiv (w64 (n_ * r_)) 1000000) + 1))) rfl ?_
            refine r_pure (.int .i64 (w64 (w64 (Int.tdiv (w64 (n_ * r_)) 1000000) + 1))) rfl ?_
            refine r_nil ?_
            refine n_cut ⟨w64 (w64 (Int.tdiv (w64 (n_ * r_)) 1000000) + 1), upk (ac rfl an), H2, hm⟩
          · refine st_condf hb7 rfl ?_
            refine st_skip ?_
            refine n_cut ⟨w64 (Int.tdiv (w64 (n_ * r_)) 1000000), upk (ac rfl an), H2, hm⟩
        · rintro ρ w ⟨v5, ⟨base, rfl⟩, H6, hm⟩
          unfold scutageref01_Of_r1.j2 at hm
          refine st_seq ?_
          refine st_region ?_
          refine r_pure (.int .i64 v5) rfl ?_
          refine r_pure (.int .i64 v5) rfl ?_
          refine r_pure (.bool true) rfl ?_
          refine r_seq ?_
          obtain ⟨rfl, rfl⟩ := some_inj2 hm
          refine st_ret2 rfl rfl (Nat.le_of_ble_eq_true rfl) (Nat.le_of_ble_eq_true rfl) rfl rfl ?_
          exact ⟨rfl, H6⟩

set_option maxHeartbeats 2000000 in
theorem scutageref01_Of_ok {w0 w : World} {Γ : List (World → Prop)} (n_ : Int) (r_ : Int) (r0_ : Int) (r1_ : Bool) (H : Hp w0 (Γ) w) (hm : scutageref01_Of n_ r_ = some (r0_, r1_)) : Calls Try.prog 46 #[.int .i64 n_, .int .i64 r_] w (fun e w => e = .returned (.tuple #[.int .i64 r0_, .bool r1_]) ∧ Hp w0 (Γ) w) := by
  unfold scutageref01_Of at hm
  refine st_enter Try.func46 rfl Try.ntmps46 (Nat.le_of_ble_eq_true rfl) ?_
  refine st_seq ?_
  refine st_region ?_
  refine r_pure (.int .i64 0) rfl ?_
  refine r_pure (.bool false) rfl ?_
  refine r_seq ?_
  refine st_seq ?_
  refine st_cut (fun ρ w => ∃ q1 : Bool, (∃ base, ρ = updl base [(0, .int .i64 n_), (1, .int .i64 r_), (24, .bool q1)]) ∧ Hp w0 (Γ) w ∧ scutageref01_Of.j1 n_ r_ q1 = some (r0_, r1_)) ?_ ?_
  · refine st_region ?_
    refine r_pure (.int .i64 n_) rfl ?_
    refine r_pure (.bool (decide (n_ < (-400000000000)))) rfl ?_
    refine r_pure (.bool (decide (n_ < (-400000000000)))) rfl ?_
    rcases ite_some hm with ⟨hb15, hm⟩ | ⟨hb15, hm⟩
    · refine r_not (wn_f rfl rfl (by decide) rfl hb15) ?_
      refine r_not (wn_f rfl rfl (by decide) rfl hb15) ?_
      refine r_pick_t (.bool true) hb15 rfl rfl ?_
      refine r_pure (.bool true) rfl ?_
      refine r_not (wn_f rfl rfl (by decide) rfl rfl) ?_
      refine r_not (wn_f rfl rfl (by decide) rfl rfl) ?_
      refine r_pick_t (.bool true) rfl rfl rfl ?_
      refine r_pure (.bool true) rfl ?_
      refine r_not (wn_f rfl rfl (by decide) rfl rfl) ?_
      refine r_not (wn_f rfl rfl (by decide) rfl rfl) ?_
      refine r_pick_t (.bool true) rfl rfl rfl ?_
      refine r_nil ?_
      refine n_cut ⟨true, upk (ac rfl (ac rfl (ac rfl an))), H, hm⟩
    · refine r_pure (.int .i64 n_) rfl ?_ (wn_t rfl rfl (by decide) rfl hb15)
      refine r_pure (.bool (decide (n_ > 400000000000))) rfl ?_ (wn_t rfl rfl (by decide) rfl hb15)
      refine r_pick_f (.bool (decide (n_ > 400000000000))) hb15 rfl rfl ?_
      refine r_pure (.bool (decide (n_ > 400000000000))) rfl ?_
      rcases ite_some hm with ⟨hb16, hm⟩ | ⟨hb16, hm⟩
      · refine r_not (wn_f rfl rfl (by decide) rfl hb16) ?_
        refine r_not (wn_f rfl rfl (by decide) rfl hb16) ?_
        refine r_pick_t (.bool true) hb16 rfl rfl ?_
        refine r_pure (.bool true) rfl ?_
        refine r_not (wn_f rfl rfl (by decide) rfl rfl) ?_
        refine r_not (wn_f rfl rfl (by decide) rfl rfl) ?_
        refine r_pick_t (.bool true) rfl rfl rfl ?_
        refine r_nil ?_
        refine n_cut ⟨true, upk (ac rfl (ac rfl (ac rfl an))), H, hm⟩
      · refine r_pure (.int .i64 r_) rfl ?_ (wn_t rfl rfl (by decide) rfl hb16)
        refine r_pure (.bool (decide (r_ < 0))) rfl ?_ (wn_t rfl rfl (by decide) rfl hb16)
        refine r_pick_f (.bool (decide (r_ < 0))) hb16 rfl rfl ?_
        refine r_pure (.bool (decide (r_ < 0))) rfl ?_
        rcases ite_some hm with ⟨hb17, hm⟩ | ⟨hb17, hm⟩
        · refine r_not (wn_f rfl rfl (by decide) rfl hb17) ?_
          refine r_not (wn_f rfl rfl (by decide) rfl hb17) ?_
          refine r_pick_t (.bool true) hb17 rfl rfl ?_
          refine r_nil ?_
          refine n_cut ⟨true, upk (ac rfl (ac rfl (ac rfl an))), H, hm⟩
        · refine r_pure (.int .i64 r_) rfl ?_ (wn_t rfl rfl (by decide) rfl hb17)
          refine r_pure (.bool (decide (r_ > 10000000))) rfl ?_ (wn_t rfl rfl (by decide) rfl hb17)
          refine r_pick_f (.bool (decide (r_ > 10000000))) hb17 rfl rfl ?_
          refine r_nil ?_
          refine n_cut ⟨decide (r_ > 10000000), upk (ac rfl (ac rfl (ac rfl an))), H, hm⟩
  · rintro ρ w ⟨q1, ⟨base, rfl⟩, H2, hm⟩
    unfold scutageref01_Of.j1 at hm
    rcases ite_some hm with ⟨hb3, hm⟩ | ⟨hb3, hm⟩
    · refine st_condt hb3 rfl ?_
      refine st_seq ?_
      refine st_region ?_
      refine r_pure (.int .i64 0) rfl ?_
      refine r_pure (.bool false) rfl ?_
      refine r_seq ?_
      obtain ⟨rfl, rfl⟩ := some_inj2 hm
      refine st_ret2 rfl rfl (Nat.le_of_ble_eq_true rfl) (Nat.le_of_ble_eq_true rfl) rfl rfl ?_
      exact ⟨rfl, H2⟩
    · refine st_condf hb3 rfl ?_
      refine st_skip ?_
      refine n_sq ?_
      refine st_seq ?_
      refine st_seq ?_
      refine st_region ?_
      refine r_pure (.int .i64 n_) rfl ?_
      refine r_pure (.bool (decide (n_ < 0))) rfl ?_
      refine r_seq ?_
      rcases ite_some hm with ⟨hb4, hm⟩ | ⟨hb4, hm⟩
      · refine st_condt hb4 rfl ?_
        refine st_seq ?_
        refine st_region ?_
        refine r_pure (.int .i64 n_) rfl ?_
        refine r_pure (.int .i64 (w64 (0 - n_))) rfl ?_
        refine r_pure (.int .i64 r_) rfl ?_
        obtain ⟨⟨y5, y6⟩, hy7, hm⟩ := bind_some hm
        refine r_callf Try.call46 (scutageref01_Of_r1_ok (w64 (0 - n_)) r_ y5 y6 H2 hy7) ?_
        rintro e9 wd8 ⟨rfl, H11⟩
        refine ⟨_, rfl, ?_⟩
        refine r_pure (.tuple #[.int .i64 y5, .bool y6]) rfl ?_
        refine r_pure (.int .i64 y5) rfl ?_
        refine r_pure (.bool y6) rfl ?_
        refine r_pure (.int .i64 y5) rfl ?_
        refine r_pure (.bool y6) rfl ?_
        refine r_seq ?_
        refine st_seq ?_
        refine st_region ?_
        refine r_pure (.int .i64 y5) rfl ?_
        refine r_pure (.int .i64 (w64 (0 - y5))) rfl ?_
        refine r_pure (.int .i64 (w64 (0 - y5))) rfl ?_
        refine r_pure (.bool true) rfl ?_
        refine r_seq ?_
        obtain ⟨rfl, rfl⟩ := some_inj2 hm
        refine st_ret2 rfl rfl (Nat.le_of_ble_eq_true rfl) (Nat.le_of_ble_eq_true rfl) rfl rfl ?_
        exact ⟨rfl, H11⟩
      · refine st_condf hb4 rfl ?_
        refine st_skip ?_
        refine n_sq ?_
        refine st_seq ?_
        refine st_region ?_
        refine r_pure (.int .i64 n_) rfl ?_
        refine r_pure (.int .i64 r_) rfl ?_
        refine r_pure (.int .i64 (w64 (n_ * r_))) rfl ?_
        refine r_pure (.int .i64 (w64 (n_ * r_))) rfl ?_
        refine r_seq ?_
        refine st_seq ?_
        refine st_region ?_
        refine r_pure (.int .i64 (w64 (n_ * r_))) rfl ?_
        refine r_quo (by decide) rfl rfl ?_
        refine r_pure (.int .i64 (w64 (n_ * r_))) rfl ?_
        refine r_rem (by decide) rfl rfl ?_
        refine r_pure (.int .i64 (w64 (Int.tdiv (w64 (n_ * r_)) 1000000))) rfl ?_
        refine r_pure (.int .i64 (Int.tmod (w64 (n_ * r_)) 1000000)) rfl ?_
        refine r_seq ?_
        refine st_cut (fun ρ w => ∃ v12 : Int, (∃ base, ρ = updl base [(9, .int .i64 v12)]) ∧ Hp w0 (Γ) w ∧ scutageref01_Of.j2 v12 = some (r0_, r1_)) ?_ ?_
        · refine st_seq ?_
          refine st_region ?_
          refine r_pure (.int .i64 (Int.tmod (w64 (n_ * r_)) 1000000)) rfl ?_
          refine r_pure (.int .i64 (w64 (2 * Int.tmod (w64 (n_ * r_)) 1000000))) rfl ?_
          refine r_pure (.bool (decide (w64 (2 * Int.tmod (w64 (n_ * r_)) 1000000) ≥ 1000000))) rfl ?_
          refine r_seq ?_
          rcases ite_some hm with ⟨hb14, hm⟩ | ⟨hb14, hm⟩
          · refine st_condt hb14 rfl ?_
            refine st_region ?_
            refine r_pure (.int .i64 (w64 (Int.tdiv (w64 (n_ * r_)) 1000000))) rfl ?_
            refine r_pure (.int .i64 (w64 (w64 (Int.tdiv (w64 (n_ * r_)) 1000000) + 1))) rfl ?_
            refine r_pure (.int .i64 (w64 (w64 (Int.tdiv (w64 (n_ * r_)) 1000000) + 1))) rfl ?_
            refine r_nil ?_
            refine n_cut ⟨w64 (w64 (Int.tdiv (w64 (n_ * r_)) 1000000) + 1), upk (ac rfl an), H2, hm⟩
          · refine st_condf hb14 rfl ?_
            refine st_skip ?_
            refine n_cut ⟨w64 (Int.tdiv (w64 (n_ * r_)) 1000000), upk (ac rfl an), H2, hm⟩
        · rintro ρ w ⟨v12, ⟨base, rfl⟩, H13, hm⟩
          unfold scutageref01_Of.j2 at hm
          refine st_seq ?_
          refine st_region ?_
          refine r_pure (.int .i64 v12) rfl ?_
          refine r_pure (.int .i64 v12) rfl ?_
          refine r_pure (.bool true) rfl ?_
          refine r_seq ?_
          obtain ⟨rfl, rfl⟩ := some_inj2 hm
          refine st_ret2 rfl rfl (Nat.le_of_ble_eq_true rfl) (Nat.le_of_ble_eq_true rfl) rfl rfl ?_
          exact ⟨rfl, H13⟩

set_option maxHeartbeats 2000000 in
theorem scutageref01_Part_ok {w0 w : World} {Γ : List (World → Prop)} (n_ : Int) (r_ : Int) (r0_ : Int) (H : Hp w0 (Γ) w) (hm : scutageref01_Part n_ r_ = some r0_) : Calls Try.prog 34 #[.int .i64 n_, .int .i64 r_] w (fun e w => e = .returned (.int .i64 r0_) ∧ Hp w0 (Γ) w) := by
  unfold scutageref01_Part at hm
  refine st_enter Try.func34 rfl Try.ntmps34 (Nat.le_of_ble_eq_true rfl) ?_
  refine st_seq ?_
  refine st_region ?_
  refine r_pure (.int .i64 0) rfl ?_
  refine r_seq ?_
  refine st_seq ?_
  refine st_region ?_
  refine r_pure (.int .i64 n_) rfl ?_
  refine r_pure (.int .i64 r_) rfl ?_
  obtain ⟨⟨y1, y2⟩, hy3, hm⟩ := bind_some hm
  refine r_callf Try.call46 (scutageref01_Of_ok n_ r_ y1 y2 H hy3) ?_
  rintro e5 wd4 ⟨rfl, H7⟩
  refine ⟨_, rfl, ?_⟩
  refine r_pure (.tuple #[.int .i64 y1, .bool y2]) rfl ?_
  refine r_pure (.int .i64 y1) rfl ?_
  refine r_pure (.bool y2) rfl ?_
  refine r_pure (.int .i64 y1) rfl ?_
  refine r_pure (.bool y2) rfl ?_
  refine r_seq ?_
  refine st_seq ?_
  refine st_region ?_
  refine r_pure (.int .i64 y1) rfl ?_
  refine r_pure (.int .i64 y1) rfl ?_
  refine r_seq ?_
  have hq_ := Option.some.inj hm
  subst hq_
  refine st_ret1 rfl rfl (Nat.le_of_ble_eq_true rfl) rfl ?_
  exact ⟨rfl, H7⟩

set_option maxHeartbeats 2000000 in
theorem scutageref09_Share_ok {w0 w : World} {Γ : List (World → Prop)} (n_ : Int) (r_ : Int) (r0_ : Int) (r1_ : Int) (H : Hp w0 (Γ) w) (hm : scutageref09_Share n_ r_ = some (r0_, r1_)) : Calls Try.prog 29 #[.int .i64 n_, .int .i64 r_] w (fun e w => e = .returned (.tuple #[.int .i64 r0_, .int .i64 r1_]) ∧ Hp w0 (Γ) w) := by
  unfold scutageref09_Share at hm
  refine st_enter Try.func29 rfl Try.ntmps29 (Nat.le_of_ble_eq_true rfl) ?_
  refine st_seq ?_
  refine st_region ?_
  refine r_pure (.int .i64 0) rfl ?_
  refine r_pure (.int .i64 0) rfl ?_
  refine r_seq ?_
  refine st_seq ?_
  refine st_cut (fun ρ w => ∃ q1 : Bool, (∃ base, ρ = updl base [(0, .int .i64 n_), (1, .int .i64 r_), (16, .bool q1)]) ∧ Hp w0 (Γ) w ∧ scutageref09_Share.j1 n_ r_ q1 = some (r0_, r1_)) ?_ ?_
  · refine st_region ?_
    refine r_pure (.int .i64 n_) rfl ?_
    refine r_pure (.bool (decide (n_ < 0))) rfl ?_
    refine r_pure (.bool (decide (n_ < 0))) rfl ?_
    rcases ite_some hm with ⟨hb10, hm⟩ | ⟨hb10, hm⟩
    · refine r_not (wn_f rfl rfl (by decide) rfl hb10) ?_
      refine r_not (wn_f rfl rfl (by decide) rfl hb10) ?_
      refine r_pick_t (.bool true) hb10 rfl rfl ?_
      refine r_pure (.bool true) rfl ?_
      refine r_not (wn_f rfl rfl (by decide) rfl rfl) ?_
      refine r_not (wn_f rfl rfl (by decide) rfl rfl) ?_
      refine r_not (wn_f rfl rfl (by decide) rfl rfl) ?_
      refine r_pick_t (.bool true) rfl rfl rfl ?_
      refine r_nil ?_
      refine n_cut ⟨true, upk (ac rfl (ac rfl (ac rfl an))), H, hm⟩
    · refine r_pure (.int .i64 n_) rfl ?_ (wn_t rfl rfl (by decide) rfl hb10)
      refine r_pure (.bool (decide (n_ > 100000000000))) rfl ?_ (wn_t rfl rfl (by decide) rfl hb10)
      refine r_pick_f (.bool (decide (n_ > 100000000000))) hb10 rfl rfl ?_
      refine r_pure (.bool (decide (n_ > 100000000000))) rfl ?_
      rcases ite_some hm with ⟨hb11, hm⟩ | ⟨hb11, hm⟩
      · refine r_not (wn_f rfl rfl (by decide) rfl hb11) ?_
        refine r_not (wn_f rfl rfl (by decide) rfl hb11) ?_
        refine r_not (wn_f rfl rfl (by decide) rfl hb11) ?_
        refine r_pick_t (.bool true) hb11 rfl rfl ?_
        refine r_nil ?_
        refine n_cut ⟨true, upk (ac rfl (ac rfl (ac rfl an))), H, hm⟩
      · refine r_pure (.int .i64 r_) rfl ?_ (wn_t rfl rfl (by decide) rfl hb11)
        obtain ⟨y12, hy13, hm⟩ := bind_some hm
        refine r_callf Try.call33 (scutageref01_Right_ok r_ y12 H hy13) ?_ (wn_t rfl rfl (by decide) rfl hb11)
        rintro e15 wd14 ⟨rfl, H17⟩
        refine ⟨_, rfl, ?_⟩
        refine r_pure (.bool (!y12)) rfl ?_ (wn_t rfl rfl (by decide) rfl hb11)
        refine r_pick_f (.bool (!y12)) hb11 rfl rfl ?_
        refine r_nil ?_
        refine n_cut ⟨!y12, upk (ac rfl (ac rfl (ac rfl an))), H17, hm⟩
  · rintro ρ w ⟨q1, ⟨base, rfl⟩, H2, hm⟩
    unfold scutageref09_Share.j1 at hm
    rcases ite_some hm with ⟨hb3, hm⟩ | ⟨hb3, hm⟩
    · refine st_condt hb3 rfl ?_
      refine st_seq ?_
      refine st_region ?_
      refine r_pure (.int .i64 0) rfl ?_
      refine r_pure (.int .i64 1) rfl ?_
      refine r_seq ?_
      obtain ⟨rfl, rfl⟩ := some_inj2 hm
      refine st_ret2 rfl rfl (Nat.le_of_ble_eq_true rfl) (Nat.le_of_ble_eq_true rfl) rfl rfl ?_
      exact ⟨rfl, H2⟩
    · refine st_condf hb3 rfl ?_
      refine st_skip ?_
      refine n_sq ?_
      refine st_seq ?_
      refine st_region ?_
      refine r_pure (.int .i64 n_) rfl ?_
      refine r_pure (.int .i64 r_) rfl ?_
      obtain ⟨y4, hy5, hm⟩ := bind_some hm
      refine r_callf Try.call34 (scutageref01_Part_ok n_ r_ y4 H2 hy5) ?_
      rintro e7 wd6 ⟨rfl, H9⟩
      refine ⟨_, rfl, ?_⟩
      refine r_pure (.int .i64 y4) rfl ?_
      refine r_pure (.int .i64 0) rfl ?_
      refine r_seq ?_
      obtain ⟨rfl, rfl⟩ := some_inj2 hm
      refine st_ret2 rfl rfl (Nat.le_of_ble_eq_true rfl) (Nat.le_of_ble_eq_true rfl) rfl rfl ?_
      exact ⟨rfl, H9⟩

set_option maxHeartbeats 2000000 in
theorem scutageref19_Asset_ok {w0 w : World} {Γ : List (World → Prop)} (rows : List scutageref19_Pair) (A1 : Option Addr) (n6 c2 : Nat) (hn5 : n6 = rows.length) (hc3 : rows.length ≤ c2) (hv4 : ∀ u, Hp w0 Γ u → SlR K47 A1 rows u) (rates : List Int) (A7 : Option Addr) (n12 c8 : Nat) (hn11 : n12 = rates.length) (hc9 : rates.length ≤ c8) (hv10 : ∀ u, Hp w0 Γ u → SlR K3 A7 rates u) (r0_ : Int) (r1_ : Int) (H : Hp w0 (Γ) w) (hm : scutageref19_Asset rows rates = some (r0_, r1_)) : Calls Try.prog 16 #[.slice A1 n6 c2, .slice A7 n12 c8] w (fun e w => e = .returned (.tuple #[.int .i64 r0_, .int .i64 r1_]) ∧ Hp w0 (Γ) w) := by
  subst hn5
  subst hn11
  unfold scutageref19_Asset at hm
  refine st_enter Try.func16 rfl Try.ntmps16 (Nat.le_of_ble_eq_true rfl) ?_
  refine st_seq ?_
  refine st_region ?_
  refine r_pure (.int .i64 0) rfl ?_
  refine r_pure (.int .i64 0) rfl ?_
  refine r_seq ?_
  refine st_seq ?_
  refine st_seq ?_
  refine st_region ?_
  refine r_pure (.slice A1 rows.length c2) rfl ?_
  refine r_len Try.underlying43 rfl ?_
  refine r_pure (.slice A7 rates.length c8) rfl ?_
  refine r_len Try.underlying41 rfl ?_
  refine r_pure (.bool ((rows.length : Int) != (rates.length : Int))) rfl ?_
  refine r_seq ?_
  rcases ite_some hm with ⟨hb13, hm⟩ | ⟨hb13, hm⟩
  · refine st_condt hb13 rfl ?_
    refine st_seq ?_
    refine st_region ?_
    refine r_pure (.int .i64 0) rfl ?_
    refine r_pure (.int .i64 1) rfl ?_
    refine r_seq ?_
    obtain ⟨rfl, rfl⟩ := some_inj2 hm
    refine st_ret2 rfl rfl (Nat.le_of_ble_eq_true rfl) (Nat.le_of_ble_eq_true rfl) rfl rfl ?_
    exact ⟨rfl, H⟩
  · refine st_condf hb13 rfl ?_
    refine st_skip ?_
    refine n_sq ?_
    refine st_seq ?_
    refine st_region ?_
    refine r_pure (.int .i64 0) rfl ?_
    refine r_seq ?_
    refine st_seq ?_
    refine st_seq ?_
    refine st_region ?_
    refine r_pure (.slice A1 rows.length c2) rfl ?_
    refine r_len Try.underlying43 rfl ?_
    refine r_pure (.int .i64 0) rfl ?_
    refine r_seq ?_
    refine st_block ?_
    have hlim35 := (hv4 _ H).lim
    obtain ⟨tl18, hl19, hm17⟩ := bind_some hm
    refine st_loopL (scutageref19_Asset.l1 rates) (fun ys24 s ρ w => ∃ i20 : Int, ∃ v15 : Int, ∃ dn21 : List scutageref19_Pair, (i20, v15) = s ∧ rows = dn21 ++ ys24 ∧ i20 = (dn21.length : Int) ∧ (∃ base, ρ = updl base [(1, .slice A7 rates.length c8), (6, .int .i64 v15), (16, .slice A1 rows.length c2), (17, .int .i64 (rows.length : Int)), (18, .int .i64 i20)]) ∧ Hp w0 (Γ) w) hl19 ⟨0, 0, [], rfl, rfl, rfl, upk (ac rfl (ac rfl (ac rfl (ac rfl (ac rfl an))))), H⟩ ?_
    rintro m ys24 IH28 s ρ w ⟨i20, v15, dn21, rfl, hxs22, hi23, ⟨base, rfl⟩, H16⟩ hm
    rcases ys24 with _ | ⟨y25, ys24⟩
    · rw [scutageref19_Asset.l1] at hm
      have hb29 := range_end hxs22 hi23
      refine st_seq ?_
      refine st_region ?_
      refine r_pure (.bool (decide (i20 < (rows.length : Int)))) rfl ?_
      refine r_seq ?_
      refine st_seq ?_
      refine st_condf hb29 rfl ?_
      have hq_ := Option.some.inj hm
      refine st_exit rfl ?_
      subst hq_
      refine n_sq ?_
      refine st_seq ?_
      refine st_seq ?_
      refine st_region ?_
      refine r_pure (.int .i64 v15) rfl ?_
      obtain ⟨y36, hy37, hm⟩ := bind_some hm17
      refine r_callf Try.call26 (scutageref01_Money_ok v15 y36 H16 hy37) ?_
      rintro e39 wd38 ⟨rfl, H41⟩
      refine ⟨_, rfl, ?_⟩
      refine r_pure (.bool (!y36)) rfl ?_
      refine r_seq ?_
      rcases ite_some hm with ⟨hb42, hm⟩ | ⟨hb42, hm⟩
      · refine st_condt hb42 rfl ?_
        refine st_seq ?_
        refine st_region ?_
        refine r_pure (.int .i64 0) rfl ?_
        refine r_pure (.int .i64 6) rfl ?_
        refine r_seq ?_
        obtain ⟨rfl, rfl⟩ := some_inj2 hm
        refine st_ret2 rfl rfl (Nat.le_of_ble_eq_true rfl) (Nat.le_of_ble_eq_true rfl) rfl rfl ?_
        exact ⟨rfl, H41⟩
      · refine st_condf hb42 rfl ?_
        refine st_skip ?_
        refine n_sq ?_
        refine st_seq ?_
        refine st_region ?_
        refine r_pure (.int .i64 v15) rfl ?_
        refine r_pure (.int .i64 v15) rfl ?_
        refine r_pure (.int .i64 0) rfl ?_
        refine r_seq ?_
        obtain ⟨rfl, rfl⟩ := some_inj2 hm
        refine st_ret2 rfl rfl (Nat.le_of_ble_eq_true rfl) (Nat.le_of_ble_eq_true rfl) rfl rfl ?_
        exact ⟨rfl, H41⟩
    · rw [scutageref19_Asset.l1] at hm
      have hb30 := range_in hxs22 hi23
      obtain ⟨h031, h132, hj33⟩ := range_ix hxs22 hi23
      have hnx34 := range_next hxs22 hi23 hlim35
      refine st_seq ?_
      refine st_region ?_
      refine r_pure (.bool (decide (i20 < (rows.length : Int)))) rfl ?_
      refine r_seq ?_
      refine st_seq ?_
      refine st_condt hb30 rfl ?_
      refine st_skip ?_
      refine n_sq ?_
      refine st_seq ?_
      refine st_block ?_
      refine st_seq ?_
      refine st_region ?_
      refine r_pure (.int .i64 i20) rfl ?_
      have hA43 := (hv4 _ H16).adO hj33
      refine r_ix IX43 rfl rfl hA43 h031 h132 ?_
      refine r_ldA [.string y25.Seller, .string y25.Buyer, .int .i64 y25.Amount] LD47 rfl rfl ((hv4 _ H16).csA hA43 hj33) ?_
      refine r_alloc [.string ⟨#[]⟩, .string ⟨#[]⟩, .int .i64 0] Try.zeroValue47 H16 rfl ?_
      intro b44 wd46 H45
      refine r_pure (.int .i64 i20) rfl ?_
      refine r_stA [.string y25.Seller, .string y25.Buyer, .int .i64 y25.Amount] LD47 rfl rfl rfl rfl H45 (Nat.le_of_ble_eq_true rfl) rfl ?_
      intro wd48 H47
      refine r_seq ?_
      refine st_seq ?_
      obtain ⟨⟨h050, h151⟩, hm⟩ := gd_some hm
      have hj52 := rd_get h050 h151
      obtain ⟨⟨y54, y55⟩, hy56, hm⟩ := bind_some hm
      refine Flow.run' [[], [0], [], [], [2, 3], [2, 3, 4], [0, 1, 2, 3, 4, 5], [0, 1, 2, 3, 4, 5, 6], [0, 1, 2, 3, 4, 5, 6, 7], [0, 1, 2, 3, 4, 5, 6, 7], [0, 1, 2, 3, 4, 5, 6, 7, 8], [0, 1, 2, 3, 4, 5, 6, 7, 8, 9, 10]] [(24, 0), (25, 1), (26, 2), (27, 3), (28, 4), (29, 5), (30, 6), (23, 7), (31, 8), (32, 9), (9, 10), (10, 11)] [(fun η49 v => v.1 = .pointer (some ⟨b44, 2, none⟩)), (fun η49 v => v.1 = .int .i64 y25.Amount), (fun η49 v => v.1 = .slice A7 rates.length c8), (fun η49 v => v.1 = .int .i64 i20), (fun η49 v => v.1 = .pointer (some ((oA A7).add (Int.toNat i20 * 1)))), (fun η49 v => v.1 = .int .i64 (rd rates i20)), (fun η49 v => v.1 = .tuple #[.int .i64 y54, .int .i64 y55]), (fun η49 v => v.1 = .tuple #[.int .i64 y54, .int .i64 y55]), (fun η49 v => v.1 = .int .i64 y54), (fun η49 v => v.1 = .int .i64 y55), (fun η49 v => v.1 = .int .i64 y54), (fun η49 v => v.1 = .int .i64 y55)] [] rfl (by kernel_rfl) (by kernel_rfl) H47 ⟨?_, ?_, ?_, ?_, ?_, ?_, ?_, ?_, ?_, ?_, ?_, ?_, trivial⟩ ?_
      · intro η49 wd64 Δ65 hE61 hR62 H63
        have H63 : Hp w0 ((Δ65 ++ (Bx b44 47 [.string y25.Seller, .string y25.Buyer, .int .i64 y25.Amount] :: Γ))) wd64 := H63
        refine sp_op [(8, .pointer (some ⟨b44, 0, none⟩))] (ac rfl an) ?_
        refine r_fa FA47_2 ⟨b44, 2, none⟩ rfl rfl ?_
        exact r_nil (n_lp ⟨_, rfl, undef, rfl, H63⟩)
      · intro η49 wd69 Δ70 hE66 hR67 H68
        have H68 : Hp w0 ((Δ70 ++ (Bx b44 47 [.string y25.Seller, .string y25.Buyer, .int .i64 y25.Amount] :: Γ))) wd69 := H68
        refine sp_op [(24, .pointer (some ⟨b44, 2, none⟩))] (ac (hE66 0 (by decide)) an) ?_
        refine r_ld1 (.int .i64 y25.Amount) LD3 rfl (((H68).tl.g0).cell _ rfl) ?_
        exact r_nil (n_lp ⟨_, rfl, undef, rfl, H68⟩)
      · intro η49 wd74 Δ75 hE71 hR72 H73
        have H73 : Hp w0 ((Δ75 ++ (Bx b44 47 [.string y25.Seller, .string y25.Buyer, .int .i64 y25.Amount] :: Γ))) wd74 := H73
        refine sp_op [(1, .slice A7 rates.length c8)] (ac rfl an) ?_
        refine r_pure (.slice A7 rates.length c8) rfl ?_
        exact r_nil (n_lp ⟨_, rfl, undef, rfl, H73⟩)
      · intro η49 wd79 Δ80 hE76 hR77 H78
        have H78 : Hp w0 ((Δ80 ++ (Bx b44 47 [.string y25.Seller, .string y25.Buyer, .int .i64 y25.Amount] :: Γ))) wd79 := H78
        refine sp_op [(7, .int .i64 i20)] (ac rfl an) ?_
        refine r_pure (.int .i64 i20) rfl ?_
        exact r_nil (n_lp ⟨_, rfl, undef, rfl, H78⟩)
      · intro η49 wd84 Δ85 hE81 hR82 H83
        have H83 : Hp w0 ((Δ85 ++ (Bx b44 47 [.string y25.Seller, .string y25.Buyer, .int .i64 y25.Amount] :: Γ))) wd84 := H83
        refine sp_op [(26, .slice A7 rates.length c8), (27, .int .i64 i20)] (ac (hE81 2 (by decide)) (ac (hE81 3 (by decide)) an)) ?_
        have hA89 := (hv10 _ (H83).tl.d).adO hj52
        refine r_ix IX41 rfl rfl hA89 h050 h151 ?_
        exact r_nil (n_lp ⟨_, rfl, undef, rfl, H83⟩)
      · intro η49 wd93 Δ94 hE90 hR91 H92
        have H92 : Hp w0 ((Δ94 ++ (Bx b44 47 [.string y25.Seller, .string y25.Buyer, .int .i64 y25.Amount] :: Γ))) wd93 := H92
        refine sp_op [(28, .pointer (some ((oA A7).add (Int.toNat i20 * 1))))] (ac (hE90 4 (by decide)) an) ?_
        have hA95 := (hv10 _ (H92).tl.d).adO hj52
        refine r_ld1 (.int .i64 (rd rates i20)) LD3 rfl ((hv10 _ (H92).tl.d).c0A hA95 hj52 _ rfl) ?_
        exact r_nil (n_lp ⟨_, rfl, undef, rfl, H92⟩)
      · intro η49 wd99 Δ100 hE96 hR97 H98
        have H98 : Hp w0 ((Δ100 ++ (Bx b44 47 [.string y25.Seller, .string y25.Buyer, .int .i64 y25.Amount] :: Γ))) wd99 := H98
        refine sp_op [(25, .int .i64 y25.Amount), (29, .int .i64 (rd rates i20))] (ac (hE96 1 (by decide)) (ac (hE96 5 (by decide)) an)) ?_
        refine r_callf Try.call29 (scutageref09_Share_ok y25.Amount (rd rates i20) y54 y55 H98 hy56) ?_
        rintro e105 wd104 ⟨rfl, H107⟩
        refine ⟨_, rfl, ?_⟩
        exact r_nil (n_lp ⟨_, rfl, undef, rfl, H107⟩)
      · intro η49 wd111 Δ112 hE108 hR109 H110
        have H110 : Hp w0 ((Δ112 ++ (Bx b44 47 [.string y25.Seller, .string y25.Buyer, .int .i64 y25.Amount] :: Γ))) wd111 := H110
        refine sp_op [(30, .tuple #[.int .i64 y54, .int .i64 y55])] (ac (hE108 6 (by decide)) an) ?_
        refine r_pure (.tuple #[.int .i64 y54, .int .i64 y55]) rfl ?_
        exact r_nil (n_lp ⟨_, rfl, undef, rfl, H110⟩)
      · intro η49 wd116 Δ117 hE113 hR114 H115
        have H115 : Hp w0 ((Δ117 ++ (Bx b44 47 [.string y25.Seller, .string y25.Buyer, .int .i64 y25.Amount] :: Γ))) wd116 := H115
        refine sp_op [(23, .tuple #[.int .i64 y54, .int .i64 y55])] (ac (hE113 7 (by decide)) an) ?_
        refine r_pure (.int .i64 y54) rfl ?_
        exact r_nil (n_lp ⟨_, rfl, undef, rfl, H115⟩)
      · intro η49 wd121 Δ122 hE118 hR119 H120
        have H120 : Hp w0 ((Δ122 ++ (Bx b44 47 [.string y25.Seller, .string y25.Buyer, .int .i64 y25.Amount] :: Γ))) wd121 := H120
        refine sp_op [(23, .tuple #[.int .i64 y54, .int .i64 y55])] (ac (hE118 7 (by decide)) an) ?_
        refine r_pure (.int .i64 y55) rfl ?_
        exact r_nil (n_lp ⟨_, rfl, undef, rfl, H120⟩)
      · intro η49 wd126 Δ127 hE123 hR124 H125
        have H125 : Hp w0 ((Δ127 ++ (Bx b44 47 [.string y25.Seller, .string y25.Buyer, .int .i64 y25.Amount] :: Γ))) wd126 := H125
        refine sp_op [(31, .int .i64 y54)] (ac (hE123 8 (by decide)) an) ?_
        refine r_pure (.int .i64 y54) rfl ?_
        exact r_nil (n_lp ⟨_, rfl, undef, rfl, H125⟩)
      · intro η49 wd131 Δ132 hE128 hR129 H130
        have H130 : Hp w0 ((Δ132 ++ (Bx b44 47 [.string y25.Seller, .string y25.Buyer, .int .i64 y25.Amount] :: Γ))) wd131 := H130
        refine sp_op [(32, .int .i64 y55)] (ac (hE128 9 (by decide)) an) ?_
        refine r_pure (.int .i64 y55) rfl ?_
        exact r_nil (n_lp ⟨_, rfl, undef, rfl, H130⟩)
      · intro η49 wd134 hV135 H133
        have H136 : Hp w0 (Bx b44 47 [.string y25.Seller, .string y25.Buyer, .int .i64 y25.Amount] :: Γ) wd134 := H133
        refine n_frame [(1, .slice A7 rates.length c8), (6, .int .i64 v15), (9, .int .i64 y54), (10, .int .i64 y55), (16, .slice A1 rows.length c2), (17, .int .i64 (rows.length : Int)), (18, .int .i64 i20)] (ac rfl (ac rfl (ac (hV135 10 rfl) (ac (hV135 11 rfl) (ac rfl (ac rfl (ac rfl an))))))) ?_
        refine n_sq ?_
        refine st_seq ?_
        refine st_seq ?_
        refine st_region ?_
        refine r_pure (.int .i64 y55) rfl ?_
        refine r_pure (.bool (y55 != 0)) rfl ?_
        refine r_seq ?_
        rcases ite_some hm with ⟨hb137, hm⟩ | ⟨hb137, hm⟩
        · refine st_condt hb137 rfl ?_
          refine st_seq ?_
          refine st_region ?_
          refine r_pure (.int .i64 y55) rfl ?_
          refine r_pure (.int .i64 0) rfl ?_
          refine r_pure (.int .i64 y55) rfl ?_
          refine r_seq ?_
          have hq_ := Option.some.inj hm
          subst hq_
          obtain ⟨rfl, rfl⟩ := some_inj2 (show some ((0, y55) : (Int × Int)) = some (r0_, r1_) from hm17)
          refine st_ret2 rfl rfl (Nat.le_of_ble_eq_true rfl) (Nat.le_of_ble_eq_true rfl) rfl rfl ?_
          exact ⟨rfl, H136.d⟩
        · refine st_condf hb137 rfl ?_
          refine st_skip ?_
          refine n_sq ?_
          refine st_region ?_
          refine r_pure (.int .i64 v15) rfl ?_
          refine r_pure (.int .i64 y54) rfl ?_
          refine r_pure (.int .i64 (w64 (v15 + y54))) rfl ?_
          refine r_pure (.int .i64 (w64 (v15 + y54))) rfl ?_
          refine r_nil ?_
          refine n_bl ?_
          refine n_sq ?_
          refine st_region ?_
          refine r_pure (.int .i64 (w64 (i20 + 1))) rfl ?_
          refine r_pure (.int .i64 (w64 (i20 + 1))) rfl ?_
          refine r_nil ?_
          refine n_round (IH28 _ _ rfl _ _ _ ⟨i20 + 1, w64 (v15 + y54), dn21 ++ [y25], rfl, range_more hxs22, range_len hi23, upk (ac rfl (ac rfl (ac rfl (ac rfl (ac hnx34 an))))), H136.d⟩ hm)

set_option maxHeartbeats 2000000 in
theorem scutagelaw24_wakes_ok {w0 w : World} {Γ : List (World → Prop)}  (r0_ : Bool) (H : Hp w0 (Γ) w) (hm : scutagelaw24_wakes = some r0_) : Calls Try.prog 10 #[] w (fun e w => e = .returned (.bool r0_) ∧ Hp w0 (Γ) w) := by
  unfold scutagelaw24_wakes at hm
  refine st_enter Try.func10 rfl Try.ntmps10 (Nat.le_of_ble_eq_true rfl) ?_
  refine st_seq ?_
  refine st_region ?_
  refine r_pure (.bool false) rfl ?_
  refine r_seq ?_
  refine st_seq ?_
  refine st_region ?_
  obtain ⟨y1, hy2, hm⟩ := bind_some hm
  refine r_callf Try.call5 (cross_New_ok  y1 H hy2) ?_
  rintro e4 wd3 ⟨b7, A8, n9, c10, rfl, H6⟩
  obtain rfl := (H6.g1).leneq
  refine ⟨_, rfl, ?_⟩
  refine r_pure (.pointer (some ⟨b7, 0, none⟩)) rfl ?_
  refine r_seq ?_
  refine st_seq ?_
  refine st_cut (fun ρ w => ∃ A11 : Option Addr, ∃ n12 : Nat, ∃ c13 : Nat, ∃ xs14 : List cross_Row, ∃ q15 : Bool, (∃ base, ρ = updl base [(1, .pointer (some ⟨b7, 0, none⟩)), (17, .bool q15)]) ∧ Hp w0 (Row K38 (.slice A11 n12 c13) xs14 :: Bx b7 53 [.slice A11 n12 c13] :: Γ) w ∧ scutagelaw24_wakes.j1 xs14 q15 = some r0_) ?_ ?_
  · refine st_region ?_
    refine r_pure (.pointer (some ⟨b7, 0, none⟩)) rfl ?_
    refine r_eqn Try.underlying23 rfl rfl ?_
    refine r_pure (.bool false) rfl ?_
    refine r_pure (.pointer (some ⟨b7, 0, none⟩)) rfl ?_ (wn_t rfl rfl (by decide) rfl rfl)
    obtain ⟨y40, hy41, hm⟩ := bind_some hm
    refine r_callf Try.call8 (cross_Cross_Rows_ok b7 (⟨y1.f_l⟩ : cross_Cross) A8 y1.f_l.length c10 rfl (((H6).g1).cap) (fun _ H => (H.g1.rd)) (fun _ H => (H.g0)) y40 H6 hy41) ?_ (wn_t rfl rfl (by decide) rfl rfl)
    rintro e43 wd42 ⟨A46, n47, c48, rfl, H45⟩
    obtain rfl := (H45.g0).leneq
    refine ⟨_, rfl, ?_⟩
    refine r_len Try.underlying34 rfl ?_ (wn_t rfl rfl (by decide) rfl rfl)
    refine r_pure (.bool ((y40.length : Int) != 0)) rfl ?_ (wn_t rfl rfl (by decide) rfl rfl)
    refine r_pick_f (.bool ((y40.length : Int) != 0)) rfl rfl rfl ?_
    refine r_pure (.bool ((y40.length : Int) != 0)) rfl ?_
    rcases ite_some hm with ⟨hb49, hm⟩ | ⟨hb49, hm⟩
    · refine r_not (wn_f rfl rfl (by decide) rfl hb49) ?_
      refine r_not (wn_f rfl rfl (by decide) rfl hb49) ?_
      refine r_not (wn_f rfl rfl (by decide) rfl hb49) ?_
      refine r_pick_t (.bool true) hb49 rfl rfl ?_
      refine r_nil ?_
      refine n_cut ⟨A8, y1.f_l.length, c10, y1.f_l, true, upk (ac rfl (ac rfl an)), H45.d.u1, hm⟩
    · refine r_pure (.pointer (some ⟨b7, 0, none⟩)) rfl ?_ (wn_t rfl rfl (by decide) rfl hb49)
      obtain ⟨⟨y50, y51⟩, hy52, hm⟩ := bind_some hm
      refine r_callf Try.call7 (cross_Cross_Add_ok b7 (⟨y1.f_l⟩ : cross_Cross) A8 c10 (⟨#[97]⟩ : ByteArray) (⟨#[98]⟩ : ByteArray) 100 y50 y51 H45.u2.u2 hy52) ?_ (wn_t rfl rfl (by decide) rfl hb49)
      rintro e54 wd53 ⟨A57, n58, c59, rfl, H56⟩
      obtain rfl := (H56.g1).leneq
      refine ⟨_, rfl, ?_⟩
      refine r_pure (.bool (y50 != 0)) rfl ?_ (wn_t rfl rfl (by decide) rfl hb49)
      refine r_pick_f (.bool (y50 != 0)) hb49 rfl rfl ?_
      refine r_nil ?_
      refine n_cut ⟨A57, y51.f_l.length, c59, y51.f_l, y50 != 0, upk (ac rfl (ac rfl an)), H56.u2.d.u1, hm⟩
  · rintro ρ w ⟨A11, n12, c13, xs14, q15, ⟨base, rfl⟩, H16, hm⟩
    obtain rfl := (H16.g0).leneq
    unfold scutagelaw24_wakes.j1 at hm
    rcases ite_some hm with ⟨hb17, hm⟩ | ⟨hb17, hm⟩
    · refine st_condt hb17 rfl ?_
      refine st_seq ?_
      refine st_region ?_
      refine r_pure (.bool false) rfl ?_
      refine r_seq ?_
      have hq_ := Option.some.inj hm
      subst hq_
      refine st_ret1 rfl rfl (Nat.le_of_ble_eq_true rfl) rfl ?_
      exact ⟨rfl, H16.d.d⟩
    · refine st_condf hb17 rfl ?_
      refine st_skip ?_
      refine n_sq ?_
      refine st_seq ?_
      refine st_region ?_
      refine r_pure (.pointer (some ⟨b7, 0, none⟩)) rfl ?_
      obtain ⟨y18, hy19, hm⟩ := bind_some hm
      refine r_callf Try.call8 (cross_Cross_Rows_ok b7 (⟨xs14⟩ : cross_Cross) A11 xs14.length c13 rfl (((H16).g0).cap) (fun _ H => (H.g0.rd)) (fun _ H => (H.g1)) y18 H16 hy19) ?_
      rintro e21 wd20 ⟨A24, n25, c26, rfl, H23⟩
      obtain rfl := (H23.g0).leneq
      refine ⟨_, rfl, ?_⟩
      refine r_buildSlice (K := K3) ([250000] : List Int) EL41 rfl rfl rfl (by decide) (by decide) rfl H23 ?_
      intro b27 wd29 H28
      obtain ⟨⟨y30, y31⟩, hy32, hm⟩ := bind_some hm
      refine r_callf Try.call15 (cross_Asset_ok y18 A24 y18.length c26 rfl (((H28).g1).cap) (fun _ H => (H.g1.rd)) ([250000] : List Int) (some ⟨b27, 0, none⟩) 1 1 rfl (((H28).g0).cap) (fun _ H => (H.g0.rd)) y30 y31 H28 hy32) ?_
      rintro e34 wd33 ⟨rfl, H36⟩
      refine ⟨_, rfl, ?_⟩
      refine r_pure (.tuple #[.int .i64 y30, .int .i64 y31]) rfl ?_
      refine r_pure (.int .i64 y30) rfl ?_
      refine r_pure (.int .i64 y31) rfl ?_
      refine r_pure (.int .i64 y30) rfl ?_
      refine r_pure (.int .i64 y31) rfl ?_
      refine r_seq ?_
      refine st_cut (fun ρ w => ∃ q37 : Bool, (∃ base, ρ = updl base [(0, .bool q37)]) ∧ Hp w0 (Γ) w ∧ scutagelaw24_wakes.j2 q37 = some r0_) ?_ ?_
      · refine st_region ?_
        refine r_pure (.int .i64 y31) rfl ?_
        refine r_pure (.bool (y31 == 0)) rfl ?_
        refine r_pure (.bool (y31 == 0)) rfl ?_
        rcases ite_some hm with ⟨hb39, hm⟩ | ⟨hb39, hm⟩
        · refine r_pure (.int .i64 y30) rfl ?_ (wn_t rfl rfl (by decide) rfl hb39)
          refine r_pure (.bool (y30 == 25)) rfl ?_ (wn_t rfl rfl (by decide) rfl hb39)
          refine r_pick_t (.bool (y30 == 25)) hb39 rfl rfl ?_
          refine r_pure (.bool (y30 == 25)) rfl ?_
          refine r_nil ?_
          refine n_cut ⟨y30 == 25, upk (ac rfl an), H36.d.d.d.d, hm⟩
        · refine r_not (wn_f rfl rfl (by decide) rfl hb39) ?_
          refine r_not (wn_f rfl rfl (by decide) rfl hb39) ?_
          refine r_pick_f (.bool false) hb39 rfl rfl ?_
          refine r_pure (.bool false) rfl ?_
          refine r_nil ?_
          refine n_cut ⟨false, upk (ac rfl an), H36.d.d.d.d, hm⟩
      · rintro ρ w ⟨q37, ⟨base, rfl⟩, H38, hm⟩
        unfold scutagelaw24_wakes.j2 at hm
        have hq_ := Option.some.inj hm
        subst hq_
        refine st_ret1 rfl rfl (Nat.le_of_ble_eq_true rfl) rfl ?_
        exact ⟨rfl, H38⟩


end Go.Proofs.Ytfhekejaobmacaa
