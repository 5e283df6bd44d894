/- The Go functions come to their models: printed by gen.py. -/
import Derived.Test.YtfoefkihcnenaaaET
set_option linter.unusedVariables false
set_option linter.unusedSimpArgs false
set_option maxRecDepth 100000
namespace Go.Proofs.Ytfoefkihcnenaaa
open Go Go.RowKit
attribute [local irreducible] W R N L Hp Row SlR Bx

set_option maxHeartbeats 2000000 in
theorem scutagekeep_Within_ok {w0 w : World} {Γ : List (World → Prop)} (v_ : Int) (n_ : Int) (r0_ : Int) (H : Hp w0 (Γ) w) (hm : scutagekeep_Within v_ n_ = some r0_) : Calls Try.prog 6 #[.int .i64 v_, .int .i64 n_] w (fun e w => e = .returned (.int .i64 r0_) ∧ Hp w0 (Γ) w) := by
  unfold scutagekeep_Within at hm
  refine st_enter Try.func6 rfl Try.ntmps6 (Nat.le_of_ble_eq_true rfl) ?_
  refine st_seq ?_
  refine st_region ?_
  refine r_pure (.int .i64 0) rfl ?_
  refine r_seq ?_
  refine st_seq ?_
  refine st_seq ?_
  refine st_region ?_
  refine r_pure (.int .i64 n_) rfl ?_
  refine r_pure (.bool (decide (n_ < 1))) rfl ?_
  refine r_seq ?_
  rcases ite_some hm with ⟨hb1, hm⟩ | ⟨hb1, hm⟩
  · refine st_condt hb1 rfl ?_
    refine st_seq ?_
    refine st_region ?_
    refine r_pure (.int .i64 0) rfl ?_
    refine r_seq ?_
    have hq_ := Option.some.inj hm
    subst hq_
    refine st_ret1 rfl rfl (Nat.le_of_ble_eq_true rfl) rfl ?_
    exact ⟨rfl, H⟩
  · refine st_condf hb1 rfl ?_
    refine st_skip ?_
    refine n_sq ?_
    refine st_seq ?_
    refine st_region ?_
    refine r_pure (.int .i64 v_) rfl ?_
    refine r_pure (.int .i64 n_) rfl ?_
    obtain ⟨h2, hm⟩ := gd_some hm
    refine r_rem h2 rfl rfl ?_
    refine r_pure (.int .i64 (Int.tmod v_ n_)) rfl ?_
    refine r_seq ?_
    refine st_cut (fun ρ w => ∃ v3 : Int, (∃ base, ρ = updl base [(5, .int .i64 v3)]) ∧ Hp w0 (Γ) w ∧ scutagekeep_Within.j1 v3 = some r0_) ?_ ?_
    · refine st_seq ?_
      refine st_region ?_
      refine r_pure (.int .i64 (Int.tmod v_ n_)) rfl ?_
      refine r_pure (.bool (decide (Int.tmod v_ n_ < 0))) rfl ?_
      refine r_seq ?_
      rcases ite_some hm with ⟨hb5, hm⟩ | ⟨hb5, hm⟩
      · refine st_condt hb5 rfl ?_
        refine st_region ?_
        refine r_pure (.int .i64 (Int.tmod v_ n_)) rfl ?_
        refine r_pure (.int .i64 n_) rfl ?_
        refine r_pure (.int .i64 (w64 (Int.tmod v_ n_ + n_))) rfl ?_
        refine r_pure (.int .i64 (w64 (Int.tmod v_ n_ + n_))) rfl ?_
        refine r_nil ?_
        refine n_cut ⟨w64 (Int.tmod v_ n_ + n_), upk (ac rfl an), H, hm⟩
      · refine st_condf hb5 rfl ?_
        refine st_skip ?_
        refine n_cut ⟨Int.tmod v_ n_, upk (ac rfl an), H, hm⟩
    · rintro ρ w ⟨v3, ⟨base, rfl⟩, H4, hm⟩
      unfold scutagekeep_Within.j1 at hm
      refine st_seq ?_
      refine st_region ?_
      refine r_pure (.int .i64 v3) rfl ?_
      refine r_pure (.int .i64 v3) rfl ?_
      refine r_seq ?_
      have hq_ := Option.some.inj hm
      subst hq_
      refine st_ret1 rfl rfl (Nat.le_of_ble_eq_true rfl) rfl ?_
      exact ⟨rfl, H4⟩

set_option maxHeartbeats 2000000 in
theorem scutageplay_Amount_ok {w0 w : World} {Γ : List (World → Prop)} (n_ : Int) (r0_ : Int) (H : Hp w0 (Γ) w) (hm : scutageplay_Amount n_ = some r0_) : Calls Try.prog 23 #[.int .i64 n_] w (fun e w => e = .returned (.int .i64 r0_) ∧ Hp w0 (Γ) w) := by
  unfold scutageplay_Amount at hm
  refine st_enter Try.func23 rfl Try.ntmps23 (Nat.le_of_ble_eq_true rfl) ?_
  refine st_seq ?_
  refine st_region ?_
  refine r_pure (.int .i64 0) rfl ?_
  refine r_seq ?_
  refine st_seq ?_
  refine st_seq ?_
  refine st_region ?_
  refine r_pure (.int .i64 n_) rfl ?_
  refine r_rem (by decide) rfl rfl ?_
  refine r_seq ?_
  refine st_block ?_
  refine st_seq ?_
  refine st_region ?_
  refine r_pure (.bool (Int.tmod n_ 23 == 20)) rfl ?_
  refine r_pure (.bool (Int.tmod n_ 23 == 20)) rfl ?_
  refine r_seq ?_
  rcases ite_some hm with ⟨hb1, hm⟩ | ⟨hb1, hm⟩
  · refine st_condt hb1 rfl ?_
    refine st_seq ?_
    refine st_region ?_
    refine r_pure (.int .i64 n_) rfl ?_
    refine r_quo (by decide) rfl rfl ?_
    obtain ⟨y2, hy3, hm⟩ := bind_some hm
    refine r_callf Try.call6 (scutagekeep_Within_ok (w64 (Int.tdiv n_ 23)) 5 y2 H hy3) ?_
    rintro e6 wd5 ⟨rfl, H4⟩
    refine ⟨_, rfl, ?_⟩
    refine r_pure (.int .i64 (w64 (100000000000 - y2))) rfl ?_
    refine r_pure (.int .i64 (w64 (w64 (100000000000 - y2) + 2))) rfl ?_
    refine r_pure (.int .i64 (w64 (w64 (100000000000 - y2) + 2))) rfl ?_
    refine r_seq ?_
    have hq_ := Option.some.inj hm
    subst hq_
    refine st_ret1 rfl rfl (Nat.le_of_ble_eq_true rfl) rfl ?_
    exact ⟨rfl, H4⟩
  · refine st_condf hb1 rfl ?_
    refine st_seq ?_
    refine st_region ?_
    refine r_pure (.bool (Int.tmod n_ 23 == 21)) rfl ?_
    refine r_pure (.bool (Int.tmod n_ 23 == 21)) rfl ?_
    refine r_seq ?_
    rcases ite_some hm with ⟨hb7, hm⟩ | ⟨hb7, hm⟩
    · refine st_condt hb7 rfl ?_
      refine st_seq ?_
      refine st_region ?_
      refine r_pure (.int .i64 n_) rfl ?_
      refine r_quo (by decide) rfl rfl ?_
      obtain ⟨y8, hy9, hm⟩ := bind_some hm
      refine r_callf Try.call6 (scutagekeep_Within_ok (w64 (Int.tdiv n_ 23)) 5 y8 H hy9) ?_
      rintro e12 wd11 ⟨rfl, H10⟩
      refine ⟨_, rfl, ?_⟩
      refine r_pure (.int .i64 (w64 ((-100000000000) + y8))) rfl ?_
      refine r_pure (.int .i64 (w64 (w64 ((-100000000000) + y8) - 2))) rfl ?_
      refine r_pure (.int .i64 (w64 (w64 ((-100000000000) + y8) - 2))) rfl ?_
      refine r_seq ?_
      have hq_ := Option.some.inj hm
      subst hq_
      refine st_ret1 rfl rfl (Nat.le_of_ble_eq_true rfl) rfl ?_
      exact ⟨rfl, H10⟩
    · refine st_condf hb7 rfl ?_
      refine st_seq ?_
      refine st_region ?_
      refine r_pure (.bool (Int.tmod n_ 23 == 22)) rfl ?_
      refine r_pure (.bool (Int.tmod n_ 23 == 22)) rfl ?_
      refine r_seq ?_
      rcases ite_some hm with ⟨hb13, hm⟩ | ⟨hb13, hm⟩
      · refine st_condt hb13 rfl ?_
        refine st_seq ?_
        refine st_region ?_
        refine r_pure (.int .i64 n_) rfl ?_
        refine r_pure (.int .i64 n_) rfl ?_
        refine r_seq ?_
        have hq_ := Option.some.inj hm
        subst hq_
        refine st_ret1 rfl rfl (Nat.le_of_ble_eq_true rfl) rfl ?_
        exact ⟨rfl, H⟩
      · refine st_condf hb13 rfl ?_
        refine st_seq ?_
        refine st_region ?_
        refine r_pure (.bool (Int.tmod n_ 23 == 19)) rfl ?_
        refine r_pure (.bool (Int.tmod n_ 23 == 19)) rfl ?_
        refine r_seq ?_
        rcases ite_some hm with ⟨hb14, hm⟩ | ⟨hb14, hm⟩
        · refine st_condt hb14 rfl ?_
          refine st_seq ?_
          refine st_region ?_
          refine r_pure (.int .i64 n_) rfl ?_
          refine r_quo (by decide) rfl rfl ?_
          obtain ⟨y15, hy16, hm⟩ := bind_some hm
          refine r_callf Try.call6 (scutagekeep_Within_ok (w64 (Int.tdiv n_ 23)) 200000000001 y15 H hy16) ?_
          rintro e19 wd18 ⟨rfl, H17⟩
          refine ⟨_, rfl, ?_⟩
          refine r_pure (.int .i64 (w64 (y15 - 100000000000))) rfl ?_
          refine r_pure (.int .i64 (w64 (y15 - 100000000000))) rfl ?_
          refine r_seq ?_
          have hq_ := Option.some.inj hm
          subst hq_
          refine st_ret1 rfl rfl (Nat.le_of_ble_eq_true rfl) rfl ?_
          exact ⟨rfl, H17⟩
        · refine st_condf hb14 rfl ?_
          refine st_skip ?_
          refine n_bl ?_
          refine n_sq ?_
          refine st_seq ?_
          refine st_region ?_
          refine r_pure (.int .i64 n_) rfl ?_
          obtain ⟨y20, hy21, hm⟩ := bind_some hm
          refine r_callf Try.call6 (scutagekeep_Within_ok n_ 4001 y20 H hy21) ?_
          rintro e24 wd23 ⟨rfl, H22⟩
          refine ⟨_, rfl, ?_⟩
          refine r_pure (.int .i64 (w64 (y20 - 2000))) rfl ?_
          refine r_pure (.int .i64 (w64 (y20 - 2000))) rfl ?_
          refine r_seq ?_
          have hq_ := Option.some.inj hm
          subst hq_
          refine st_ret1 rfl rfl (Nat.le_of_ble_eq_true rfl) rfl ?_
          exact ⟨rfl, H22⟩

set_option maxHeartbeats 2000000 in
theorem scutagelaw25_items_ok {w0 w : World} {Γ : List (World → Prop)} (kinds : List Int) (A1 : Option Addr) (n6 c2 : Nat) (hn5 : n6 = kinds.length) (hc3 : kinds.length ≤ c2) (hv4 : ∀ u, Hp w0 Γ u → SlR K3 A1 kinds u) (amounts : List Int) (A7 : Option Addr) (n12 c8 : Nat) (hn11 : n12 = amounts.length) (hc9 : amounts.length ≤ c8) (hv10 : ∀ u, Hp w0 Γ u → SlR K3 A7 amounts u) (most : Int) (r0_ : List api_Item) (H : Hp w0 (Γ) w) (hm : scutagelaw25_items kinds amounts most = some r0_) : Calls Try.prog 10 #[.slice A1 n6 c2, .slice A7 n12 c8, .int .i64 most] w (fun e w => ∃ (Ax1 : Option Addr) (nx2 cx3 : Nat), e = .returned (.slice Ax1 nx2 cx3) ∧ Hp w0 (Row K24 (.slice Ax1 nx2 cx3) r0_ :: Γ) w) := by
  subst hn5
  subst hn11
  unfold scutagelaw25_items at hm
  refine st_enter Try.func10 rfl Try.ntmps10 (Nat.le_of_ble_eq_true rfl) ?_
  refine st_seq ?_
  refine st_region ?_
  refine r_pure (.slice none 0 0) rfl ?_
  refine r_seq ?_
  refine st_seq ?_
  refine st_region ?_
  refine r_pure (.slice none 0 0) rfl ?_
  refine r_seq ?_
  refine st_seq ?_
  refine st_seq ?_
  refine st_region ?_
  refine r_pure (.int .i64 0) rfl ?_
  refine r_seq ?_
  refine st_block ?_
  have H19 := H.add (A := Row K24 (.slice none 0 0) []) Row.nil
  obtain ⟨tl27, hl28, hm26⟩ := bind_some hm
  refine st_loopF (scutagelaw25_items.l1 kinds amounts most) (fun s ρ w => ∃ xs23 : List api_Item, ∃ v24 : Int, ∃ A20 : Option Addr, ∃ n21 : Nat, ∃ c22 : Nat, (xs23, v24) = s ∧ (∃ base, ρ = updl base [(0, .slice A1 kinds.length c2), (1, .slice A7 amounts.length c8), (2, .int .i64 most), (7, .slice A20 n21 c22), (8, .int .i64 v24)]) ∧ Hp w0 (Row K24 (.slice A20 n21 c22) xs23 :: Γ) w) hl28 (fun _ => rfl) ⟨([] : List api_Item), 0, none, 0, 0, rfl, upk (ac rfl (ac rfl (ac rfl (ac rfl (ac rfl an))))), H19⟩ ?_
  rintro fuel34 IH36 s ρ w ⟨xs23, v24, A20, n21, c22, rfl, ⟨base, rfl⟩, H25⟩ hm
  obtain rfl := (H25.g0).leneq
  rw [scutagelaw25_items.l1] at hm
  refine st_seq ?_
  refine st_cut (fun ρ w => ∃ q37 : Bool, (∃ base, ρ = updl base [(0, .slice A1 kinds.length c2), (1, .slice A7 amounts.length c8), (2, .int .i64 most), (7, .slice A20 xs23.length c22), (8, .int .i64 v24), (23, .bool q37)]) ∧ Hp w0 (Row K24 (.slice A20 xs23.length c22) xs23 :: Γ) w ∧ scutagelaw25_items.j1 v24 kinds amounts xs23 (scutagelaw25_items.l1 kinds amounts most fuel34) q37 = some tl27) ?_ ?_
  · refine st_region ?_
    refine r_pure (.int .i64 v24) rfl ?_
    refine r_pure (.slice A1 kinds.length c2) rfl ?_
    refine r_len Try.underlying34 rfl ?_
    refine r_pure (.bool (decide (v24 < (kinds.length : Int)))) rfl ?_
    refine r_pure (.bool (decide (v24 < (kinds.length : Int)))) rfl ?_
    rcases ite_some hm with ⟨hb174, hm⟩ | ⟨hb174, hm⟩
    · refine r_pure (.int .i64 v24) rfl ?_ (wn_t rfl rfl (by decide) rfl hb174)
      refine r_pure (.slice A7 amounts.length c8) rfl ?_ (wn_t rfl rfl (by decide) rfl hb174)
      refine r_len Try.underlying34 rfl ?_ (wn_t rfl rfl (by decide) rfl hb174)
      refine r_pure (.bool (decide (v24 < (amounts.length : Int)))) rfl ?_ (wn_t rfl rfl (by decide) rfl hb174)
      refine r_pick_t (.bool (decide (v24 < (amounts.length : Int)))) hb174 rfl rfl ?_
      refine r_pure (.bool (decide (v24 < (amounts.length : Int)))) rfl ?_
      rcases ite_some hm with ⟨hb175, hm⟩ | ⟨hb175, hm⟩
      · refine r_pure (.int .i64 v24) rfl ?_ (wn_t rfl rfl (by decide) rfl hb175)
        refine r_pure (.int .i64 most) rfl ?_ (wn_t rfl rfl (by decide) rfl hb175)
        refine r_pure (.bool (decide (v24 < most))) rfl ?_ (wn_t rfl rfl (by decide) rfl hb175)
        refine r_pick_t (.bool (decide (v24 < most))) hb175 rfl rfl ?_
        refine r_nil ?_
        refine n_cut ⟨decide (v24 < most), upk (ac rfl (ac rfl (ac rfl (ac rfl (ac rfl (ac rfl an)))))), H25, hm⟩
      · refine r_not (wn_f rfl rfl (by decide) rfl hb175) ?_
        refine r_not (wn_f rfl rfl (by decide) rfl hb175) ?_
        refine r_not (wn_f rfl rfl (by decide) rfl hb175) ?_
        refine r_pick_f (.bool false) hb175 rfl rfl ?_
        refine r_nil ?_
        refine n_cut ⟨false, upk (ac rfl (ac rfl (ac rfl (ac rfl (ac rfl (ac rfl an)))))), H25, hm⟩
    · refine r_not (wn_f rfl rfl (by decide) rfl hb174) ?_
      refine r_not (wn_f rfl rfl (by decide) rfl hb174) ?_
      refine r_not (wn_f rfl rfl (by decide) rfl hb174) ?_
      refine r_not (wn_f rfl rfl (by decide) rfl hb174) ?_
      refine r_pick_f (.bool false) hb174 rfl rfl ?_
      refine r_pure (.bool false) rfl ?_
      refine r_not (wn_f rfl rfl (by decide) rfl rfl) ?_
      refine r_not (wn_f rfl rfl (by decide) rfl rfl) ?_
      refine r_not (wn_f rfl rfl (by decide) rfl rfl) ?_
      refine r_pick_f (.bool false) rfl rfl rfl ?_
      refine r_nil ?_
      refine n_cut ⟨false, upk (ac rfl (ac rfl (ac rfl (ac rfl (ac rfl (ac rfl an)))))), H25, hm⟩
  · rintro ρ w ⟨q37, ⟨base, rfl⟩, H38, hm⟩
    unfold scutagelaw25_items.j1 at hm
    rcases ite_some hm with ⟨hb39, hm⟩ | ⟨hb39, hm⟩
    · refine st_condt hb39 rfl ?_
      refine st_skip ?_
      refine n_sq ?_
      refine st_seq ?_
      refine st_block ?_
      obtain ⟨⟨h041, h142⟩, hm⟩ := gd_some hm
      have hj43 := rd_get h041 h142
      obtain ⟨y45, hy46, hm⟩ := bind_some hm
      obtain ⟨⟨h050, h151⟩, hm⟩ := gd_some hm
      have hj52 := rd_get h050 h151
      obtain ⟨y54, hy55, hm⟩ := bind_some hm
      obtain ⟨hf62, hm⟩ := gd_some hm
      refine Flow.run' [[], [], [], [1, 2], [1, 2, 3], [1, 2, 3, 4], [], [], [6, 7], [6, 7, 8], [1, 2, 3, 4, 5, 6, 7, 8, 9], [1, 2, 3, 4, 5, 6, 7, 8, 9, 10], [1, 2, 3, 4, 5, 6, 7, 8, 9, 10, 11], [0, 1, 2, 3, 4, 5, 6, 7, 8, 9, 10, 11, 12], [0, 1, 2, 3, 4, 5, 6, 7, 8, 9, 10, 11, 12, 13]] [(26, 0), (27, 1), (28, 2), (29, 3), (30, 4), (31, 5), (32, 6), (33, 7), (34, 8), (35, 9), (36, 10), (37, 11), (38, 12), (39, 13), (7, 14)] [(fun η40 v => v = .slice A20 xs23.length c22), (fun η40 v => v = .slice A1 kinds.length c2), (fun η40 v => v = .int .i64 v24), (fun η40 v => v = .pointer (some ((oA A1).add (Int.toNat v24 * 1)))), (fun η40 v => v = .int .i64 (rd kinds v24)), (fun η40 v => v = .int .i64 y45), (fun η40 v => v = .slice A7 amounts.length c8), (fun η40 v => v = .int .i64 v24), (fun η40 v => v = .pointer (some ((oA A7).add (Int.toNat v24 * 1)))), (fun η40 v => v = .int .i64 (rd amounts v24)), (fun η40 v => v = .int .i64 y54), (fun η40 v => v = .agg #[.int .i64 y45, .int .i64 y54]), (fun η40 v => v = .slice (some ⟨(oA (vA v)).block, 0, none⟩) 1 1), (fun η40 v => v = .slice (vA v) ((xs23 ++ [(⟨y45, y54⟩ : api_Item)]).length) (vC v)), (fun η40 v => v = .slice (vA (η40 13)) ((xs23 ++ [(⟨y45, y54⟩ : api_Item)]).length) (vC (η40 13)))] [⟨none, (some 13), fun η40 => Row K24 (.slice A20 xs23.length c22) xs23⟩, ⟨(some 12), none, fun η40 => Row K24 (.slice (some ⟨(oA (vA (η40 12))).block, 0, none⟩) 1 1) [(⟨y45, y54⟩ : api_Item)]⟩, ⟨(some 13), none, fun η40 => Row K24 (.slice (vA (η40 13)) ((xs23 ++ [(⟨y45, y54⟩ : api_Item)]).length) (vC (η40 13))) (xs23 ++ [(⟨y45, y54⟩ : api_Item)])⟩] rfl (by kernel_rfl) (by kernel_rfl) H38 ⟨?_, ?_, ?_, ?_, ?_, ?_, ?_, ?_, ?_, ?_, ?_, ?_, ?_, ?_, ?_, trivial⟩ ?_
      · intro η40 wd70 Δ71 hE67 hR68 H69
        have H69 : Hp w0 ((Δ71 ++ Γ)) wd70 := H69
        refine sp_op [(7, .slice A20 xs23.length c22)] (ac rfl an) ?_
        refine r_pure (.slice A20 xs23.length c22) rfl ?_
        exact r_nil (n_lp ⟨_, rfl, rfl, H69⟩)
      · intro η40 wd75 Δ76 hE72 hR73 H74
        have H74 : Hp w0 ((Δ76 ++ Γ)) wd75 := H74
        refine sp_op [(0, .slice A1 kinds.length c2)] (ac rfl an) ?_
        refine r_pure (.slice A1 kinds.length c2) rfl ?_
        exact r_nil (n_lp ⟨_, rfl, rfl, H74⟩)
      · intro η40 wd80 Δ81 hE77 hR78 H79
        have H79 : Hp w0 ((Δ81 ++ Γ)) wd80 := H79
        refine sp_op [(8, .int .i64 v24)] (ac rfl an) ?_
        refine r_pure (.int .i64 v24) rfl ?_
        exact r_nil (n_lp ⟨_, rfl, rfl, H79⟩)
      · intro η40 wd85 Δ86 hE82 hR83 H84
        have H84 : Hp w0 ((Δ86 ++ Γ)) wd85 := H84
        refine sp_op [(27, .slice A1 kinds.length c2), (28, .int .i64 v24)] (ac (hE82 1 (by decide)) (ac (hE82 2 (by decide)) an)) ?_
        have hA90 := (hv4 _ (H84).tl).adO hj43
        refine r_ix IX34 rfl rfl hA90 h041 h142 ?_
        exact r_nil (n_lp ⟨_, rfl, rfl, H84⟩)
      · intro η40 wd94 Δ95 hE91 hR92 H93
        have H93 : Hp w0 ((Δ95 ++ Γ)) wd94 := H93
        refine sp_op [(29, .pointer (some ((oA A1).add (Int.toNat v24 * 1))))] (ac (hE91 3 (by decide)) an) ?_
        have hA96 := (hv4 _ (H93).tl).adO hj43
        refine r_ld1 (.int .i64 (rd kinds v24)) LD3 rfl ((hv4 _ (H93).tl).c0A hA96 hj43 _ rfl) ?_
        exact r_nil (n_lp ⟨_, rfl, rfl, H93⟩)
      · intro η40 wd100 Δ101 hE97 hR98 H99
        have H99 : Hp w0 ((Δ101 ++ Γ)) wd100 := H99
        refine sp_op [(30, .int .i64 (rd kinds v24))] (ac (hE97 4 (by decide)) an) ?_
        refine r_callf Try.call6 (scutagekeep_Within_ok (rd kinds v24) 9 y45 H99 hy46) ?_
        rintro e106 wd105 ⟨rfl, H104⟩
        refine ⟨_, rfl, ?_⟩
        exact r_nil (n_lp ⟨_, rfl, rfl, H104⟩)
      · intro η40 wd110 Δ111 hE107 hR108 H109
        have H109 : Hp w0 ((Δ111 ++ Γ)) wd110 := H109
        refine sp_op [(1, .slice A7 amounts.length c8)] (ac rfl an) ?_
        refine r_pure (.slice A7 amounts.length c8) rfl ?_
        exact r_nil (n_lp ⟨_, rfl, rfl, H109⟩)
      · intro η40 wd115 Δ116 hE112 hR113 H114
        have H114 : Hp w0 ((Δ116 ++ Γ)) wd115 := H114
        refine sp_op [(8, .int .i64 v24)] (ac rfl an) ?_
        refine r_pure (.int .i64 v24) rfl ?_
        exact r_nil (n_lp ⟨_, rfl, rfl, H114⟩)
      · intro η40 wd120 Δ121 hE117 hR118 H119
        have H119 : Hp w0 ((Δ121 ++ Γ)) wd120 := H119
        refine sp_op [(32, .slice A7 amounts.length c8), (33, .int .i64 v24)] (ac (hE117 6 (by decide)) (ac (hE117 7 (by decide)) an)) ?_
        have hA125 := (hv10 _ (H119).tl).adO hj52
        refine r_ix IX34 rfl rfl hA125 h050 h151 ?_
        exact r_nil (n_lp ⟨_, rfl, rfl, H119⟩)
      · intro η40 wd129 Δ130 hE126 hR127 H128
        have H128 : Hp w0 ((Δ130 ++ Γ)) wd129 := H128
        refine sp_op [(34, .pointer (some ((oA A7).add (Int.toNat v24 * 1))))] (ac (hE126 8 (by decide)) an) ?_
        have hA131 := (hv10 _ (H128).tl).adO hj52
        refine r_ld1 (.int .i64 (rd amounts v24)) LD3 rfl ((hv10 _ (H128).tl).c0A hA131 hj52 _ rfl) ?_
        exact r_nil (n_lp ⟨_, rfl, rfl, H128⟩)
      · intro η40 wd135 Δ136 hE132 hR133 H134
        have H134 : Hp w0 ((Δ136 ++ Γ)) wd135 := H134
        refine sp_op [(35, .int .i64 (rd amounts v24))] (ac (hE132 9 (by decide)) an) ?_
        refine r_callf Try.call23 (scutageplay_Amount_ok (rd amounts v24) y54 H134 hy55) ?_
        rintro e141 wd140 ⟨rfl, H139⟩
        refine ⟨_, rfl, ?_⟩
        exact r_nil (n_lp ⟨_, rfl, rfl, H139⟩)
      · intro η40 wd145 Δ146 hE142 hR143 H144
        have H144 : Hp w0 ((Δ146 ++ Γ)) wd145 := H144
        refine sp_op [(31, .int .i64 y45), (36, .int .i64 y54)] (ac (hE142 5 (by decide)) (ac (hE142 10 (by decide)) an)) ?_
        refine r_build [.int .i64 y45, .int .i64 y54] FL24 rfl ?_
        exact r_nil (n_lp ⟨_, rfl, rfl, H144⟩)
      · intro η40 wd150 Δ151 hE147 hR148 H149
        have H149 : Hp w0 ((Δ151 ++ Γ)) wd150 := H149
        refine sp_op [(37, .agg #[.int .i64 y45, .int .i64 y54])] (ac (hE147 11 (by decide)) an) ?_
        refine r_buildSlice (K := K24) [(⟨y45, y54⟩ : api_Item)] EL25 rfl rfl rfl (by decide) (by decide) rfl H149 ?_
        intro b152 wd154 H153
        exact r_nil (n_lp ⟨_, rfl, rfl, H153⟩)
      · intro η40 wd158 Δ159 hE155 hR156 H157
        have H157 : Hp w0 (Row K24 (.slice A20 xs23.length c22) xs23 :: (Δ159 ++ Γ)) wd158 := H157
        refine sp_op [(26, .slice A20 xs23.length c22), (38, .slice (some ⟨(oA (vA (η40 12))).block, 0, none⟩) 1 1)] (ac (hE155 0 (by decide)) (ac (hE155 12 (by decide)) an)) ?_
        refine r_append (K := K24) (ys := [(⟨y45, y54⟩ : api_Item)]) AP25 rfl rfl rfl rfl H157 ((show (Row K24 (.slice (some ⟨(oA (vA (η40 12))).block, 0, none⟩) 1 1) [(⟨y45, y54⟩ : api_Item)]) _ from (H157.d).memr (hR156 _ (List.mem_of_getElem? (i := 1) rfl) rfl)).src) (fit_le hf62 (by decide)) ?_
        intro A161 c162 wd163 H164
        exact r_nil (n_lp ⟨_, rfl, rfl, H164⟩)
      · intro η40 wd168 Δ169 hE165 hR166 H167
        have H167 : Hp w0 ((Δ169 ++ Γ)) wd168 := H167
        refine sp_op [(39, .slice (vA (η40 13)) ((xs23 ++ [(⟨y45, y54⟩ : api_Item)]).length) (vC (η40 13)))] (ac (hE165 13 (by decide)) an) ?_
        refine r_pure (.slice (vA (η40 13)) ((xs23 ++ [(⟨y45, y54⟩ : api_Item)]).length) (vC (η40 13))) rfl ?_
        exact r_nil (n_lp ⟨_, rfl, rfl, H167⟩)
      · intro η40 wd171 hV172 H170
        have H173 : Hp w0 (Row K24 (.slice (some ⟨(oA (vA (η40 12))).block, 0, none⟩) 1 1) [(⟨y45, y54⟩ : api_Item)] :: Row K24 (.slice (vA (η40 13)) ((xs23 ++ [(⟨y45, y54⟩ : api_Item)]).length) (vC (η40 13))) (xs23 ++ [(⟨y45, y54⟩ : api_Item)]) :: Γ) wd171 := H170
        refine n_frame [(0, .slice A1 kinds.length c2), (1, .slice A7 amounts.length c8), (2, .int .i64 most), (7, .slice (vA (η40 13)) ((xs23 ++ [(⟨y45, y54⟩ : api_Item)]).length) (vC (η40 13))), (8, .int .i64 v24)] (ac rfl (ac rfl (ac rfl (ac (hV172 14 rfl) (ac rfl an))))) ?_
        refine n_bl ?_
        refine n_sq ?_
        refine st_region ?_
        refine r_pure (.int .i64 v24) rfl ?_
        refine r_pure (.int .i64 (w64 (v24 + 1))) rfl ?_
        refine r_pure (.int .i64 (w64 (v24 + 1))) rfl ?_
        refine r_nil ?_
        refine n_round (IH36 _ _ _ ⟨xs23 ++ [(⟨y45, y54⟩ : api_Item)], w64 (v24 + 1), (vA (η40 13)), (xs23 ++ [(⟨y45, y54⟩ : api_Item)]).length, (vC (η40 13)), rfl, upk (ac rfl (ac rfl (ac rfl (ac rfl (ac rfl an))))), H173.d⟩ hm)
    · refine st_condf hb39 rfl ?_
      have hq_ := Option.some.inj hm
      refine st_exit rfl ?_
      subst hq_
      refine n_sq ?_
      refine st_seq ?_
      refine st_region ?_
      refine r_pure (.slice A20 xs23.length c22) rfl ?_
      refine r_pure (.slice A20 xs23.length c22) rfl ?_
      refine r_seq ?_
      have hq_ := Option.some.inj hm26
      subst hq_
      refine st_ret1 rfl rfl (Nat.le_of_ble_eq_true rfl) rfl ?_
      exact ⟨A20, xs23.length, c22, rfl, H38⟩

set_option maxHeartbeats 2000000 in
theorem scutagekeep_Copy_api_Item_ok {w0 w : World} {Γ : List (World → Prop)} (l_ : List api_Item) (A1 : Option Addr) (n6 c2 : Nat) (hn5 : n6 = l_.length) (hc3 : l_.length ≤ c2) (hv4 : ∀ u, Hp w0 Γ u → SlR K24 A1 l_ u) (r0_ : List api_Item) (H : Hp w0 (Γ) w) (hm : scutagekeep_Copy_api_Item l_ = some r0_) : Calls Try.prog 11 #[.slice A1 n6 c2] w (fun e w => ∃ (Ax1 : Option Addr) (nx2 cx3 : Nat), e = .returned (.slice Ax1 nx2 cx3) ∧ Hp w0 (Row K24 (.slice Ax1 nx2 cx3) r0_ :: Γ) w) := by
  subst hn5
  unfold scutagekeep_Copy_api_Item at hm
  refine st_enter Try.func11 rfl Try.ntmps11 (Nat.le_of_ble_eq_true rfl) ?_
  refine st_seq ?_
  refine st_region ?_
  refine r_pure (.slice none 0 0) rfl ?_
  refine r_seq ?_
  refine st_seq ?_
  refine st_region ?_
  refine r_pure (.slice A1 l_.length c2) rfl ?_
  obtain ⟨hf8, hm⟩ := gd_some hm
  have H7 := H.add (A := Row K24 (.slice none 0 0) []) Row.nil
  refine r_append (K := K24) (ys := l_) AP25 rfl rfl rfl rfl H7 ((hv4 _ H7.d).src) (fit_le hf8 (by decide)) ?_
  intro A9 c10 wd11 H12
  refine r_pure (.slice A9 ((([] : List api_Item) ++ l_).length) c10) rfl ?_
  refine r_seq ?_
  have hq_ := Option.some.inj hm
  subst hq_
  refine st_ret1 rfl rfl (Nat.le_of_ble_eq_true rfl) rfl ?_
  exact ⟨A9, (([] : List api_Item) ++ l_).length, c10, rfl, H12⟩

set_option maxHeartbeats 2000000 in
theorem fx_near_ok {w0 w : World} {Γ : List (World → Prop)} (n_ : Int) (r0_ : Bool) (H : Hp w0 (Γ) w) (hm : fx_near n_ = some r0_) : Calls Try.prog 15 #[.int .i64 n_] w (fun e w => e = .returned (.bool r0_) ∧ Hp w0 (Γ) w) := by
  unfold fx_near at hm
  refine st_enter Try.func15 rfl Try.ntmps15 (Nat.le_of_ble_eq_true rfl) ?_
  refine st_seq ?_
  refine st_region ?_
  refine r_pure (.bool false) rfl ?_
  refine r_seq ?_
  refine st_cut (fun ρ w => ∃ q1 : Bool, (∃ base, ρ = updl base [(2, .bool q1)]) ∧ Hp w0 (Γ) w ∧ fx_near.j1 q1 = some r0_) ?_ ?_
  · refine st_region ?_
    refine r_pure (.int .i64 n_) rfl ?_
    refine r_pure (.bool (decide (n_ ≥ (-400000000000)))) rfl ?_
    refine r_pure (.bool (decide (n_ ≥ (-400000000000)))) rfl ?_
    rcases ite_some hm with ⟨hb3, hm⟩ | ⟨hb3, hm⟩
    · refine r_pure (.int .i64 n_) rfl ?_ (wn_t rfl rfl (by decide) rfl hb3)
      refine r_pure (.bool (decide (n_ ≤ 400000000000))) rfl ?_ (wn_t rfl rfl (by decide) rfl hb3)
      refine r_pick_t (.bool (decide (n_ ≤ 400000000000))) hb3 rfl rfl ?_
      refine r_pure (.bool (decide (n_ ≤ 400000000000))) rfl ?_
      refine r_nil ?_
      refine n_cut ⟨decide (n_ ≤ 400000000000), upk (ac rfl an), H, hm⟩
    · refine r_not (wn_f rfl rfl (by decide) rfl hb3) ?_
      refine r_not (wn_f rfl rfl (by decide) rfl hb3) ?_
      refine r_pick_f (.bool false) hb3 rfl rfl ?_
      refine r_pure (.bool false) rfl ?_
      refine r_nil ?_
      refine n_cut ⟨false, upk (ac rfl an), H, hm⟩
  · rintro ρ w ⟨q1, ⟨base, rfl⟩, H2, hm⟩
    unfold fx_near.j1 at hm
    have hq_ := Option.some.inj hm
    subst hq_
    refine st_ret1 rfl rfl (Nat.le_of_ble_eq_true rfl) rfl ?_
    exact ⟨rfl, H2⟩

set_option maxHeartbeats 2000000 in
theorem rate_Of_ok {w0 w : World} {Γ : List (World → Prop)} (n_ : Int) (rate_ : Int) (r0_ : Int) (r1_ : Bool) (H : Hp w0 (Γ) w) (hm : rate_Of n_ rate_ = some (r0_, r1_)) : Calls Try.prog 16 #[.int .i64 n_, .int .i64 rate_] w (fun e w => e = .returned (.tuple #[.int .i64 r0_, .bool r1_]) ∧ Hp w0 (Γ) w) := by
  unfold rate_Of at hm
  refine st_enter Try.func16 rfl Try.ntmps16 (Nat.le_of_ble_eq_true rfl) ?_
  refine st_seq ?_
  refine st_region ?_
  refine r_pure (.int .i64 0) rfl ?_
  refine r_pure (.bool false) rfl ?_
  refine r_seq ?_
  refine st_seq ?_
  refine st_cut (fun ρ w => ∃ q1 : Bool, (∃ base, ρ = updl base [(0, .int .i64 n_), (1, .int .i64 rate_), (20, .bool q1)]) ∧ Hp w0 (Γ) w ∧ rate_Of.j1 n_ rate_ q1 = some (r0_, r1_)) ?_ ?_
  · refine st_region ?_
    refine r_pure (.int .i64 n_) rfl ?_
    refine r_pure (.bool (decide (n_ < (-400000000000)))) rfl ?_
    refine r_pure (.bool (decide (n_ < (-400000000000)))) rfl ?_
    rcases ite_some hm with ⟨hb5, hm⟩ | ⟨hb5, hm⟩
    · refine r_not (wn_f rfl rfl (by decide) rfl hb5) ?_
      refine r_not (wn_f rfl rfl (by decide) rfl hb5) ?_
      refine r_pick_t (.bool true) hb5 rfl rfl ?_
      refine r_pure (.bool true) rfl ?_
      refine r_not (wn_f rfl rfl (by decide) rfl rfl) ?_
      refine r_not (wn_f rfl rfl (by decide) rfl rfl) ?_
      refine r_pick_t (.bool true) rfl rfl rfl ?_
      refine r_pure (.bool true) rfl ?_
      refine r_not (wn_f rfl rfl (by decide) rfl rfl) ?_
      refine r_not (wn_f rfl rfl (by decide) rfl rfl) ?_
      refine r_pick_t (.bool true) rfl rfl rfl ?_
      refine r_nil ?_
      refine n_cut ⟨true, upk (ac rfl (ac rfl (ac rfl an))), H, hm⟩
    · refine r_pure (.int .i64 n_) rfl ?_ (wn_t rfl rfl (by decide) rfl hb5)
      refine r_pure (.bool (decide (n_ > 400000000000))) rfl ?_ (wn_t rfl rfl (by decide) rfl hb5)
      refine r_pick_f (.bool (decide (n_ > 400000000000))) hb5 rfl rfl ?_
      refine r_pure (.bool (decide (n_ > 400000000000))) rfl ?_
      rcases ite_some hm with ⟨hb6, hm⟩ | ⟨hb6, hm⟩
      · refine r_not (wn_f rfl rfl (by decide) rfl hb6) ?_
        refine r_not (wn_f rfl rfl (by decide) rfl hb6) ?_
        refine r_pick_t (.bool true) hb6 rfl rfl ?_
        refine r_pure (.bool true) rfl ?_
        refine r_not (wn_f rfl rfl (by decide) rfl rfl) ?_
        refine r_not (wn_f rfl rfl (by decide) rfl rfl) ?_
        refine r_pick_t (.bool true) rfl rfl rfl ?_
        refine r_nil ?_
        refine n_cut ⟨true, upk (ac rfl (ac rfl (ac rfl an))), H, hm⟩
      · refine r_pure (.int .i64 rate_) rfl ?_ (wn_t rfl rfl (by decide) rfl hb6)
        refine r_pure (.bool (decide (rate_ < 0))) rfl ?_ (wn_t rfl rfl (by decide) rfl hb6)
        refine r_pick_f (.bool (decide (rate_ < 0))) hb6 rfl rfl ?_
        refine r_pure (.bool (decide (rate_ < 0))) rfl ?_
        rcases ite_some hm with ⟨hb7, hm⟩ | ⟨hb7, hm⟩
        · refine r_not (wn_f rfl rfl (by decide) rfl hb7) ?_
          refine r_not (wn_f rfl rfl (by decide) rfl hb7) ?_
          refine r_pick_t (.bool true) hb7 rfl rfl ?_
          refine r_nil ?_
          refine n_cut ⟨true, upk (ac rfl (ac rfl (ac rfl an))), H, hm⟩
        · refine r_pure (.int .i64 rate_) rfl ?_ (wn_t rfl rfl (by decide) rfl hb7)
          refine r_pure (.bool (decide (rate_ > 10000000))) rfl ?_ (wn_t rfl rfl (by decide) rfl hb7)
          refine r_pick_f (.bool (decide (rate_ > 10000000))) hb7 rfl rfl ?_
          refine r_nil ?_
          refine n_cut ⟨decide (rate_ > 10000000), upk (ac rfl (ac rfl (ac rfl an))), H, hm⟩
  · rintro ρ w ⟨q1, ⟨base, rfl⟩, H2, hm⟩
    unfold rate_Of.j1 at hm
    rcases ite_some hm with ⟨hb3, hm⟩ | ⟨hb3, hm⟩
    · refine st_condt hb3 rfl ?_
      refine st_seq ?_
      refine st_region ?_
      refine r_pure (.int .i64 0) rfl ?_
      refine r_pure (.bool false) rfl ?_
      refine r_seq ?_
      obtain ⟨rfl, rfl⟩ := some_inj2 hm
      refine st_ret2 rfl rfl (Nat.le_of_ble_eq_true rfl) (Nat.le_of_ble_eq_true rfl) rfl rfl ?_
      exact ⟨rfl, H2⟩
    · refine st_condf hb3 rfl ?_
      refine st_skip ?_
      refine n_sq ?_
      refine st_seq ?_
      refine st_region ?_
      refine r_pure (.int .i64 n_) rfl ?_
      refine r_pure (.int .i64 (w64 (2 * n_))) rfl ?_
      refine r_pure (.int .i64 rate_) rfl ?_
      refine r_pure (.int .i64 (w64 (w64 (2 * n_) * rate_))) rfl ?_
      refine r_pure (.int .i64 (w64 (w64 (2 * n_) * rate_))) rfl ?_
      refine r_seq ?_
      refine st_seq ?_
      refine st_seq ?_
      refine st_region ?_
      refine r_pure (.int .i64 n_) rfl ?_
      refine r_pure (.bool (decide (n_ < 0))) rfl ?_
      refine r_seq ?_
      rcases ite_some hm with ⟨hb4, hm⟩ | ⟨hb4, hm⟩
      · refine st_condt hb4 rfl ?_
        refine st_seq ?_
        refine st_region ?_
        refine r_pure (.int .i64 (w64 (w64 (2 * n_) * rate_))) rfl ?_
        refine r_pure (.int .i64 (w64 (w64 (w64 (2 * n_) * rate_) - 1000000))) rfl ?_
        refine r_quo (by decide) rfl rfl ?_
        refine r_pure (.int .i64 (w64 (Int.tdiv (w64 (w64 (w64 (2 * n_) * rate_) - 1000000)) 2000000))) rfl ?_
        refine r_pure (.bool true) rfl ?_
        refine r_seq ?_
        obtain ⟨rfl, rfl⟩ := some_inj2 hm
        refine st_ret2 rfl rfl (Nat.le_of_ble_eq_true rfl) (Nat.le_of_ble_eq_true rfl) rfl rfl ?_
        exact ⟨rfl, H2⟩
      · refine st_condf hb4 rfl ?_
        refine st_skip ?_
        refine n_sq ?_
        refine st_seq ?_
        refine st_region ?_
        refine r_pure (.int .i64 (w64 (w64 (2 * n_) * rate_))) rfl ?_
        refine r_pure (.int .i64 (w64 (w64 (w64 (2 * n_) * rate_) + 1000000))) rfl ?_
        refine r_quo (by decide) rfl rfl ?_
        refine r_pure (.int .i64 (w64 (Int.tdiv (w64 (w64 (w64 (2 * n_) * rate_) + 1000000)) 2000000))) rfl ?_
        refine r_pure (.bool true) rfl ?_
        refine r_seq ?_
        obtain ⟨rfl, rfl⟩ := some_inj2 hm
        refine st_ret2 rfl rfl (Nat.le_of_ble_eq_true rfl) (Nat.le_of_ble_eq_true rfl) rfl rfl ?_
        exact ⟨rfl, H2⟩

set_option maxHeartbeats 2000000 in
theorem fx_Convert_ok {w0 w : World} {Γ : List (World → Prop)} (items : List api_Item) (A1 : Option Addr) (n6 c2 : Nat) (hn5 : n6 = items.length) (hc3 : items.length ≤ c2) (hv4 : ∀ u, Hp w0 Γ u → SlR K24 A1 items u) (fx : Int) (r0_ : List api_Item) (r1_ : Int) (r2_ : Int) (H : Hp w0 (Γ) w) (hm : fx_Convert items fx = some (r0_, r1_, r2_)) : Calls Try.prog 7 #[.slice A1 n6 c2, .int .i64 fx] w (fun e w => ∃ (Ax1 : Option Addr) (nx2 cx3 : Nat), e = .returned (.tuple #[.slice Ax1 nx2 cx3, .int .i64 r1_, .int .i64 r2_]) ∧ Hp w0 (Row K24 (.slice Ax1 nx2 cx3) r0_ :: Γ) w) := by
  subst hn5
  unfold fx_Convert at hm
  refine st_enter Try.func7 rfl Try.ntmps7 (Nat.le_of_ble_eq_true rfl) ?_
  refine st_seq ?_
  refine st_region ?_
  refine r_pure (.slice none 0 0) rfl ?_
  refine r_pure (.int .i64 0) rfl ?_
  refine r_pure (.int .i64 0) rfl ?_
  refine r_seq ?_
  refine st_seq ?_
  refine st_cut (fun ρ w => ∃ q7 : Bool, (∃ base, ρ = updl base [(0, .slice A1 items.length c2), (1, .int .i64 fx), (26, .bool q7)]) ∧ Hp w0 (Γ) w ∧ fx_Convert.j1 fx items q7 = some (r0_, r1_, r2_)) ?_ ?_
  · refine st_region ?_
    refine r_pure (.int .i64 fx) rfl ?_
    refine r_pure (.bool (decide (fx < 1))) rfl ?_
    refine r_pure (.bool (decide (fx < 1))) rfl ?_
    rcases ite_some hm with ⟨hb80, hm⟩ | ⟨hb80, hm⟩
    · refine r_not (wn_f rfl rfl (by decide) rfl hb80) ?_
      refine r_not (wn_f rfl rfl (by decide) rfl hb80) ?_
      refine r_pick_t (.bool true) hb80 rfl rfl ?_
      refine r_pure (.bool true) rfl ?_
      refine r_not (wn_f rfl rfl (by decide) rfl rfl) ?_
      refine r_not (wn_f rfl rfl (by decide) rfl rfl) ?_
      refine r_not (wn_f rfl rfl (by decide) rfl rfl) ?_
      refine r_pick_t (.bool true) rfl rfl rfl ?_
      refine r_nil ?_
      refine n_cut ⟨true, upk (ac rfl (ac rfl (ac rfl an))), H, hm⟩
    · refine r_pure (.int .i64 fx) rfl ?_ (wn_t rfl rfl (by decide) rfl hb80)
      refine r_pure (.bool (decide (fx > 10000000))) rfl ?_ (wn_t rfl rfl (by decide) rfl hb80)
      refine r_pick_f (.bool (decide (fx > 10000000))) hb80 rfl rfl ?_
      refine r_pure (.bool (decide (fx > 10000000))) rfl ?_
      rcases ite_some hm with ⟨hb81, hm⟩ | ⟨hb81, hm⟩
      · refine r_not (wn_f rfl rfl (by decide) rfl hb81) ?_
        refine r_not (wn_f rfl rfl (by decide) rfl hb81) ?_
        refine r_not (wn_f rfl rfl (by decide) rfl hb81) ?_
        refine r_pick_t (.bool true) hb81 rfl rfl ?_
        refine r_nil ?_
        refine n_cut ⟨true, upk (ac rfl (ac rfl (ac rfl an))), H, hm⟩
      · refine r_pure (.slice A1 items.length c2) rfl ?_ (wn_t rfl rfl (by decide) rfl hb81)
        refine r_len Try.underlying25 rfl ?_ (wn_t rfl rfl (by decide) rfl hb81)
        refine r_pure (.bool (decide ((items.length : Int) > 20))) rfl ?_ (wn_t rfl rfl (by decide) rfl hb81)
        refine r_pick_f (.bool (decide ((items.length : Int) > 20))) hb81 rfl rfl ?_
        refine r_nil ?_
        refine n_cut ⟨decide ((items.length : Int) > 20), upk (ac rfl (ac rfl (ac rfl an))), H, hm⟩
  · rintro ρ w ⟨q7, ⟨base, rfl⟩, H8, hm⟩
    unfold fx_Convert.j1 at hm
    rcases ite_some hm with ⟨hb9, hm⟩ | ⟨hb9, hm⟩
    · refine st_condt hb9 rfl ?_
      refine st_seq ?_
      refine st_region ?_
      refine r_pure (.slice none 0 0) rfl ?_
      refine r_pure (.int .i64 0) rfl ?_
      refine r_pure (.int .i64 1) rfl ?_
      refine r_seq ?_
      have H10 := H8.add (A := Row K24 (.slice none 0 0) []) Row.nil
      obtain ⟨rfl, rfl, rfl⟩ := some_inj3 hm
      refine st_ret3 rfl rfl (Nat.le_of_ble_eq_true rfl) (Nat.le_of_ble_eq_true rfl) (Nat.le_of_ble_eq_true rfl) rfl rfl rfl ?_
      exact ⟨none, 0, 0, rfl, H10⟩
    · refine st_condf hb9 rfl ?_
      refine st_skip ?_
      refine n_sq ?_
      refine st_seq ?_
      refine st_region ?_
      refine r_pure (.int .i64 0) rfl ?_
      refine r_pure (.int .i64 0) rfl ?_
      refine r_seq ?_
      refine st_seq ?_
      refine st_region ?_
      refine r_pure (.slice none 0 0) rfl ?_
      refine r_seq ?_
      refine st_seq ?_
      refine st_seq ?_
      refine st_region ?_
      refine r_pure (.slice A1 items.length c2) rfl ?_
      refine r_len Try.underlying25 rfl ?_
      refine r_pure (.int .i64 0) rfl ?_
      refine r_seq ?_
      refine st_block ?_
      have H20 := H8.add (A := Row K24 (.slice none 0 0) []) Row.nil
      have hlim44 := (hv4 _ H20.d).lim
      obtain ⟨tl27, hl28, hm26⟩ := bind_some hm
      refine st_loopL (fx_Convert.l1 fx) (fun ys33 s ρ w => ∃ i29 : Int, ∃ v18 : Int, ∃ v19 : Int, ∃ xs24 : List api_Item, ∃ dn30 : List api_Item, ∃ A21 : Option Addr, ∃ n22 : Nat, ∃ c23 : Nat, (i29, v18, v19, xs24) = s ∧ items = dn30 ++ ys33 ∧ i29 = (dn30.length : Int) ∧ (∃ base, ρ = updl base [(1, .int .i64 fx), (7, .int .i64 v18), (8, .int .i64 v19), (9, .slice A21 n22 c23), (27, .slice A1 items.length c2), (28, .int .i64 (items.length : Int)), (29, .int .i64 i29)]) ∧ Hp w0 (Row K24 (.slice A21 n22 c23) xs24 :: Γ) w) hl28 ⟨0, 0, 0, ([] : List api_Item), [], none, 0, 0, rfl, rfl, rfl, upk (ac rfl (ac rfl (ac rfl (ac rfl (ac rfl (ac rfl (ac rfl an))))))), H20⟩ ?_
      rintro m ys33 IH37 s ρ w ⟨i29, v18, v19, xs24, dn30, A21, n22, c23, rfl, hxs31, hi32, ⟨base, rfl⟩, H25⟩ hm
      obtain rfl := (H25.g0).leneq
      rcases ys33 with _ | ⟨y34, ys33⟩
      · rw [fx_Convert.l1] at hm
        have hb38 := range_end hxs31 hi32
        refine st_seq ?_
        refine st_region ?_
        refine r_pure (.bool (decide (i29 < (items.length : Int)))) rfl ?_
        refine r_seq ?_
        refine st_seq ?_
        refine st_condf hb38 rfl ?_
        have hq_ := Option.some.inj hm
        refine st_exit rfl ?_
        subst hq_
        refine n_sq ?_
        refine st_seq ?_
        refine st_region ?_
        refine r_pure (.int .i64 v18) rfl ?_
        refine r_pure (.int .i64 fx) rfl ?_
        obtain ⟨⟨y45, y46⟩, hy47, hm⟩ := bind_some hm26
        refine r_callf Try.call16 (rate_Of_ok v18 fx y45 y46 H25 hy47) ?_
        rintro e50 wd49 ⟨rfl, H48⟩
        refine ⟨_, rfl, ?_⟩
        refine r_pure (.tuple #[.int .i64 y45, .bool y46]) rfl ?_
        refine r_pure (.int .i64 y45) rfl ?_
        refine r_pure (.bool y46) rfl ?_
        refine r_pure (.int .i64 y45) rfl ?_
        refine r_pure (.bool y46) rfl ?_
        refine r_seq ?_
        refine st_seq ?_
        refine st_seq ?_
        refine st_region ?_
        refine r_pure (.bool y46) rfl ?_
        refine r_pure (.bool (!y46)) rfl ?_
        refine r_seq ?_
        rcases ite_some hm with ⟨hb51, hm⟩ | ⟨hb51, hm⟩
        · refine st_condt hb51 rfl ?_
          refine st_seq ?_
          refine st_region ?_
          refine r_pure (.slice none 0 0) rfl ?_
          refine r_pure (.int .i64 0) rfl ?_
          refine r_pure (.int .i64 1) rfl ?_
          refine r_seq ?_
          have H52 := H48.add (A := Row K24 (.slice none 0 0) []) Row.nil
          obtain ⟨rfl, rfl, rfl⟩ := some_inj3 hm
          refine st_ret3 rfl rfl (Nat.le_of_ble_eq_true rfl) (Nat.le_of_ble_eq_true rfl) (Nat.le_of_ble_eq_true rfl) rfl rfl rfl ?_
          exact ⟨none, 0, 0, rfl, H52.u1.d⟩
        · refine st_condf hb51 rfl ?_
          refine st_skip ?_
          refine n_sq ?_
          refine st_seq ?_
          refine st_region ?_
          refine r_pure (.slice A21 xs24.length c23) rfl ?_
          refine r_pure (.int .i64 y45) rfl ?_
          refine r_pure (.int .i64 v19) rfl ?_
          refine r_pure (.int .i64 (w64 (y45 - v19))) rfl ?_
          refine r_pure (.slice A21 xs24.length c23) rfl ?_
          refine r_pure (.int .i64 (w64 (y45 - v19))) rfl ?_
          refine r_pure (.int .i64 0) rfl ?_
          refine r_seq ?_
          obtain ⟨rfl, rfl, rfl⟩ := some_inj3 hm
          refine st_ret3 rfl rfl (Nat.le_of_ble_eq_true rfl) (Nat.le_of_ble_eq_true rfl) (Nat.le_of_ble_eq_true rfl) rfl rfl rfl ?_
          exact ⟨A21, xs24.length, c23, rfl, H48⟩
      · rw [fx_Convert.l1] at hm
        have hb39 := range_in hxs31 hi32
        obtain ⟨h040, h141, hj42⟩ := range_ix hxs31 hi32
        have hnx43 := range_next hxs31 hi32 hlim44
        refine st_seq ?_
        refine st_region ?_
        refine r_pure (.bool (decide (i29 < (items.length : Int)))) rfl ?_
        refine r_seq ?_
        refine st_seq ?_
        refine st_condt hb39 rfl ?_
        refine st_skip ?_
        refine n_sq ?_
        refine st_seq ?_
        refine st_block ?_
        refine st_seq ?_
        refine st_region ?_
        have hA53 := (hv4 _ H25.d).adO hj42
        refine r_ix IX25 rfl rfl hA53 h040 h141 ?_
        refine r_ldA [.int .i64 y34.Kind, .int .i64 y34.Amount] LD24 rfl rfl ((hv4 _ H25.d).csA hA53 hj42) ?_
        refine r_alloc [.int .i64 0, .int .i64 0] Try.zeroValue24 H25 rfl ?_
        intro b54 wd56 H55
        refine r_stA [.int .i64 y34.Kind, .int .i64 y34.Amount] LD24 rfl rfl rfl rfl H55 (by decide) rfl ?_
        intro wd58 H57
        refine r_seq ?_
        refine st_seq ?_
        refine st_seq ?_
        refine st_region ?_
        refine r_fa FA24_1 ⟨b54, 1, none⟩ rfl rfl ?_
        refine r_ld1 (.int .i64 y34.Amount) LD3 rfl ((H57.g0).cell _ rfl) ?_
        obtain ⟨y59, hy60, hm⟩ := bind_some hm
        refine r_callf Try.call15 (fx_near_ok y34.Amount y59 H57 hy60) ?_
        rintro e63 wd62 ⟨rfl, H61⟩
        refine ⟨_, rfl, ?_⟩
        refine r_pure (.bool (!y59)) rfl ?_
        refine r_seq ?_
        rcases ite_some hm with ⟨hb64, hm⟩ | ⟨hb64, hm⟩
        · refine st_condt hb64 rfl ?_
          refine st_seq ?_
          refine st_region ?_
          refine r_pure (.slice none 0 0) rfl ?_
          refine r_pure (.int .i64 0) rfl ?_
          refine r_pure (.int .i64 1) rfl ?_
          refine r_seq ?_
          have H65 := H61.add (A := Row K24 (.slice none 0 0) []) Row.nil
          have hq_ := Option.some.inj hm
          subst hq_
          obtain ⟨rfl, rfl, rfl⟩ := some_inj3 (show some ((([] : List api_Item), 0, 1) : (List api_Item × Int × Int)) = some (r0_, r1_, r2_) from hm26)
          refine st_ret3 rfl rfl (Nat.le_of_ble_eq_true rfl) (Nat.le_of_ble_eq_true rfl) (Nat.le_of_ble_eq_true rfl) rfl rfl rfl ?_
          exact ⟨none, 0, 0, rfl, H65.u1.d.u1.d⟩
        · refine st_condf hb64 rfl ?_
          refine st_skip ?_
          refine n_sq ?_
          refine st_seq ?_
          refine st_region ?_
          refine r_fa FA24_1 ⟨b54, 1, none⟩ rfl rfl ?_
          refine r_ld1 (.int .i64 y34.Amount) LD3 rfl ((H61.g0).cell _ rfl) ?_
          refine r_pure (.int .i64 fx) rfl ?_
          obtain ⟨⟨y66, y67⟩, hy68, hm⟩ := bind_some hm
          refine r_callf Try.call16 (rate_Of_ok y34.Amount fx y66 y67 H61 hy68) ?_
          rintro e71 wd70 ⟨rfl, H69⟩
          refine ⟨_, rfl, ?_⟩
          refine r_pure (.tuple #[.int .i64 y66, .bool y67]) rfl ?_
          refine r_pure (.int .i64 y66) rfl ?_
          refine r_pure (.bool y67) rfl ?_
          refine r_pure (.int .i64 y66) rfl ?_
          refine r_pure (.bool y67) rfl ?_
          refine r_seq ?_
          refine st_seq ?_
          refine st_region ?_
          refine r_pure (.int .i64 v18) rfl ?_
          refine r_fa FA24_1 ⟨b54, 1, none⟩ rfl rfl ?_
          refine r_ld1 (.int .i64 y34.Amount) LD3 rfl ((H69.g0).cell _ rfl) ?_
          refine r_pure (.int .i64 (w64 (v18 + y34.Amount))) rfl ?_
          refine r_pure (.int .i64 v19) rfl ?_
          refine r_pure (.int .i64 y66) rfl ?_
          refine r_pure (.int .i64 (w64 (v19 + y66))) rfl ?_
          refine r_pure (.int .i64 (w64 (v18 + y34.Amount))) rfl ?_
          refine r_pure (.int .i64 (w64 (v19 + y66))) rfl ?_
          refine r_seq ?_
          refine st_region ?_
          refine r_pure (.slice A21 xs24.length c23) rfl ?_
          refine r_fa FA24_0 ⟨b54, 0, none⟩ rfl rfl ?_
          refine r_ld1 (.int .i64 y34.Kind) LD3 rfl ((H69.g0).cell _ rfl) ?_
          refine r_pure (.int .i64 y66) rfl ?_
          refine r_build [.int .i64 y34.Kind, .int .i64 y66] FL24 rfl ?_
          refine r_buildSlice (K := K24) [(⟨y34.Kind, y66⟩ : api_Item)] EL25 rfl rfl rfl (by decide) (by decide) rfl H69 ?_
          intro b72 wd74 H73
          obtain ⟨hf75, hm⟩ := gd_some hm
          refine r_append (K := K24) (ys := [(⟨y34.Kind, y66⟩ : api_Item)]) AP25 rfl rfl rfl rfl H73.u2 (((H73.u2).g1).src) (fit_le hf75 (by decide)) ?_
          intro A76 c77 wd78 H79
          refine r_pure (.slice A76 ((xs24 ++ [(⟨y34.Kind, y66⟩ : api_Item)]).length) c77) rfl ?_
          refine r_nil ?_
          refine n_bl ?_
          refine n_sq ?_
          refine st_region ?_
          refine r_pure (.int .i64 (w64 (i29 + 1))) rfl ?_
          refine r_pure (.int .i64 (w64 (i29 + 1))) rfl ?_
          refine r_nil ?_
          refine n_round (IH37 _ _ rfl _ _ _ ⟨i29 + 1, w64 (v18 + y34.Amount), w64 (v19 + y66), xs24 ++ [(⟨y34.Kind, y66⟩ : api_Item)], dn30 ++ [y34], A76, (xs24 ++ [(⟨y34.Kind, y66⟩ : api_Item)]).length, c77, rfl, range_more hxs31, range_len hi32, upk (ac rfl (ac rfl (ac rfl (ac rfl (ac rfl (ac rfl (ac hnx43 an))))))), H79.u1.d.u1.d⟩ hm)

set_option maxHeartbeats 2000000 in
theorem scutageref19_far_ok {w0 w : World} {Γ : List (World → Prop)} (n_ : Int) (r0_ : Bool) (H : Hp w0 (Γ) w) (hm : scutageref19_far n_ = some r0_) : Calls Try.prog 24 #[.int .i64 n_] w (fun e w => e = .returned (.bool r0_) ∧ Hp w0 (Γ) w) := by
  unfold scutageref19_far at hm
  refine st_enter Try.func24 rfl Try.ntmps24 (Nat.le_of_ble_eq_true rfl) ?_
  refine st_seq ?_
  refine st_region ?_
  refine r_pure (.bool false) rfl ?_
  refine r_seq ?_
  refine st_cut (fun ρ w => ∃ q1 : Bool, (∃ base, ρ = updl base [(2, .bool q1)]) ∧ Hp w0 (Γ) w ∧ scutageref19_far.j1 q1 = some r0_) ?_ ?_
  · refine st_region ?_
    refine r_pure (.int .i64 n_) rfl ?_
    refine r_pure (.bool (decide (n_ < (-400000000000)))) rfl ?_
    refine r_pure (.bool (decide (n_ < (-400000000000)))) rfl ?_
    rcases ite_some hm with ⟨hb3, hm⟩ | ⟨hb3, hm⟩
    · refine r_not (wn_f rfl rfl (by decide) rfl hb3) ?_
      refine r_not (wn_f rfl rfl (by decide) rfl hb3) ?_
      refine r_pick_t (.bool true) hb3 rfl rfl ?_
      refine r_pure (.bool true) rfl ?_
      refine r_nil ?_
      refine n_cut ⟨true, upk (ac rfl an), H, hm⟩
    · refine r_pure (.int .i64 n_) rfl ?_ (wn_t rfl rfl (by decide) rfl hb3)
      refine r_pure (.bool (decide (n_ > 400000000000))) rfl ?_ (wn_t rfl rfl (by decide) rfl hb3)
      refine r_pick_f (.bool (decide (n_ > 400000000000))) hb3 rfl rfl ?_
      refine r_pure (.bool (decide (n_ > 400000000000))) rfl ?_
      refine r_nil ?_
      refine n_cut ⟨decide (n_ > 400000000000), upk (ac rfl an), H, hm⟩
  · rintro ρ w ⟨q1, ⟨base, rfl⟩, H2, hm⟩
    unfold scutageref19_far.j1 at hm
    have hq_ := Option.some.inj hm
    subst hq_
    refine st_ret1 rfl rfl (Nat.le_of_ble_eq_true rfl) rfl ?_
    exact ⟨rfl, H2⟩

set_option maxHeartbeats 2000000 in
theorem scutageref01_Of_r1_ok {w0 w : World} {Γ : List (World → Prop)} (n_ : Int) (r_ : Int) (r0_ : Int) (r1_ : Bool) (H : Hp w0 (Γ) w) (hm : scutageref01_Of_r1 n_ r_ = some (r0_, r1_)) : Calls Try.prog 30 #[.int .i64 n_, .int .i64 r_] w (fun e w => e = .returned (.tuple #[.int .i64 r0_, .bool r1_]) ∧ Hp w0 (Γ) w) := by
  unfold scutageref01_Of_r1 at hm
  refine st_enter Try.func30 rfl Try.ntmps30 (Nat.le_of_ble_eq_true rfl) ?_
  refine st_seq ?_
  refine st_region ?_
  refine r_pure (.int .i64 0) rfl ?_
  refine r_pure (.bool false) rfl ?_
  refine r_seq ?_
  refine st_seq ?_
  refine st_cut (fun ρ w => ∃ q1 : Bool, (∃ base, ρ = updl base [(0, .int .i64 n_), (1, .int .i64 r_), (24, .bool q1)]) ∧ Hp w0 (Γ) w ∧ scutageref01_Of_r1.j1 n_ r_ q1 = some (r0_, r1_)) ?_ ?_
  · refine st_region ?_
    refine r_pure (.int .i64 n_) rfl ?_
    refine r_pure (.bool (decide (n_ < (-400000000000)))) rfl ?_
    refine r_pure (.bool (decide (n_ < (-400000000000)))) rfl ?_
    rcases ite_some hm with ⟨hb8, hm⟩ | ⟨hb8, hm⟩
    · refine r_not (wn_f rfl rfl (by decide) rfl hb8) ?_
      refine r_not (wn_f rfl rfl (by decide) rfl hb8) ?_
      refine r_pick_t (.bool true) hb8 rfl rfl ?_
      refine r_pure (.bool true) rfl ?_
      refine r_not (wn_f rfl rfl (by decide) rfl rfl) ?_
      refine r_not (wn_f rfl rfl (by decide) rfl rfl) ?_
      refine r_pick_t (.bool true) rfl rfl rfl ?_
      refine r_pure (.bool true) rfl ?_
      refine r_not (wn_f rfl rfl (by decide) rfl rfl) ?_
      refine r_not (wn_f rfl rfl (by decide) rfl rfl) ?_
      refine r_pick_t (.bool true) rfl rfl rfl ?_
      refine r_nil ?_
      refine n_cut ⟨true, upk (ac rfl (ac rfl (ac rfl an))), H, hm⟩
    · refine r_pure (.int .i64 n_) rfl ?_ (wn_t rfl rfl (by decide) rfl hb8)
      refine r_pure (.bool (decide (n_ > 400000000000))) rfl ?_ (wn_t rfl rfl (by decide) rfl hb8)
      refine r_pick_f (.bool (decide (n_ > 400000000000))) hb8 rfl rfl ?_
      refine r_pure (.bool (decide (n_ > 400000000000))) rfl ?_
      rcases ite_some hm with ⟨hb9, hm⟩ | ⟨hb9, hm⟩
      · refine r_not (wn_f rfl rfl (by decide) rfl hb9) ?_
        refine r_not (wn_f rfl rfl (by decide) rfl hb9) ?_
        refine r_pick_t (.bool true) hb9 rfl rfl ?_
        refine r_pure (.bool true) rfl ?_
        refine r_not (wn_f rfl rfl (by decide) rfl rfl) ?_
        refine r_not (wn_f rfl rfl (by decide) rfl rfl) ?_
        refine r_pick_t (.bool true) rfl rfl rfl ?_
        refine r_nil ?_
        refine n_cut ⟨true, upk (ac rfl (ac rfl (ac rfl an))), H, hm⟩
      · refine r_pure (.int .i64 r_) rfl ?_ (wn_t rfl rfl (by decide) rfl hb9)
        refine r_pure (.bool (decide (r_ < 0))) rfl ?_ (wn_t rfl rfl (by decide) rfl hb9)
        refine r_pick_f (.bool (decide (r_ < 0))) hb9 rfl rfl ?_
        refine r_pure (.bool (decide (r_ < 0))) rfl ?_
        rcases ite_some hm with ⟨hb10, hm⟩ | ⟨hb10, hm⟩
        · refine r_not (wn_f rfl rfl (by decide) rfl hb10) ?_
          refine r_not (wn_f rfl rfl (by decide) rfl hb10) ?_
          refine r_pick_t (.bool true) hb10 rfl rfl ?_
          refine r_nil ?_
          refine n_cut ⟨true, upk (ac rfl (ac rfl (ac rfl an))), H, hm⟩
        · refine r_pure (.int .i64 r_) rfl ?_ (wn_t rfl rfl (by decide) rfl hb10)
          refine r_pure (.bool (decide (r_ > 10000000))) rfl ?_ (wn_t rfl rfl (by decide) rfl hb10)
          refine r_pick_f (.bool (decide (r_ > 10000000))) hb10 rfl rfl ?_
          refine r_nil ?_
          refine n_cut ⟨decide (r_ > 10000000), upk (ac rfl (ac rfl (ac rfl an))), H, hm⟩
  · rintro ρ w ⟨q1, ⟨base, rfl⟩, H2, hm⟩
    unfold scutageref01_Of_r1.j1 at hm
    rcases ite_some hm with ⟨hb3, hm⟩ | ⟨hb3, hm⟩
    · refine st_condt hb3 rfl ?_
      refine st_seq ?_
      refine st_region ?_
      refine r_pure (.int .i64 0) rfl ?_
      refine r_pure (.bool false) rfl ?_
      refine r_seq ?_
      obtain ⟨rfl, rfl⟩ := some_inj2 hm
      refine st_ret2 rfl rfl (Nat.le_of_ble_eq_true rfl) (Nat.le_of_ble_eq_true rfl) rfl rfl ?_
      exact ⟨rfl, H2⟩
    · refine st_condf hb3 rfl ?_
      refine st_skip ?_
      refine n_sq ?_
      refine st_seq ?_
      refine st_seq ?_
      refine st_region ?_
      refine r_pure (.int .i64 n_) rfl ?_
      refine r_pure (.bool (decide (n_ < 0))) rfl ?_
      refine r_seq ?_
      rcases ite_some hm with ⟨hb4, hm⟩ | ⟨hb4, hm⟩
      · cases hm
      · refine st_condf hb4 rfl ?_
        refine st_skip ?_
        refine n_sq ?_
        refine st_seq ?_
        refine st_region ?_
        refine r_pure (.int .i64 n_) rfl ?_
        refine r_pure (.int .i64 r_) rfl ?_
        refine r_pure (.int .i64 (w64 (n_ * r_))) rfl ?_
        refine r_pure (.int .i64 (w64 (n_ * r_))) rfl ?_
        refine r_seq ?_
        refine st_seq ?_
        refine st_region ?_
        refine r_pure (.int .i64 (w64 (n_ * r_))) rfl ?_
        refine r_quo (by decide) rfl rfl ?_
        refine r_pure (.int .i64 (w64 (n_ * r_))) rfl ?_
        refine r_rem (by decide) rfl rfl ?_
        refine r_pure (.int .i64 (w64 (Int.tdiv (w64 (n_ * r_)) 1000000))) rfl ?_
        refine r_pure (.int .i64 (Int.tmod (w64 (n_ * r_)) 1000000)) rfl ?_
        refine r_seq ?_
        refine st_cut (fun ρ w => ∃ v5 : Int, (∃ base, ρ = updl base [(9, .int .i64 v5)]) ∧ Hp w0 (Γ) w ∧ scutageref01_Of_r1.j2 v5 = some (r0_, r1_)) ?_ ?_
        · refine st_seq ?_
          refine st_region ?_
          refine r_pure (.int .i64 (Int.tmod (w64 (n_ * r_)) 1000000)) rfl ?_
          refine r_pure (.int .i64 (w64 (2 * Int.tmod (w64 (n_ * r_)) 1000000))) rfl ?_
          refine r_pure (.bool (decide (w64 (2 * Int.tmod (w64 (n_ * r_)) 1000000) ≥ 1000000))) rfl ?_
          refine r_seq ?_
          rcases ite_some hm with ⟨hb7, hm⟩ | ⟨hb7, hm⟩
          · refine st_condt hb7 rfl ?_
            refine st_region ?_
            refine r_pure (.int .i64 (w64 (Int.tdiv (w64 (n_ * r_)) 1000000))) rfl ?_
            refine r_pure (.int .i64 (w64 (w64 (Int.tdiv (w64 (n_ * r_)) 1000000) + 1))) rfl ?_
            refine r_pure (.int .i64 (w64 (w64 (Int.tdiv (w64 (n_ * r_)) 1000000) + 1))) rfl ?_
            refine r_nil ?_
            refine n_cut ⟨w64 (w64 (Int.tdiv (w64 (n_ * r_)) 1000000) + 1), upk (ac rfl an), H2, hm⟩
          · refine st_condf hb7 rfl ?_
            refine st_skip ?_
            refine n_cut ⟨w64 (Int.tdiv (w64 (n_ * r_)) 1000000), upk (ac rfl an), H2, hm⟩
        · rintro ρ w ⟨v5, ⟨base, rfl⟩, H6, hm⟩
          unfold scutageref01_Of_r1.j2 at hm
          refine st_seq ?_
          refine st_region ?_
          refine r_pure (.int .i64 v5) rfl ?_
          refine r_pure (.int .i64 v5) rfl ?_
          refine r_pure (.bool true) rfl ?_
          refine r_seq ?_
          obtain ⟨rfl, rfl⟩ := some_inj2 hm
          refine st_ret2 rfl rfl (Nat.le_of_ble_eq_true rfl) (Nat.le_of_ble_eq_true rfl) rfl rfl ?_
          exact ⟨rfl, H6⟩

set_option maxHeartbeats 2000000 in
theorem scutageref01_Of_ok {w0 w : World} {Γ : List (World → Prop)} (n_ : Int) (r_ : Int) (r0_ : Int) (r1_ : Bool) (H : Hp w0 (Γ) w) (hm : scutageref01_Of n_ r_ = some (r0_, r1_)) : Calls Try.prog 30 #[.int .i64 n_, .int .i64 r_] w (fun e w => e = .returned (.tuple #[.int .i64 r0_, .bool r1_]) ∧ Hp w0 (Γ) w) := by
  unfold scutageref01_Of at hm
  refine st_enter Try.func30 rfl Try.ntmps30 (Nat.le_of_ble_eq_true rfl) ?_
  refine st_seq ?_
  refine st_region ?_
  refine r_pure (.int .i64 0) rfl ?_
  refine r_pure (.bool false) rfl ?_
  refine r_seq ?_
  refine st_seq ?_
  refine st_cut (fun ρ w => ∃ q1 : Bool, (∃ base, ρ = updl base [(0, .int .i64 n_), (1, .int .i64 r_), (24, .bool q1)]) ∧ Hp w0 (Γ) w ∧ scutageref01_Of.j1 n_ r_ q1 = some (r0_, r1_)) ?_ ?_
  · refine st_region ?_
    refine r_pure (.int .i64 n_) rfl ?_
    refine r_pure (.bool (decide (n_ < (-400000000000)))) rfl ?_
    refine r_pure (.bool (decide (n_ < (-400000000000)))) rfl ?_
    rcases ite_some hm with ⟨hb14, hm⟩ | ⟨hb14, hm⟩
    · refine r_not (wn_f rfl rfl (by decide) rfl hb14) ?_
      refine r_not (wn_f rfl rfl (by decide) rfl hb14) ?_
      refine r_pick_t (.bool true) hb14 rfl rfl ?_
      refine r_pure (.bool true) rfl ?_
      refine r_not (wn_f rfl rfl (by decide) rfl rfl) ?_
      refine r_not (wn_f rfl rfl (by decide) rfl rfl) ?_
      refine r_pick_t (.bool true) rfl rfl rfl ?_
      refine r_pure (.bool true) rfl ?_
      refine r_not (wn_f rfl rfl (by decide) rfl rfl) ?_
      refine r_not (wn_f rfl rfl (by decide) rfl rfl) ?_
      refine r_pick_t (.bool true) rfl rfl rfl ?_
      refine r_nil ?_
      refine n_cut ⟨true, upk (ac rfl (ac rfl (ac rfl an))), H, hm⟩
    · refine r_pure (.int .i64 n_) rfl ?_ (wn_t rfl rfl (by decide) rfl hb14)
      refine r_pure (.bool (decide (n_ > 400000000000))) rfl ?_ (wn_t rfl rfl (by decide) rfl hb14)
      refine r_pick_f (.bool (decide (n_ > 400000000000))) hb14 rfl rfl ?_
      refine r_pure (.bool (decide (n_ > 400000000000))) rfl ?_
      rcases ite_some hm with ⟨hb15, hm⟩ | ⟨hb15, hm⟩
      · refine r_not (wn_f rfl rfl (by decide) rfl hb15) ?_
        refine r_not (wn_f rfl rfl (by decide) rfl hb15) ?_
        refine r_pick_t (.bool true) hb15 rfl rfl ?_
        refine r_pure (.bool true) rfl ?_
        refine r_not (wn_f rfl rfl (by decide) rfl rfl) ?_
        refine r_not (wn_f rfl rfl (by decide) rfl rfl) ?_
        refine r_pick_t (.bool true) rfl rfl rfl ?_
        refine r_nil ?_
        refine n_cut ⟨true, upk (ac rfl (ac rfl (ac rfl an))), H, hm⟩
      · refine r_pure (.int .i64 r_) rfl ?_ (wn_t rfl rfl (by decide) rfl hb15)
        refine r_pure (.bool (decide (r_ < 0))) rfl ?_ (wn_t rfl rfl (by decide) rfl hb15)
        refine r_pick_f (.bool (decide (r_ < 0))) hb15 rfl rfl ?_
        refine r_pure (.bool (decide (r_ < 0))) rfl ?_
        rcases ite_some hm with ⟨hb16, hm⟩ | ⟨hb16, hm⟩
        · refine r_not (wn_f rfl rfl (by decide) rfl hb16) ?_
          refine r_not (wn_f rfl rfl (by decide) rfl hb16) ?_
          refine r_pick_t (.bool true) hb16 rfl rfl ?_
          refine r_nil ?_
          refine n_cut ⟨true, upk (ac rfl (ac rfl (ac rfl an))), H, hm⟩
        · refine r_pure (.int .i64 r_) rfl ?_ (wn_t rfl rfl (by decide) rfl hb16)
          refine r_pure (.bool (decide (r_ > 10000000))) rfl ?_ (wn_t rfl rfl (by decide) rfl hb16)
          refine r_pick_f (.bool (decide (r_ > 10000000))) hb16 rfl rfl ?_
          refine r_nil ?_
          refine n_cut ⟨decide (r_ > 10000000), upk (ac rfl (ac rfl (ac rfl an))), H, hm⟩
  · rintro ρ w ⟨q1, ⟨base, rfl⟩, H2, hm⟩
    unfold scutageref01_Of.j1 at hm
    rcases ite_some hm with ⟨hb3, hm⟩ | ⟨hb3, hm⟩
    · refine st_condt hb3 rfl ?_
      refine st_seq ?_
      refine st_region ?_
      refine r_pure (.int .i64 0) rfl ?_
      refine r_pure (.bool false) rfl ?_
      refine r_seq ?_
      obtain ⟨rfl, rfl⟩ := some_inj2 hm
      refine st_ret2 rfl rfl (Nat.le_of_ble_eq_true rfl) (Nat.le_of_ble_eq_true rfl) rfl rfl ?_
      exact ⟨rfl, H2⟩
    · refine st_condf hb3 rfl ?_
      refine st_skip ?_
      refine n_sq ?_
      refine st_seq ?_
      refine st_seq ?_
      refine st_region ?_
      refine r_pure (.int .i64 n_) rfl ?_
      refine r_pure (.bool (decide (n_ < 0))) rfl ?_
      refine r_seq ?_
      rcases ite_some hm with ⟨hb4, hm⟩ | ⟨hb4, hm⟩
      · refine st_condt hb4 rfl ?_
        refine st_seq ?_
        refine st_region ?_
        refine r_pure (.int .i64 n_) rfl ?_
        refine r_pure (.int .i64 (w64 (0 - n_))) rfl ?_
        refine r_pure (.int .i64 r_) rfl ?_
        obtain ⟨⟨y5, y6⟩, hy7, hm⟩ := bind_some hm
        refine r_callf Try.call30 (scutageref01_Of_r1_ok (w64 (0 - n_)) r_ y5 y6 H2 hy7) ?_
        rintro e10 wd9 ⟨rfl, H8⟩
        refine ⟨_, rfl, ?_⟩
        refine r_pure (.tuple #[.int .i64 y5, .bool y6]) rfl ?_
        refine r_pure (.int .i64 y5) rfl ?_
        refine r_pure (.bool y6) rfl ?_
        refine r_pure (.int .i64 y5) rfl ?_
        refine r_pure (.bool y6) rfl ?_
        refine r_seq ?_
        refine st_seq ?_
        refine st_region ?_
        refine r_pure (.int .i64 y5) rfl ?_
        refine r_pure (.int .i64 (w64 (0 - y5))) rfl ?_
        refine r_pure (.int .i64 (w64 (0 - y5))) rfl ?_
        refine r_pure (.bool true) rfl ?_
        refine r_seq ?_
        obtain ⟨rfl, rfl⟩ := some_inj2 hm
        refine st_ret2 rfl rfl (Nat.le_of_ble_eq_true rfl) (Nat.le_of_ble_eq_true rfl) rfl rfl ?_
        exact ⟨rfl, H8⟩
      · refine st_condf hb4 rfl ?_
        refine st_skip ?_
        refine n_sq ?_
        refine st_seq ?_
        refine st_region ?_
        refine r_pure (.int .i64 n_) rfl ?_
        refine r_pure (.int .i64 r_) rfl ?_
        refine r_pure (.int .i64 (w64 (n_ * r_))) rfl ?_
        refine r_pure (.int .i64 (w64 (n_ * r_))) rfl ?_
        refine r_seq ?_
        refine st_seq ?_
        refine st_region ?_
        refine r_pure (.int .i64 (w64 (n_ * r_))) rfl ?_
        refine r_quo (by decide) rfl rfl ?_
        refine r_pure (.int .i64 (w64 (n_ * r_))) rfl ?_
        refine r_rem (by decide) rfl rfl ?_
        refine r_pure (.int .i64 (w64 (Int.tdiv (w64 (n_ * r_)) 1000000))) rfl ?_
        refine r_pure (.int .i64 (Int.tmod (w64 (n_ * r_)) 1000000)) rfl ?_
        refine r_seq ?_
        refine st_cut (fun ρ w => ∃ v11 : Int, (∃ base, ρ = updl base [(9, .int .i64 v11)]) ∧ Hp w0 (Γ) w ∧ scutageref01_Of.j2 v11 = some (r0_, r1_)) ?_ ?_
        · refine st_seq ?_
          refine st_region ?_
          refine r_pure (.int .i64 (Int.tmod (w64 (n_ * r_)) 1000000)) rfl ?_
          refine r_pure (.int .i64 (w64 (2 * Int.tmod (w64 (n_ * r_)) 1000000))) rfl ?_
          refine r_pure (.bool (decide (w64 (2 * Int.tmod (w64 (n_ * r_)) 1000000) ≥ 1000000))) rfl ?_
          refine r_seq ?_
          rcases ite_some hm with ⟨hb13, hm⟩ | ⟨hb13, hm⟩
          · refine st_condt hb13 rfl ?_
            refine st_region ?_
            refine r_pure (.int .i64 (w64 (Int.tdiv (w64 (n_ * r_)) 1000000))) rfl ?_
            refine r_pure (.int .i64 (w64 (w64 (Int.tdiv (w64 (n_ * r_)) 1000000) + 1))) rfl ?_
            refine r_pure (.int .i64 (w64 (w64 (Int.tdiv (w64 (n_ * r_)) 1000000) + 1))) rfl ?_
            refine r_nil ?_
            refine n_cut ⟨w64 (w64 (Int.tdiv (w64 (n_ * r_)) 1000000) + 1), upk (ac rfl an), H2, hm⟩
          · refine st_condf hb13 rfl ?_
            refine st_skip ?_
            refine n_cut ⟨w64 (Int.tdiv (w64 (n_ * r_)) 1000000), upk (ac rfl an), H2, hm⟩
        · rintro ρ w ⟨v11, ⟨base, rfl⟩, H12, hm⟩
          unfold scutageref01_Of.j2 at hm
          refine st_seq ?_
          refine st_region ?_
          refine r_pure (.int .i64 v11) rfl ?_
          refine r_pure (.int .i64 v11) rfl ?_
          refine r_pure (.bool true) rfl ?_
          refine r_seq ?_
          obtain ⟨rfl, rfl⟩ := some_inj2 hm
          refine st_ret2 rfl rfl (Nat.le_of_ble_eq_true rfl) (Nat.le_of_ble_eq_true rfl) rfl rfl ?_
          exact ⟨rfl, H12⟩

set_option maxHeartbeats 2000000 in
theorem scutageref01_Part_ok {w0 w : World} {Γ : List (World → Prop)} (n_ : Int) (r_ : Int) (r0_ : Int) (H : Hp w0 (Γ) w) (hm : scutageref01_Part n_ r_ = some r0_) : Calls Try.prog 25 #[.int .i64 n_, .int .i64 r_] w (fun e w => e = .returned (.int .i64 r0_) ∧ Hp w0 (Γ) w) := by
  unfold scutageref01_Part at hm
  refine st_enter Try.func25 rfl Try.ntmps25 (Nat.le_of_ble_eq_true rfl) ?_
  refine st_seq ?_
  refine st_region ?_
  refine r_pure (.int .i64 0) rfl ?_
  refine r_seq ?_
  refine st_seq ?_
  refine st_region ?_
  refine r_pure (.int .i64 n_) rfl ?_
  refine r_pure (.int .i64 r_) rfl ?_
  obtain ⟨⟨y1, y2⟩, hy3, hm⟩ := bind_some hm
  refine r_callf Try.call30 (scutageref01_Of_ok n_ r_ y1 y2 H hy3) ?_
  rintro e6 wd5 ⟨rfl, H4⟩
  refine ⟨_, rfl, ?_⟩
  refine r_pure (.tuple #[.int .i64 y1, .bool y2]) rfl ?_
  refine r_pure (.int .i64 y1) rfl ?_
  refine r_pure (.bool y2) rfl ?_
  refine r_pure (.int .i64 y1) rfl ?_
  refine r_pure (.bool y2) rfl ?_
  refine r_seq ?_
  refine st_seq ?_
  refine st_region ?_
  refine r_pure (.int .i64 y1) rfl ?_
  refine r_pure (.int .i64 y1) rfl ?_
  refine r_seq ?_
  have hq_ := Option.some.inj hm
  subst hq_
  refine st_ret1 rfl rfl (Nat.le_of_ble_eq_true rfl) rfl ?_
  exact ⟨rfl, H4⟩

set_option maxHeartbeats 2000000 in
theorem scutageref19_Convert_ok {w0 w : World} {Γ : List (World → Prop)} (items : List api_Item) (A1 : Option Addr) (n6 c2 : Nat) (hn5 : n6 = items.length) (hc3 : items.length ≤ c2) (hv4 : ∀ u, Hp w0 Γ u → SlR K24 A1 items u) (fx : Int) (r0_ : List api_Item) (r1_ : Int) (r2_ : Int) (H : Hp w0 (Γ) w) (hm : scutageref19_Convert items fx = some (r0_, r1_, r2_)) : Calls Try.prog 12 #[.slice A1 n6 c2, .int .i64 fx] w (fun e w => ∃ (Ax1 : Option Addr) (nx2 cx3 : Nat), e = .returned (.tuple #[.slice Ax1 nx2 cx3, .int .i64 r1_, .int .i64 r2_]) ∧ Hp w0 (Row K24 (.slice Ax1 nx2 cx3) r0_ :: Γ) w) := by
  subst hn5
  unfold scutageref19_Convert at hm
  refine st_enter Try.func12 rfl Try.ntmps12 (Nat.le_of_ble_eq_true rfl) ?_
  refine st_seq ?_
  refine st_region ?_
  refine r_pure (.slice none 0 0) rfl ?_
  refine r_pure (.int .i64 0) rfl ?_
  refine r_pure (.int .i64 0) rfl ?_
  refine r_seq ?_
  refine st_seq ?_
  refine st_cut (fun ρ w => ∃ q7 : Bool, (∃ base, ρ = updl base [(0, .slice A1 items.length c2), (1, .int .i64 fx), (25, .bool q7)]) ∧ Hp w0 (Γ) w ∧ scutageref19_Convert.j1 items fx q7 = some (r0_, r1_, r2_)) ?_ ?_
  · refine st_region ?_
    refine r_pure (.int .i64 fx) rfl ?_
    refine r_pure (.bool (decide (fx < 1))) rfl ?_
    refine r_pure (.bool (decide (fx < 1))) rfl ?_
    rcases ite_some hm with ⟨hb109, hm⟩ | ⟨hb109, hm⟩
    · refine r_not (wn_f rfl rfl (by decide) rfl hb109) ?_
      refine r_not (wn_f rfl rfl (by decide) rfl hb109) ?_
      refine r_pick_t (.bool true) hb109 rfl rfl ?_
      refine r_pure (.bool true) rfl ?_
      refine r_not (wn_f rfl rfl (by decide) rfl rfl) ?_
      refine r_not (wn_f rfl rfl (by decide) rfl rfl) ?_
      refine r_not (wn_f rfl rfl (by decide) rfl rfl) ?_
      refine r_pick_t (.bool true) rfl rfl rfl ?_
      refine r_nil ?_
      refine n_cut ⟨true, upk (ac rfl (ac rfl (ac rfl an))), H, hm⟩
    · refine r_pure (.int .i64 fx) rfl ?_ (wn_t rfl rfl (by decide) rfl hb109)
      refine r_pure (.bool (decide (fx > 10000000))) rfl ?_ (wn_t rfl rfl (by decide) rfl hb109)
      refine r_pick_f (.bool (decide (fx > 10000000))) hb109 rfl rfl ?_
      refine r_pure (.bool (decide (fx > 10000000))) rfl ?_
      rcases ite_some hm with ⟨hb110, hm⟩ | ⟨hb110, hm⟩
      · refine r_not (wn_f rfl rfl (by decide) rfl hb110) ?_
        refine r_not (wn_f rfl rfl (by decide) rfl hb110) ?_
        refine r_not (wn_f rfl rfl (by decide) rfl hb110) ?_
        refine r_pick_t (.bool true) hb110 rfl rfl ?_
        refine r_nil ?_
        refine n_cut ⟨true, upk (ac rfl (ac rfl (ac rfl an))), H, hm⟩
      · refine r_pure (.slice A1 items.length c2) rfl ?_ (wn_t rfl rfl (by decide) rfl hb110)
        refine r_len Try.underlying25 rfl ?_ (wn_t rfl rfl (by decide) rfl hb110)
        refine r_pure (.bool (decide ((items.length : Int) > 20))) rfl ?_ (wn_t rfl rfl (by decide) rfl hb110)
        refine r_pick_f (.bool (decide ((items.length : Int) > 20))) hb110 rfl rfl ?_
        refine r_nil ?_
        refine n_cut ⟨decide ((items.length : Int) > 20), upk (ac rfl (ac rfl (ac rfl an))), H, hm⟩
  · rintro ρ w ⟨q7, ⟨base, rfl⟩, H8, hm⟩
    unfold scutageref19_Convert.j1 at hm
    rcases ite_some hm with ⟨hb9, hm⟩ | ⟨hb9, hm⟩
    · refine st_condt hb9 rfl ?_
      refine st_seq ?_
      refine st_region ?_
      refine r_pure (.slice none 0 0) rfl ?_
      refine r_pure (.int .i64 0) rfl ?_
      refine r_pure (.int .i64 1) rfl ?_
      refine r_seq ?_
      have H10 := H8.add (A := Row K24 (.slice none 0 0) []) Row.nil
      obtain ⟨rfl, rfl, rfl⟩ := some_inj3 hm
      refine st_ret3 rfl rfl (Nat.le_of_ble_eq_true rfl) (Nat.le_of_ble_eq_true rfl) (Nat.le_of_ble_eq_true rfl) rfl rfl rfl ?_
      exact ⟨none, 0, 0, rfl, H10⟩
    · refine st_condf hb9 rfl ?_
      refine st_skip ?_
      refine n_sq ?_
      refine st_seq ?_
      refine st_region ?_
      refine r_pure (.int .i64 0) rfl ?_
      refine r_seq ?_
      refine st_seq ?_
      refine st_seq ?_
      refine st_region ?_
      refine r_pure (.slice A1 items.length c2) rfl ?_
      refine r_len Try.underlying25 rfl ?_
      refine r_pure (.int .i64 0) rfl ?_
      refine r_seq ?_
      refine st_block ?_
      have hlim32 := (hv4 _ H8).lim
      obtain ⟨tl15, hl16, hm14⟩ := bind_some hm
      refine st_loopL (scutageref19_Convert.l1) (fun ys21 s ρ w => ∃ i17 : Int, ∃ v12 : Int, ∃ dn18 : List api_Item, (i17, v12) = s ∧ items = dn18 ++ ys21 ∧ i17 = (dn18.length : Int) ∧ (∃ base, ρ = updl base [(0, .slice A1 items.length c2), (1, .int .i64 fx), (7, .int .i64 v12), (26, .slice A1 items.length c2), (27, .int .i64 (items.length : Int)), (28, .int .i64 i17)]) ∧ Hp w0 (Γ) w) hl16 ⟨0, 0, [], rfl, rfl, rfl, upk (ac rfl (ac rfl (ac rfl (ac rfl (ac rfl (ac rfl an)))))), H8⟩ ?_
      rintro m ys21 IH25 s ρ w ⟨i17, v12, dn18, rfl, hxs19, hi20, ⟨base, rfl⟩, H13⟩ hm
      rcases ys21 with _ | ⟨y22, ys21⟩
      · rw [scutageref19_Convert.l1] at hm
        have hb26 := range_end hxs19 hi20
        refine st_seq ?_
        refine st_region ?_
        refine r_pure (.bool (decide (i17 < (items.length : Int)))) rfl ?_
        refine r_seq ?_
        refine st_seq ?_
        refine st_condf hb26 rfl ?_
        have hq_ := Option.some.inj hm
        refine st_exit rfl ?_
        subst hq_
        refine n_sq ?_
        refine st_seq ?_
        refine st_seq ?_
        refine st_region ?_
        refine r_pure (.int .i64 v12) rfl ?_
        obtain ⟨y33, hy34, hm⟩ := bind_some hm14
        refine r_callf Try.call24 (scutageref19_far_ok v12 y33 H13 hy34) ?_
        rintro e37 wd36 ⟨rfl, H35⟩
        refine ⟨_, rfl, ?_⟩
        refine r_seq ?_
        rcases ite_some hm with ⟨hb38, hm⟩ | ⟨hb38, hm⟩
        · refine st_condt hb38 rfl ?_
          refine st_seq ?_
          refine st_region ?_
          refine r_pure (.slice none 0 0) rfl ?_
          refine r_pure (.int .i64 0) rfl ?_
          refine r_pure (.int .i64 1) rfl ?_
          refine r_seq ?_
          have H39 := H35.add (A := Row K24 (.slice none 0 0) []) Row.nil
          obtain ⟨rfl, rfl, rfl⟩ := some_inj3 hm
          refine st_ret3 rfl rfl (Nat.le_of_ble_eq_true rfl) (Nat.le_of_ble_eq_true rfl) (Nat.le_of_ble_eq_true rfl) rfl rfl rfl ?_
          exact ⟨none, 0, 0, rfl, H39⟩
        · refine st_condf hb38 rfl ?_
          refine st_skip ?_
          refine n_sq ?_
          refine st_seq ?_
          refine st_region ?_
          refine r_pure (.slice none 0 0) rfl ?_
          refine r_seq ?_
          refine st_seq ?_
          refine st_region ?_
          refine r_pure (.int .i64 v12) rfl ?_
          refine r_pure (.int .i64 fx) rfl ?_
          obtain ⟨y40, hy41, hm⟩ := bind_some hm
          refine r_callf Try.call25 (scutageref01_Part_ok v12 fx y40 H35 hy41) ?_
          rintro e44 wd43 ⟨rfl, H42⟩
          refine ⟨_, rfl, ?_⟩
          refine r_pure (.int .i64 y40) rfl ?_
          refine r_seq ?_
          refine st_seq ?_
          refine st_seq ?_
          refine st_region ?_
          refine r_pure (.slice A1 items.length c2) rfl ?_
          refine r_len Try.underlying25 rfl ?_
          refine r_pure (.int .i64 0) rfl ?_
          refine r_seq ?_
          refine st_block ?_
          have H51 := H42.add (A := Row K24 (.slice none 0 0) []) Row.nil
          have hlim76 := (hv4 _ H51.d).lim
          obtain ⟨tl59, hl60, hm58⟩ := bind_some hm
          refine st_loopL (scutageref19_Convert.l2 fx) (fun ys65 s ρ w => ∃ i61 : Int, ∃ xs55 : List api_Item, ∃ v56 : Int, ∃ dn62 : List api_Item, ∃ A52 : Option Addr, ∃ n53 : Nat, ∃ c54 : Nat, (i61, xs55, v56) = s ∧ items = dn62 ++ ys65 ∧ i61 = (dn62.length : Int) ∧ (∃ base, ρ = updl base [(1, .int .i64 fx), (10, .slice A52 n53 c54), (11, .int .i64 v56), (45, .slice A1 items.length c2), (46, .int .i64 (items.length : Int)), (47, .int .i64 i61)]) ∧ Hp w0 (Row K24 (.slice A52 n53 c54) xs55 :: Γ) w) hl60 ⟨0, ([] : List api_Item), y40, [], none, 0, 0, rfl, rfl, rfl, upk (ac rfl (ac rfl (ac rfl (ac rfl (ac rfl (ac rfl an)))))), H51⟩ ?_
          rintro m ys65 IH69 s ρ w ⟨i61, xs55, v56, dn62, A52, n53, c54, rfl, hxs63, hi64, ⟨base, rfl⟩, H57⟩ hm
          obtain rfl := (H57.g0).leneq
          rcases ys65 with _ | ⟨y66, ys65⟩
          · rw [scutageref19_Convert.l2] at hm
            have hb70 := range_end hxs63 hi64
            refine st_seq ?_
            refine st_region ?_
            refine r_pure (.bool (decide (i61 < (items.length : Int)))) rfl ?_
            refine r_seq ?_
            refine st_seq ?_
            refine st_condf hb70 rfl ?_
            have hq_ := Option.some.inj hm
            refine st_exit rfl ?_
            subst hq_
            refine n_sq ?_
            refine st_seq ?_
            refine st_region ?_
            refine r_pure (.slice A52 xs55.length c54) rfl ?_
            refine r_pure (.int .i64 v56) rfl ?_
            refine r_pure (.slice A52 xs55.length c54) rfl ?_
            refine r_pure (.int .i64 v56) rfl ?_
            refine r_pure (.int .i64 0) rfl ?_
            refine r_seq ?_
            obtain ⟨rfl, rfl, rfl⟩ := some_inj3 hm58
            refine st_ret3 rfl rfl (Nat.le_of_ble_eq_true rfl) (Nat.le_of_ble_eq_true rfl) (Nat.le_of_ble_eq_true rfl) rfl rfl rfl ?_
            exact ⟨A52, xs55.length, c54, rfl, H57⟩
          · rw [scutageref19_Convert.l2] at hm
            have hb71 := range_in hxs63 hi64
            obtain ⟨h072, h173, hj74⟩ := range_ix hxs63 hi64
            have hnx75 := range_next hxs63 hi64 hlim76
            refine st_seq ?_
            refine st_region ?_
            refine r_pure (.bool (decide (i61 < (items.length : Int)))) rfl ?_
            refine r_seq ?_
            refine st_seq ?_
            refine st_condt hb71 rfl ?_
            refine st_skip ?_
            refine n_sq ?_
            refine st_seq ?_
            refine st_block ?_
            refine st_seq ?_
            refine st_region ?_
            have hA77 := (hv4 _ H57.d).adO hj74
            refine r_ix IX25 rfl rfl hA77 h072 h173 ?_
            refine r_ldA [.int .i64 y66.Kind, .int .i64 y66.Amount] LD24 rfl rfl ((hv4 _ H57.d).csA hA77 hj74) ?_
            refine r_alloc [.int .i64 0, .int .i64 0] Try.zeroValue24 H57 rfl ?_
            intro b78 wd80 H79
            refine r_stA [.int .i64 y66.Kind, .int .i64 y66.Amount] LD24 rfl rfl rfl rfl H79 (by decide) rfl ?_
            intro wd82 H81
            refine r_seq ?_
            refine st_seq ?_
            refine st_region ?_
            refine r_fa FA24_1 ⟨b78, 1, none⟩ rfl rfl ?_
            refine r_ld1 (.int .i64 y66.Amount) LD3 rfl ((H81.g0).cell _ rfl) ?_
            refine r_pure (.int .i64 fx) rfl ?_
            obtain ⟨y83, hy84, hm⟩ := bind_some hm
            refine r_callf Try.call25 (scutageref01_Part_ok y66.Amount fx y83 H81 hy84) ?_
            rintro e87 wd86 ⟨rfl, H85⟩
            refine ⟨_, rfl, ?_⟩
            refine r_pure (.int .i64 y83) rfl ?_
            refine r_seq ?_
            refine st_seq ?_
            refine st_region ?_
            refine r_pure (.slice A52 xs55.length c54) rfl ?_
            refine r_fa FA24_0 ⟨b78, 0, none⟩ rfl rfl ?_
            refine r_ld1 (.int .i64 y66.Kind) LD3 rfl ((H85.g0).cell _ rfl) ?_
            refine r_pure (.int .i64 y83) rfl ?_
            refine r_build [.int .i64 y66.Kind, .int .i64 y83] FL24 rfl ?_
            refine r_buildSlice (K := K24) [(⟨y66.Kind, y83⟩ : api_Item)] EL25 rfl rfl rfl (by decide) (by decide) rfl H85 ?_
            intro b88 wd90 H89
            obtain ⟨hf91, hm⟩ := gd_some hm
            refine r_append (K := K24) (ys := [(⟨y66.Kind, y83⟩ : api_Item)]) AP25 rfl rfl rfl rfl H89.u2 (((H89.u2).g1).src) (fit_le hf91 (by decide)) ?_
            intro A92 c93 wd94 H95
            refine r_pure (.slice A92 ((xs55 ++ [(⟨y66.Kind, y83⟩ : api_Item)]).length) c93) rfl ?_
            refine r_seq ?_
            refine st_region ?_
            refine r_pure (.int .i64 v56) rfl ?_
            refine r_pure (.int .i64 y83) rfl ?_
            refine r_pure (.int .i64 (w64 (v56 - y83))) rfl ?_
            refine r_pure (.int .i64 (w64 (v56 - y83))) rfl ?_
            refine r_nil ?_
            refine n_bl ?_
            refine n_sq ?_
            refine st_region ?_
            refine r_pure (.int .i64 (w64 (i61 + 1))) rfl ?_
            refine r_pure (.int .i64 (w64 (i61 + 1))) rfl ?_
            refine r_nil ?_
            refine n_round (IH69 _ _ rfl _ _ _ ⟨i61 + 1, xs55 ++ [(⟨y66.Kind, y83⟩ : api_Item)], w64 (v56 - y83), dn62 ++ [y66], A92, (xs55 ++ [(⟨y66.Kind, y83⟩ : api_Item)]).length, c93, rfl, range_more hxs63, range_len hi64, upk (ac rfl (ac rfl (ac rfl (ac rfl (ac rfl (ac hnx75 an)))))), H95.u1.d.u1.d⟩ hm)
      · rw [scutageref19_Convert.l1] at hm
        have hb27 := range_in hxs19 hi20
        obtain ⟨h028, h129, hj30⟩ := range_ix hxs19 hi20
        have hnx31 := range_next hxs19 hi20 hlim32
        refine st_seq ?_
        refine st_region ?_
        refine r_pure (.bool (decide (i17 < (items.length : Int)))) rfl ?_
        refine r_seq ?_
        refine st_seq ?_
        refine st_condt hb27 rfl ?_
        refine st_skip ?_
        refine n_sq ?_
        refine st_seq ?_
        refine st_block ?_
        refine st_seq ?_
        refine st_region ?_
        have hA96 := (hv4 _ H13).adO hj30
        refine r_ix IX25 rfl rfl hA96 h028 h129 ?_
        refine r_ldA [.int .i64 y22.Kind, .int .i64 y22.Amount] LD24 rfl rfl ((hv4 _ H13).csA hA96 hj30) ?_
        refine r_alloc [.int .i64 0, .int .i64 0] Try.zeroValue24 H13 rfl ?_
        intro b97 wd99 H98
        refine r_stA [.int .i64 y22.Kind, .int .i64 y22.Amount] LD24 rfl rfl rfl rfl H98 (by decide) rfl ?_
        intro wd101 H100
        refine r_seq ?_
        refine st_seq ?_
        refine st_seq ?_
        refine st_region ?_
        refine r_fa FA24_1 ⟨b97, 1, none⟩ rfl rfl ?_
        refine r_ld1 (.int .i64 y22.Amount) LD3 rfl ((H100.g0).cell _ rfl) ?_
        obtain ⟨y102, hy103, hm⟩ := bind_some hm
        refine r_callf Try.call24 (scutageref19_far_ok y22.Amount y102 H100 hy103) ?_
        rintro e106 wd105 ⟨rfl, H104⟩
        refine ⟨_, rfl, ?_⟩
        refine r_seq ?_
        rcases ite_some hm with ⟨hb107, hm⟩ | ⟨hb107, hm⟩
        · refine st_condt hb107 rfl ?_
          refine st_seq ?_
          refine st_region ?_
          refine r_pure (.slice none 0 0) rfl ?_
          refine r_pure (.int .i64 0) rfl ?_
          refine r_pure (.int .i64 1) rfl ?_
          refine r_seq ?_
          have H108 := H104.add (A := Row K24 (.slice none 0 0) []) Row.nil
          have hq_ := Option.some.inj hm
          subst hq_
          obtain ⟨rfl, rfl, rfl⟩ := some_inj3 (show some ((([] : List api_Item), 0, 1) : (List api_Item × Int × Int)) = some (r0_, r1_, r2_) from hm14)
          refine st_ret3 rfl rfl (Nat.le_of_ble_eq_true rfl) (Nat.le_of_ble_eq_true rfl) (Nat.le_of_ble_eq_true rfl) rfl rfl rfl ?_
          exact ⟨none, 0, 0, rfl, H108.u1.d⟩
        · refine st_condf hb107 rfl ?_
          refine st_skip ?_
          refine n_sq ?_
          refine st_region ?_
          refine r_pure (.int .i64 v12) rfl ?_
          refine r_fa FA24_1 ⟨b97, 1, none⟩ rfl rfl ?_
          refine r_ld1 (.int .i64 y22.Amount) LD3 rfl ((H104.g0).cell _ rfl) ?_
          refine r_pure (.int .i64 (w64 (v12 + y22.Amount))) rfl ?_
          refine r_pure (.int .i64 (w64 (v12 + y22.Amount))) rfl ?_
          refine r_nil ?_
          refine n_bl ?_
          refine n_sq ?_
          refine st_region ?_
          refine r_pure (.int .i64 (w64 (i17 + 1))) rfl ?_
          refine r_pure (.int .i64 (w64 (i17 + 1))) rfl ?_
          refine r_nil ?_
          refine n_round (IH25 _ _ rfl _ _ _ ⟨i17 + 1, w64 (v12 + y22.Amount), dn18 ++ [y22], rfl, range_more hxs19, range_len hi20, upk (ac rfl (ac rfl (ac rfl (ac rfl (ac rfl (ac hnx31 an)))))), H104.d⟩ hm)

set_option maxHeartbeats 2000000 in
theorem scutagekeep_Same_api_Item_ok {w0 w : World} {Γ : List (World → Prop)} (a_ : List api_Item) (A1 : Option Addr) (n6 c2 : Nat) (hn5 : n6 = a_.length) (hc3 : a_.length ≤ c2) (hv4 : ∀ u, Hp w0 Γ u → SlR K24 A1 a_ u) (b_ : List api_Item) (A7 : Option Addr) (n12 c8 : Nat) (hn11 : n12 = b_.length) (hc9 : b_.length ≤ c8) (hv10 : ∀ u, Hp w0 Γ u → SlR K24 A7 b_ u) (r0_ : Bool) (H : Hp w0 (Γ) w) (hm : scutagekeep_Same_api_Item a_ b_ = some r0_) : Calls Try.prog 13 #[.slice A1 n6 c2, .slice A7 n12 c8] w (fun e w => e = .returned (.bool r0_) ∧ Hp w0 (Γ) w) := by
  subst hn5
  subst hn11
  unfold scutagekeep_Same_api_Item at hm
  refine st_enter Try.func13 rfl Try.ntmps13 (Nat.le_of_ble_eq_true rfl) ?_
  refine st_seq ?_
  refine st_region ?_
  refine r_pure (.bool false) rfl ?_
  refine r_seq ?_
  refine st_seq ?_
  refine st_seq ?_
  refine st_region ?_
  refine r_pure (.slice A1 a_.length c2) rfl ?_
  refine r_len Try.underlying25 rfl ?_
  refine r_pure (.slice A7 b_.length c8) rfl ?_
  refine r_len Try.underlying25 rfl ?_
  refine r_pure (.bool ((a_.length : Int) != (b_.length : Int))) rfl ?_
  refine r_seq ?_
  rcases ite_some hm with ⟨hb13, hm⟩ | ⟨hb13, hm⟩
  · refine st_condt hb13 rfl ?_
    refine st_seq ?_
    refine st_region ?_
    refine r_pure (.bool false) rfl ?_
    refine r_seq ?_
    have hq_ := Option.some.inj hm
    subst hq_
    refine st_ret1 rfl rfl (Nat.le_of_ble_eq_true rfl) rfl ?_
    exact ⟨rfl, H⟩
  · refine st_condf hb13 rfl ?_
    refine st_skip ?_
    refine n_sq ?_
    refine st_seq ?_
    refine st_seq ?_
    refine st_region ?_
    refine r_pure (.int .i64 0) rfl ?_
    refine r_seq ?_
    refine st_block ?_
    obtain ⟨tl18, hl19, hm17⟩ := bind_some hm
    refine st_loopF (scutagekeep_Same_api_Item.l1 a_ b_) (fun s ρ w => ∃ v15 : Int, v15 = s ∧ (∃ base, ρ = updl base [(0, .slice A1 a_.length c2), (1, .slice A7 b_.length c8), (5, .int .i64 v15)]) ∧ Hp w0 (Γ) w) hl19 (fun _ => rfl) ⟨0, rfl, upk (ac rfl (ac rfl (ac rfl an))), H⟩ ?_
    rintro fuel25 IH27 s ρ w ⟨v15, rfl, ⟨base, rfl⟩, H16⟩ hm
    rw [scutagekeep_Same_api_Item.l1] at hm
    refine st_seq ?_
    refine st_seq ?_
    refine st_region ?_
    refine r_pure (.int .i64 v15) rfl ?_
    refine r_pure (.slice A1 a_.length c2) rfl ?_
    refine r_len Try.underlying25 rfl ?_
    refine r_pure (.bool (decide (v15 < (a_.length : Int)))) rfl ?_
    refine r_seq ?_
    rcases ite_some hm with ⟨hb28, hm⟩ | ⟨hb28, hm⟩
    · refine st_condt hb28 rfl ?_
      refine st_skip ?_
      refine n_sq ?_
      refine st_seq ?_
      refine st_block ?_
      refine st_seq ?_
      obtain ⟨⟨h030, h131⟩, hm⟩ := gd_some hm
      have hj32 := rd_get h030 h131
      obtain ⟨⟨h034, h135⟩, hm⟩ := gd_some hm
      have hj36 := rd_get h034 h135
      refine Flow.run' [[], [], [0, 1], [0, 1, 2], [], [], [4, 5], [4, 5, 6], [0, 1, 2, 3, 4, 5, 6, 7]] [(17, 0), (18, 1), (19, 2), (20, 3), (21, 4), (22, 5), (23, 6), (24, 7), (25, 8)] [(fun η29 v => v = .slice A1 a_.length c2), (fun η29 v => v = .int .i64 v15), (fun η29 v => v = .pointer (some ((oA A1).add (Int.toNat v15 * 2)))), (fun η29 v => v = .agg #[.int .i64 ((rd a_ v15).Kind), .int .i64 ((rd a_ v15).Amount)]), (fun η29 v => v = .slice A7 b_.length c8), (fun η29 v => v = .int .i64 v15), (fun η29 v => v = .pointer (some ((oA A7).add (Int.toNat v15 * 2)))), (fun η29 v => v = .agg #[.int .i64 ((rd b_ v15).Kind), .int .i64 ((rd b_ v15).Amount)]), (fun η29 v => v = .bool (!(((rd a_ v15).Kind) == ((rd b_ v15).Kind) && (((rd a_ v15).Amount) == ((rd b_ v15).Amount)))))] [] rfl (by kernel_rfl) (by kernel_rfl) H16 ⟨?_, ?_, ?_, ?_, ?_, ?_, ?_, ?_, ?_, trivial⟩ ?_
      · intro η29 wd41 Δ42 hE38 hR39 H40
        have H40 : Hp w0 ((Δ42 ++ Γ)) wd41 := H40
        refine sp_op [(0, .slice A1 a_.length c2)] (ac rfl an) ?_
        refine r_pure (.slice A1 a_.length c2) rfl ?_
        exact r_nil (n_lp ⟨_, rfl, rfl, H40⟩)
      · intro η29 wd46 Δ47 hE43 hR44 H45
        have H45 : Hp w0 ((Δ47 ++ Γ)) wd46 := H45
        refine sp_op [(5, .int .i64 v15)] (ac rfl an) ?_
        refine r_pure (.int .i64 v15) rfl ?_
        exact r_nil (n_lp ⟨_, rfl, rfl, H45⟩)
      · intro η29 wd51 Δ52 hE48 hR49 H50
        have H50 : Hp w0 ((Δ52 ++ Γ)) wd51 := H50
        refine sp_op [(17, .slice A1 a_.length c2), (18, .int .i64 v15)] (ac (hE48 0 (by decide)) (ac (hE48 1 (by decide)) an)) ?_
        have hA56 := (hv4 _ (H50).tl).adO hj32
        refine r_ix IX25 rfl rfl hA56 h030 h131 ?_
        exact r_nil (n_lp ⟨_, rfl, rfl, H50⟩)
      · intro η29 wd60 Δ61 hE57 hR58 H59
        have H59 : Hp w0 ((Δ61 ++ Γ)) wd60 := H59
        refine sp_op [(19, .pointer (some ((oA A1).add (Int.toNat v15 * 2))))] (ac (hE57 2 (by decide)) an) ?_
        have hA62 := (hv4 _ (H59).tl).adO hj32
        refine r_ldA [.int .i64 ((rd a_ v15).Kind), .int .i64 ((rd a_ v15).Amount)] LD24 rfl rfl ((hv4 _ (H59).tl).csA hA62 hj32) ?_
        exact r_nil (n_lp ⟨_, rfl, rfl, H59⟩)
      · intro η29 wd66 Δ67 hE63 hR64 H65
        have H65 : Hp w0 ((Δ67 ++ Γ)) wd66 := H65
        refine sp_op [(1, .slice A7 b_.length c8)] (ac rfl an) ?_
        refine r_pure (.slice A7 b_.length c8) rfl ?_
        exact r_nil (n_lp ⟨_, rfl, rfl, H65⟩)
      · intro η29 wd71 Δ72 hE68 hR69 H70
        have H70 : Hp w0 ((Δ72 ++ Γ)) wd71 := H70
        refine sp_op [(5, .int .i64 v15)] (ac rfl an) ?_
        refine r_pure (.int .i64 v15) rfl ?_
        exact r_nil (n_lp ⟨_, rfl, rfl, H70⟩)
      · intro η29 wd76 Δ77 hE73 hR74 H75
        have H75 : Hp w0 ((Δ77 ++ Γ)) wd76 := H75
        refine sp_op [(21, .slice A7 b_.length c8), (22, .int .i64 v15)] (ac (hE73 4 (by decide)) (ac (hE73 5 (by decide)) an)) ?_
        have hA81 := (hv10 _ (H75).tl).adO hj36
        refine r_ix IX25 rfl rfl hA81 h034 h135 ?_
        exact r_nil (n_lp ⟨_, rfl, rfl, H75⟩)
      · intro η29 wd85 Δ86 hE82 hR83 H84
        have H84 : Hp w0 ((Δ86 ++ Γ)) wd85 := H84
        refine sp_op [(23, .pointer (some ((oA A7).add (Int.toNat v15 * 2))))] (ac (hE82 6 (by decide)) an) ?_
        have hA87 := (hv10 _ (H84).tl).adO hj36
        refine r_ldA [.int .i64 ((rd b_ v15).Kind), .int .i64 ((rd b_ v15).Amount)] LD24 rfl rfl ((hv10 _ (H84).tl).csA hA87 hj36) ?_
        exact r_nil (n_lp ⟨_, rfl, rfl, H84⟩)
      · intro η29 wd91 Δ92 hE88 hR89 H90
        have H90 : Hp w0 ((Δ92 ++ Γ)) wd91 := H90
        refine sp_op [(20, .agg #[.int .i64 ((rd a_ v15).Kind), .int .i64 ((rd a_ v15).Amount)]), (24, .agg #[.int .i64 ((rd b_ v15).Kind), .int .i64 ((rd b_ v15).Amount)])] (ac (hE88 3 (by decide)) (ac (hE88 7 (by decide)) an)) ?_
        refine r_neS (EQ24 ((rd a_ v15).Kind) ((rd b_ v15).Kind) ((rd a_ v15).Amount) ((rd b_ v15).Amount)) (by decide) Try.eqGuardType24 rfl rfl ?_
        exact r_nil (n_lp ⟨_, rfl, rfl, H90⟩)
      · intro η29 wd94 hV95 H93
        have H96 : Hp w0 (Γ) wd94 := H93
        refine n_frame [(0, .slice A1 a_.length c2), (1, .slice A7 b_.length c8), (5, .int .i64 v15), (25, .bool (!(((rd a_ v15).Kind) == ((rd b_ v15).Kind) && (((rd a_ v15).Amount) == ((rd b_ v15).Amount)))))] (ac rfl (ac rfl (ac rfl (ac (hV95 8 rfl) an)))) ?_
        refine n_sq ?_
        rcases ite_some hm with ⟨hb97, hm⟩ | ⟨hb97, hm⟩
        · refine st_condt hb97 rfl ?_
          refine st_seq ?_
          refine st_region ?_
          refine r_pure (.bool false) rfl ?_
          refine r_seq ?_
          have hq_ := Option.some.inj hm
          subst hq_
          have hq_ := Option.some.inj (show some (false : Bool) = some r0_ from hm17)
          subst hq_
          refine st_ret1 rfl rfl (Nat.le_of_ble_eq_true rfl) rfl ?_
          exact ⟨rfl, H96⟩
        · refine st_condf hb97 rfl ?_
          refine st_skip ?_
          refine n_bl ?_
          refine n_sq ?_
          refine st_region ?_
          refine r_pure (.int .i64 v15) rfl ?_
          refine r_pure (.int .i64 (w64 (v15 + 1))) rfl ?_
          refine r_pure (.int .i64 (w64 (v15 + 1))) rfl ?_
          refine r_nil ?_
          refine n_round (IH27 _ _ _ ⟨w64 (v15 + 1), rfl, upk (ac rfl (ac rfl (ac rfl an))), H96⟩ hm)
    · refine st_condf hb28 rfl ?_
      have hq_ := Option.some.inj hm
      refine st_exit rfl ?_
      subst hq_
      refine n_sq ?_
      refine st_seq ?_
      refine st_region ?_
      refine r_pure (.bool true) rfl ?_
      refine r_seq ?_
      have hq_ := Option.some.inj hm17
      subst hq_
      refine st_ret1 rfl rfl (Nat.le_of_ble_eq_true rfl) rfl ?_
      exact ⟨rfl, H16⟩

set_option maxHeartbeats 2000000 in
theorem slices_Grow_api_Item_nil0_ok {w0 w : World} {Γ : List (World → Prop)} (n_ : Int) (r0_ : List api_Item) (H : Hp w0 (Γ) w) (hm : slices_Grow_api_Item_nil0 n_ = some r0_) : Calls Try.prog 26 #[.slice none 0 0, .int .i64 n_] w (fun e w => ∃ (Ax1 : Option Addr) (nx2 cx3 : Nat), e = .returned (.slice Ax1 nx2 cx3) ∧ Hp w0 (Row K24 (.slice Ax1 nx2 cx3) r0_ :: Γ) w) := by
  unfold slices_Grow_api_Item_nil0 at hm
  refine st_enter Try.func26 rfl Try.ntmps26 (Nat.le_of_ble_eq_true rfl) ?_
  refine st_seq ?_
  refine st_region ?_
  refine r_pure (.slice none 0 0) rfl ?_
  refine r_seq ?_
  refine st_seq ?_
  refine st_seq ?_
  refine st_region ?_
  refine r_pure (.int .i64 n_) rfl ?_
  refine r_pure (.bool (decide (n_ < 0))) rfl ?_
  refine r_seq ?_
  rcases ite_some hm with ⟨hb1, hm⟩ | ⟨hb1, hm⟩
  · refine st_condt hb1 rfl ?_
    refine st_region ?_
    cases hm
  · refine st_condf hb1 rfl ?_
    refine st_skip ?_
    refine n_sq ?_
    refine st_cut (fun ρ w => ∃ A4 : Option Addr, ∃ n5 : Nat, ∃ c6 : Nat, ∃ xs7 : List api_Item, (∃ base, ρ = updl base [(0, .slice A4 n5 c6)]) ∧ Hp w0 (Row K24 (.slice A4 n5 c6) xs7 :: Γ) w ∧ slices_Grow_api_Item_nil0.j1 xs7 = some r0_) ?_ ?_
    · refine st_seq ?_
      refine st_region ?_
      refine r_pure (.int .i64 n_) rfl ?_
      refine r_pure (.slice none 0 0) rfl ?_
      refine r_cap Try.underlying25 rfl ?_
      refine r_pure (.slice none 0 0) rfl ?_
      refine r_len Try.underlying25 rfl ?_
      refine r_pure (.int .i64 0) rfl ?_
      refine r_pure (.int .i64 (w64 (n_ - 0))) rfl ?_
      refine r_pure (.int .i64 (w64 (n_ - 0))) rfl ?_
      refine r_seq ?_
      refine st_seq ?_
      refine st_region ?_
      refine r_pure (.int .i64 (w64 (n_ - 0))) rfl ?_
      refine r_pure (.bool (decide (w64 (n_ - 0) > 0))) rfl ?_
      refine r_seq ?_
      rcases ite_some hm with ⟨hb9, hm⟩ | ⟨hb9, hm⟩
      · refine st_condt hb9 rfl ?_
        refine st_region ?_
        refine r_pure (.slice none 0 0) rfl ?_
        refine r_pure (.slice none 0 0) rfl ?_
        refine r_cap Try.underlying25 rfl ?_
        refine r_cut2 (xs := ([] : List api_Item)) (lo := 0) (hi := 0) IX25 rfl rfl (Nat.le_refl _) ⟨_, rfl⟩ rfl (by decide) ?_
        refine r_pure (.int .i64 (w64 (n_ - 0))) rfl ?_
        obtain ⟨⟨h10, hf11⟩, hm⟩ := gd_some hm
        refine r_appendZ (K := K24) (zc := (⟨0, 0⟩ : api_Item)) AP25 Try.underlying3 rfl rfl ZV24 rfl rfl h10 H (by have := fit_le hf11 (b := 0) (by_ := 16) (by decide); simpa using this) ?_
        intro A12 c13 wd14 H15
        refine r_pure (.slice none 0 0) rfl ?_
        refine r_len Try.underlying25 rfl ?_
        obtain ⟨hs16, hm⟩ := gd_some hm
        refine r_cut2 (xs := List.replicate (Int.toNat (w64 (n_ - 0))) (⟨0, 0⟩ : api_Item)) (lo := (0 : Int)) (hi := 0) IX25 rfl rfl (H15.g0.cap) ⟨_, rfl⟩ rfl hs16 ?_
        refine r_pure (.slice (cutA A12 (0 : Int) (c13 : Int) 2) ((sb (List.replicate (Int.toNat (w64 (n_ - 0))) (⟨0, 0⟩ : api_Item)) (0 : Int) 0).length) (c13 - Int.toNat (0 : Int))) rfl ?_
        refine r_nil ?_
        have H17 : Hp w0 (Row K24 (.slice (cutA A12 (0 : Int) (c13 : Int) 2) ((sb (List.replicate (Int.toNat (w64 (n_ - 0))) (⟨0, 0⟩ : api_Item)) (0 : Int) 0).length) (c13 - Int.toNat (0 : Int))) (sb (List.replicate (Int.toNat (w64 (n_ - 0))) (⟨0, 0⟩ : api_Item)) (0 : Int) 0) :: _) _ := H15.imp fun _ h_ => h_.sb hs16.1 hs16.2.1 (by have := (H15.g0.cap); have := hs16; omega) (Int.le_refl _) hs16.2.2
        refine n_cut ⟨(cutA A12 (0 : Int) (c13 : Int) 2), (sb (List.replicate (Int.toNat (w64 (n_ - 0))) (⟨0, 0⟩ : api_Item)) (0 : Int) 0).length, (c13 - Int.toNat (0 : Int)), sb (List.replicate (Int.toNat (w64 (n_ - 0))) (⟨0, 0⟩ : api_Item)) (0 : Int) 0, upk (ac rfl an), H17, hm⟩
      · refine st_condf hb9 rfl ?_
        refine st_skip ?_
        have H18 := H.add (A := Row K24 (.slice none 0 0) []) Row.nil
        refine n_cut ⟨none, 0, 0, ([] : List api_Item), upk (ac rfl an), H18, hm⟩
    · rintro ρ w ⟨A4, n5, c6, xs7, ⟨base, rfl⟩, H8, hm⟩
      obtain rfl := (H8.g0).leneq
      unfold slices_Grow_api_Item_nil0.j1 at hm
      refine st_seq ?_
      refine st_region ?_
      refine r_pure (.slice A4 xs7.length c6) rfl ?_
      refine r_pure (.slice A4 xs7.length c6) rfl ?_
      refine r_seq ?_
      have hq_ := Option.some.inj hm
      subst hq_
      refine st_ret1 rfl rfl (Nat.le_of_ble_eq_true rfl) rfl ?_
      exact ⟨A4, xs7.length, c6, rfl, H8⟩

set_option maxHeartbeats 2000000 in
theorem slices_Concat_api_Item_elems0_ok {w0 w : World} {Γ : List (World → Prop)} (slices0 : List api_Item) (A1 : Option Addr) (n6 c2 : Nat) (hn5 : n6 = slices0.length) (hc3 : slices0.length ≤ c2) (hv4 : ∀ u, Hp w0 Γ u → SlR K24 A1 slices0 u) (slices1 : List api_Item) (A7 : Option Addr) (n12 c8 : Nat) (hn11 : n12 = slices1.length) (hc9 : slices1.length ≤ c8) (hv10 : ∀ u, Hp w0 Γ u → SlR K24 A7 slices1 u) (A13 : Option Addr) (c14 : Nat) (hc15 : 2 ≤ c14) (hv16 : ∀ u, Hp w0 Γ u → SlR (Kr 25 1 (by decide)) A13 [(⟨[.slice A1 n6 c2], rfl, rfl⟩ : Raw 1), (⟨[.slice A7 n12 c8], rfl, rfl⟩ : Raw 1)] u) (r0_ : List api_Item) (H : Hp w0 (Γ) w) (hm : slices_Concat_api_Item_elems0 slices0 slices1 = some r0_) : Calls Try.prog 17 #[.slice A13 2 c14] w (fun e w => ∃ (Ax1 : Option Addr) (nx2 cx3 : Nat), e = .returned (.slice Ax1 nx2 cx3) ∧ Hp w0 (Row K24 (.slice Ax1 nx2 cx3) r0_ :: Γ) w) := by
  subst hn5
  subst hn11
  unfold slices_Concat_api_Item_elems0 at hm
  refine st_enter Try.func17 rfl Try.ntmps17 (Nat.le_of_ble_eq_true rfl) ?_
  refine st_seq ?_
  refine st_region ?_
  refine r_pure (.slice none 0 0) rfl ?_
  refine r_seq ?_
  refine st_seq ?_
  refine st_region ?_
  refine r_pure (.int .i64 0) rfl ?_
  refine r_seq ?_
  refine st_seq ?_
  refine st_seq ?_
  refine st_region ?_
  refine r_pure (.slice A13 2 c14) rfl ?_
  refine r_len Try.underlying49 rfl ?_
  refine r_pure (.int .i64 0) rfl ?_
  refine r_seq ?_
  refine st_block ?_
  refine st_loop 3 ?_
  refine l_round ?_
  refine st_seq ?_
  refine st_region ?_
  refine r_pure (.bool (decide (0 < 2))) rfl ?_
  refine r_seq ?_
  refine st_seq ?_
  refine st_condt (by decide) rfl ?_
  refine st_skip ?_
  refine n_sq ?_
  refine st_seq ?_
  refine st_block ?_
  refine st_seq ?_
  refine st_region ?_
  have hA17 := (hv16 _ H).adO (show ([(⟨[.slice A1 slices0.length c2], rfl, rfl⟩ : Raw 1), (⟨[.slice A7 slices1.length c8], rfl, rfl⟩ : Raw 1)])[Int.toNat 0]? = some _ from rfl)
  refine r_ix IX49 rfl rfl hA17 (by decide) (by decide) ?_
  refine r_ld1 (.slice A1 slices0.length c2) LD25 rfl ((hv16 _ H).c0A hA17 (show ([(⟨[.slice A1 slices0.length c2], rfl, rfl⟩ : Raw 1), (⟨[.slice A7 slices1.length c8], rfl, rfl⟩ : Raw 1)])[Int.toNat 0]? = some _ from rfl) _ rfl) ?_
  refine r_pure (.slice A1 slices0.length c2) rfl ?_
  refine r_seq ?_
  refine st_seq ?_
  refine st_region ?_
  refine r_pure (.int .i64 0) rfl ?_
  refine r_pure (.slice A1 slices0.length c2) rfl ?_
  refine r_len Try.underlying25 rfl ?_
  refine r_pure (.int .i64 (w64 (0 + (slices0.length : Int)))) rfl ?_
  refine r_pure (.int .i64 (w64 (0 + (slices0.length : Int)))) rfl ?_
  refine r_seq ?_
  refine st_seq ?_
  refine st_region ?_
  refine r_pure (.int .i64 (w64 (0 + (slices0.length : Int)))) rfl ?_
  refine r_pure (.bool (decide (w64 (0 + (slices0.length : Int)) < 0))) rfl ?_
  refine r_seq ?_
  rcases ite_some hm with ⟨hb18, hm⟩ | ⟨hb18, hm⟩
  · refine st_condt hb18 rfl ?_
    refine st_region ?_
    cases hm
  · refine st_condf hb18 rfl ?_
    refine st_skip ?_
    refine n_bl ?_
    refine n_sq ?_
    refine st_region ?_
    refine r_pure (.int .i64 1) rfl ?_
    refine r_pure (.int .i64 1) rfl ?_
    refine r_nil ?_
    refine n_round ?_
    refine l_round ?_
    refine st_seq ?_
    refine st_region ?_
    refine r_pure (.bool (decide (1 < 2))) rfl ?_
    refine r_seq ?_
    refine st_seq ?_
    refine st_condt (by decide) rfl ?_
    refine st_skip ?_
    refine n_sq ?_
    refine st_seq ?_
    refine st_block ?_
    refine st_seq ?_
    refine st_region ?_
    refine r_ix IX49 rfl rfl hA17 (by decide) (by decide) ?_
    refine r_ld1 (.slice A7 slices1.length c8) LD25 rfl ((hv16 _ H).c0A hA17 (show ([(⟨[.slice A1 slices0.length c2], rfl, rfl⟩ : Raw 1), (⟨[.slice A7 slices1.length c8], rfl, rfl⟩ : Raw 1)])[Int.toNat 1]? = some _ from rfl) _ rfl) ?_
    refine r_pure (.slice A7 slices1.length c8) rfl ?_
    refine r_seq ?_
    refine st_seq ?_
    refine st_region ?_
    refine r_pure (.int .i64 (w64 (0 + (slices0.length : Int)))) rfl ?_
    refine r_pure (.slice A7 slices1.length c8) rfl ?_
    refine r_len Try.underlying25 rfl ?_
    refine r_pure (.int .i64 (w64 (w64 (0 + (slices0.length : Int)) + (slices1.length : Int)))) rfl ?_
    refine r_pure (.int .i64 (w64 (w64 (0 + (slices0.length : Int)) + (slices1.length : Int)))) rfl ?_
    refine r_seq ?_
    refine st_seq ?_
    refine st_region ?_
    refine r_pure (.int .i64 (w64 (w64 (0 + (slices0.length : Int)) + (slices1.length : Int)))) rfl ?_
    refine r_pure (.bool (decide (w64 (w64 (0 + (slices0.length : Int)) + (slices1.length : Int)) < 0))) rfl ?_
    refine r_seq ?_
    rcases ite_some hm with ⟨hb19, hm⟩ | ⟨hb19, hm⟩
    · refine st_condt hb19 rfl ?_
      refine st_region ?_
      cases hm
    · refine st_condf hb19 rfl ?_
      refine st_skip ?_
      refine n_bl ?_
      refine n_sq ?_
      refine st_region ?_
      refine r_pure (.int .i64 2) rfl ?_
      refine r_pure (.int .i64 2) rfl ?_
      refine r_nil ?_
      refine n_round ?_
      refine l_round ?_
      refine st_seq ?_
      refine st_region ?_
      refine r_pure (.bool (decide (2 < 2))) rfl ?_
      refine r_seq ?_
      refine st_seq ?_
      refine st_condf (by decide) rfl ?_
      refine st_exit rfl ?_
      refine n_sq ?_
      refine st_seq ?_
      refine st_region ?_
      refine r_pure (.int .i64 (w64 (w64 (0 + (slices0.length : Int)) + (slices1.length : Int)))) rfl ?_
      obtain ⟨y20, hy21, hm⟩ := bind_some hm
      refine r_callf Try.call26 (slices_Grow_api_Item_nil0_ok (w64 (w64 (0 + (slices0.length : Int)) + (slices1.length : Int))) y20 H hy21) ?_
      rintro e27 wd26 ⟨A22, n23, c24, rfl, H25⟩
      obtain rfl := (H25.g0).leneq
      refine ⟨_, rfl, ?_⟩
      refine r_pure (.slice A22 y20.length c24) rfl ?_
      refine r_seq ?_
      refine st_seq ?_
      refine st_seq ?_
      refine st_region ?_
      refine r_pure (.slice A13 2 c14) rfl ?_
      refine r_len Try.underlying49 rfl ?_
      refine r_pure (.int .i64 0) rfl ?_
      refine r_seq ?_
      refine st_block ?_
      refine st_loop 3 ?_
      refine l_round ?_
      refine st_seq ?_
      refine st_region ?_
      refine r_pure (.bool (decide (0 < 2))) rfl ?_
      refine r_seq ?_
      refine st_seq ?_
      refine st_condt (by decide) rfl ?_
      refine st_skip ?_
      refine n_sq ?_
      refine st_seq ?_
      refine st_block ?_
      refine st_seq ?_
      refine st_region ?_
      refine r_ix IX49 rfl rfl hA17 (by decide) (by decide) ?_
      refine r_ld1 (.slice A1 slices0.length c2) LD25 rfl ((hv16 _ H25.d).c0A hA17 (show ([(⟨[.slice A1 slices0.length c2], rfl, rfl⟩ : Raw 1), (⟨[.slice A7 slices1.length c8], rfl, rfl⟩ : Raw 1)])[Int.toNat 0]? = some _ from rfl) _ rfl) ?_
      refine r_pure (.slice A1 slices0.length c2) rfl ?_
      refine r_seq ?_
      refine st_region ?_
      refine r_pure (.slice A22 y20.length c24) rfl ?_
      refine r_pure (.slice A1 slices0.length c2) rfl ?_
      obtain ⟨hf28, hm⟩ := gd_some hm
      refine r_append (K := K24) (ys := slices0) AP25 rfl rfl rfl rfl H25 ((hv4 _ H25.d).src) (fit_le hf28 (by decide)) ?_
      intro A29 c30 wd31 H32
      refine r_pure (.slice A29 ((y20 ++ slices0).length) c30) rfl ?_
      refine r_nil ?_
      refine n_bl ?_
      refine n_sq ?_
      refine st_region ?_
      refine r_pure (.int .i64 1) rfl ?_
      refine r_pure (.int .i64 1) rfl ?_
      refine r_nil ?_
      refine n_round ?_
      refine l_round ?_
      refine st_seq ?_
      refine st_region ?_
      refine r_pure (.bool (decide (1 < 2))) rfl ?_
      refine r_seq ?_
      refine st_seq ?_
      refine st_condt (by decide) rfl ?_
      refine st_skip ?_
      refine n_sq ?_
      refine st_seq ?_
      refine st_block ?_
      refine st_seq ?_
      refine st_region ?_
      refine r_ix IX49 rfl rfl hA17 (by decide) (by decide) ?_
      refine r_ld1 (.slice A7 slices1.length c8) LD25 rfl ((hv16 _ H32.d).c0A hA17 (show ([(⟨[.slice A1 slices0.length c2], rfl, rfl⟩ : Raw 1), (⟨[.slice A7 slices1.length c8], rfl, rfl⟩ : Raw 1)])[Int.toNat 1]? = some _ from rfl) _ rfl) ?_
      refine r_pure (.slice A7 slices1.length c8) rfl ?_
      refine r_seq ?_
      refine st_region ?_
      refine r_pure (.slice A29 ((y20 ++ slices0).length) c30) rfl ?_
      refine r_pure (.slice A7 slices1.length c8) rfl ?_
      obtain ⟨hf33, hm⟩ := gd_some hm
      refine r_append (K := K24) (ys := slices1) AP25 rfl rfl rfl rfl H32 ((hv10 _ H32.d).src) (fit_le hf33 (by decide)) ?_
      intro A34 c35 wd36 H37
      refine r_pure (.slice A34 (((y20 ++ slices0) ++ slices1).length) c35) rfl ?_
      refine r_nil ?_
      refine n_bl ?_
      refine n_sq ?_
      refine st_region ?_
      refine r_pure (.int .i64 2) rfl ?_
      refine r_pure (.int .i64 2) rfl ?_
      refine r_nil ?_
      refine n_round ?_
      refine l_round ?_
      refine st_seq ?_
      refine st_region ?_
      refine r_pure (.bool (decide (2 < 2))) rfl ?_
      refine r_seq ?_
      refine st_seq ?_
      refine st_condf (by decide) rfl ?_
      refine st_exit rfl ?_
      refine n_sq ?_
      refine st_seq ?_
      refine st_region ?_
      refine r_pure (.slice A34 (((y20 ++ slices0) ++ slices1).length) c35) rfl ?_
      refine r_pure (.slice A34 (((y20 ++ slices0) ++ slices1).length) c35) rfl ?_
      refine r_seq ?_
      have hq_ := Option.some.inj hm
      subst hq_
      refine st_ret1 rfl rfl (Nat.le_of_ble_eq_true rfl) rfl ?_
      exact ⟨A34, ((y20 ++ slices0) ++ slices1).length, c35, rfl, H37⟩

set_option maxHeartbeats 2000000 in
theorem slices_IndexFunc_api_Item_ok {w0 w : World} {Γ : List (World → Prop)} (s_ : List api_Item) (A1 : Option Addr) (n6 c2 : Nat) (hn5 : n6 = s_.length) (hc3 : s_.length ≤ c2) (hv4 : ∀ u, Hp w0 Γ u → SlR K24 A1 s_ u) (fv7 : Value) (f_ : api_Item → Option Bool) (hp8 : FnOk Try.prog w0 Γ fv7 (fun x => [.agg #[.int .i64 x.Kind, .int .i64 x.Amount]]) (fun r => .bool r) f_) (r0_ : Int) (H : Hp w0 (Γ) w) (hm : slices_IndexFunc_api_Item s_ f_ = some r0_) : Calls Try.prog 18 #[.slice A1 n6 c2, fv7] w (fun e w => e = .returned (.int .i64 r0_) ∧ Hp w0 (Γ) w) := by
  subst hn5
  obtain ⟨gf9, gcap10, rfl, ge11, gp12⟩ := hp8
  unfold slices_IndexFunc_api_Item at hm
  refine st_enter Try.func18 rfl Try.ntmps18 (Nat.le_of_ble_eq_true rfl) ?_
  refine st_seq ?_
  refine st_region ?_
  refine r_pure (.int .i64 0) rfl ?_
  refine r_seq ?_
  refine st_seq ?_
  refine st_seq ?_
  refine st_region ?_
  refine r_pure (.slice A1 s_.length c2) rfl ?_
  refine r_len Try.underlying25 rfl ?_
  refine r_pure (.int .i64 0) rfl ?_
  refine r_seq ?_
  refine st_block ?_
  have hlim32 := (hv4 _ H).lim
  obtain ⟨tl15, hl16, hm14⟩ := bind_some hm
  refine st_loopL (slices_IndexFunc_api_Item.l1 f_) (fun ys21 s ρ w => ∃ i17 : Int, ∃ dn18 : List api_Item, i17 = s ∧ s_ = dn18 ++ ys21 ∧ i17 = (dn18.length : Int) ∧ (∃ base, ρ = updl base [(0, .slice A1 s_.length c2), (1, .func (.func gf9) #[] (List.toArray gcap10)), (7, .int .i64 (s_.length : Int)), (8, .int .i64 i17)]) ∧ Hp w0 (Γ) w) hl16 ⟨0, [], rfl, rfl, rfl, upk (ac rfl (ac rfl (ac rfl (ac rfl an)))), H⟩ ?_
  rintro m ys21 IH25 s ρ w ⟨i17, dn18, rfl, hxs19, hi20, ⟨base, rfl⟩, H13⟩ hm
  rcases ys21 with _ | ⟨y22, ys21⟩
  · rw [slices_IndexFunc_api_Item.l1] at hm
    have hb26 := range_end hxs19 hi20
    refine st_seq ?_
    refine st_region ?_
    refine r_pure (.bool (decide (i17 < (s_.length : Int)))) rfl ?_
    refine r_seq ?_
    refine st_seq ?_
    refine st_condf hb26 rfl ?_
    have hq_ := Option.some.inj hm
    refine st_exit rfl ?_
    subst hq_
    refine n_sq ?_
    refine st_seq ?_
    refine st_region ?_
    refine r_pure (.int .i64 (-1)) rfl ?_
    refine r_seq ?_
    have hq_ := Option.some.inj hm14
    subst hq_
    refine st_ret1 rfl rfl (Nat.le_of_ble_eq_true rfl) rfl ?_
    exact ⟨rfl, H13⟩
  · rw [slices_IndexFunc_api_Item.l1] at hm
    have hb27 := range_in hxs19 hi20
    obtain ⟨h028, h129, hj30⟩ := range_ix hxs19 hi20
    have hnx31 := range_next hxs19 hi20 hlim32
    refine st_seq ?_
    refine st_region ?_
    refine r_pure (.bool (decide (i17 < (s_.length : Int)))) rfl ?_
    refine r_seq ?_
    refine st_seq ?_
    refine st_condt hb27 rfl ?_
    refine st_skip ?_
    refine n_sq ?_
    refine st_seq ?_
    refine st_block ?_
    refine st_seq ?_
    refine st_region ?_
    refine r_pure (.int .i64 i17) rfl ?_
    refine r_pure (.int .i64 i17) rfl ?_
    refine r_seq ?_
    refine st_seq ?_
    refine st_region ?_
    refine r_pure (.func (.func gf9) #[] (List.toArray gcap10)) rfl ?_
    refine r_pure (.slice A1 s_.length c2) rfl ?_
    refine r_pure (.int .i64 i17) rfl ?_
    have hA33 := (hv4 _ H13).adO hj30
    refine r_ix IX25 rfl rfl hA33 h028 h129 ?_
    refine r_ldA [.int .i64 y22.Kind, .int .i64 y22.Amount] LD24 rfl rfl ((hv4 _ H13).csA hA33 hj30) ?_
    obtain ⟨y34, hy35, hm⟩ := bind_some hm
    refine r_callv rfl ge11 (gp12 _ _ hy35 _ _ H13 (fun _ H => H)) ?_
    rintro e38 wd37 ⟨rfl, H36⟩
    refine ⟨_, rfl, ?_⟩
    refine r_seq ?_
    rcases ite_some hm with ⟨hb39, hm⟩ | ⟨hb39, hm⟩
    · refine st_condt hb39 rfl ?_
      refine st_seq ?_
      refine st_region ?_
      refine r_pure (.int .i64 i17) rfl ?_
      refine r_pure (.int .i64 i17) rfl ?_
      refine r_seq ?_
      have hq_ := Option.some.inj hm
      subst hq_
      have hq_ := Option.some.inj (show some (i17 : Int) = some r0_ from hm14)
      subst hq_
      refine st_ret1 rfl rfl (Nat.le_of_ble_eq_true rfl) rfl ?_
      exact ⟨rfl, H36⟩
    · refine st_condf hb39 rfl ?_
      refine st_skip ?_
      refine n_bl ?_
      refine n_sq ?_
      refine st_region ?_
      refine r_pure (.int .i64 (w64 (i17 + 1))) rfl ?_
      refine r_pure (.int .i64 (w64 (i17 + 1))) rfl ?_
      refine r_nil ?_
      refine n_round (IH25 _ _ rfl _ _ _ ⟨i17 + 1, dn18 ++ [y22], rfl, range_more hxs19, range_len hi20, upk (ac rfl (ac rfl (ac rfl (ac hnx31 an)))), H36⟩ hm)

set_option maxHeartbeats 2000000 in
theorem fx_Add_c1_ok {w0 w : World} {Γ : List (World → Prop)} (y_ : api_Item) (b2 : Nat) (cap1 : api_Item) (hv3 : ∀ u, Hp w0 Γ u → Bx b2 24 [.int .i64 cap1.Kind, .int .i64 cap1.Amount] u) (r0_ : Bool) (H : Hp w0 (Γ) w) (hm : fx_Add_c1 y_ cap1 = some r0_) : Calls Try.prog 19 #[.agg #[.int .i64 y_.Kind, .int .i64 y_.Amount], .pointer (some ⟨b2, 0, none⟩)] w (fun e w => e = .returned (.bool r0_) ∧ Hp w0 (Γ) w) := by
  unfold fx_Add_c1 at hm
  refine st_enter Try.func19 rfl Try.ntmps19 (Nat.le_of_ble_eq_true rfl) ?_
  refine st_seq ?_
  refine st_region ?_
  refine r_box [.int .i64 y_.Kind, .int .i64 y_.Amount] H rfl ?_
  intro b4 wd6 H5
  refine r_pure (.bool false) rfl ?_
  refine r_seq ?_
  refine st_seq ?_
  refine st_region ?_
  refine r_fa FA24_0 ⟨b4, 0, none⟩ rfl rfl ?_
  refine r_ld1 (.int .i64 y_.Kind) LD3 rfl ((H5.g0).cell _ rfl) ?_
  refine r_fa FA24_0 ⟨b2, 0, none⟩ rfl rfl ?_
  refine r_ld1 (.int .i64 cap1.Kind) LD3 rfl ((hv3 _ H5.d).cell _ rfl) ?_
  refine r_pure (.bool (y_.Kind == cap1.Kind)) rfl ?_
  refine r_pure (.bool (y_.Kind == cap1.Kind)) rfl ?_
  refine r_seq ?_
  have hq_ := Option.some.inj hm
  subst hq_
  refine st_ret1 rfl rfl (Nat.le_of_ble_eq_true rfl) rfl ?_
  exact ⟨rfl, H5.d⟩

set_option maxHeartbeats 2000000 in
theorem math_bits_Len64_ok {w0 w : World} {Γ : List (World → Prop)} (x_ : Int) (r0_ : Int) (H : Hp w0 (Γ) w) (hm : math_bits_Len64 x_ = some r0_) : Calls Try.prog 40 #[.int .u64 x_] w (fun e w => e = .returned (.int .i64 r0_) ∧ Hp w0 (Γ) w) := by
  unfold math_bits_Len64 at hm
  refine st_enter Try.func40 rfl Try.ntmps40 (Nat.le_of_ble_eq_true rfl) ?_
  refine st_seq ?_
  refine st_region ?_
  refine r_pure (.int .i64 0) rfl ?_
  refine r_seq ?_
  refine st_seq ?_
  refine st_seq ?_
  refine st_region ?_
  refine r_pure (.int .u64 x_) rfl ?_
  refine r_pure (.bool (decide (x_ ≥ 4294967296))) rfl ?_
  refine r_seq ?_
  rcases ite_some hm with ⟨hb1, hm⟩ | ⟨hb1, hm⟩
  · cases hm
  · refine st_condf hb1 rfl ?_
    refine st_skip ?_
    refine n_sq ?_
    refine st_seq ?_
    refine st_seq ?_
    refine st_region ?_
    refine r_pure (.int .u64 x_) rfl ?_
    refine r_pure (.bool (decide (x_ ≥ 65536))) rfl ?_
    refine r_seq ?_
    rcases ite_some hm with ⟨hb2, hm⟩ | ⟨hb2, hm⟩
    · cases hm
    · refine st_condf hb2 rfl ?_
      refine st_skip ?_
      refine n_sq ?_
      refine st_seq ?_
      refine st_seq ?_
      refine st_region ?_
      refine r_pure (.int .u64 x_) rfl ?_
      refine r_pure (.bool (decide (x_ ≥ 256))) rfl ?_
      refine r_seq ?_
      rcases ite_some hm with ⟨hb3, hm⟩ | ⟨hb3, hm⟩
      · cases hm
      · refine st_condf hb3 rfl ?_
        refine st_skip ?_
        refine n_sq ?_
        refine st_seq ?_
        refine st_region ?_
        refine r_pure (.int .i64 0) rfl ?_
        refine r_pure (.int .u64 x_) rfl ?_
        refine r_conv Try.underlying64 Try.underlying5 rfl ?_
        obtain ⟨h4, hm⟩ := gd_some hm
        refine r_byte Try.underlying9 rfl rfl h4 ?_
        refine r_conv Try.underlying5 Try.underlying3 rfl ?_
        refine r_pure (.int .i64 (w64 (0 + w64 (byteAt (⟨#[0, 1, 2, 2, 3, 3, 3, 3, 4, 4, 4, 4, 4, 4, 4, 4, 5, 5, 5, 5, 5, 5, 5, 5, 5, 5, 5, 5, 5, 5, 5, 5, 6, 6, 6, 6, 6, 6, 6, 6, 6, 6, 6, 6, 6, 6, 6, 6, 6, 6, 6, 6, 6, 6, 6, 6, 6, 6, 6, 6, 6, 6, 6, 6, 7, 7, 7, 7, 7, 7, 7, 7, 7, 7, 7, 7, 7, 7, 7, 7, 7, 7, 7, 7, 7, 7, 7, 7, 7, 7, 7, 7, 7, 7, 7, 7, 7, 7, 7, 7, 7, 7, 7, 7, 7, 7, 7, 7, 7, 7, 7, 7, 7, 7, 7, 7, 7, 7, 7, 7, 7, 7, 7, 7, 7, 7, 7, 7, 8, 8, 8, 8, 8, 8, 8, 8, 8, 8, 8, 8, 8, 8, 8, 8, 8, 8, 8, 8, 8, 8, 8, 8, 8, 8, 8, 8, 8, 8, 8, 8, 8, 8, 8, 8, 8, 8, 8, 8, 8, 8, 8, 8, 8, 8, 8, 8, 8, 8, 8, 8, 8, 8, 8, 8, 8, 8, 8, 8, 8, 8, 8, 8, 8, 8, 8, 8, 8, 8, 8, 8, 8, 8, 8, 8, 8, 8, 8, 8, 8, 8, 8, 8, 8, 8, 8, 8, 8, 8, 8, 8, 8, 8, 8, 8, 8, 8, 8, 8, 8, 8, 8, 8, 8, 8, 8, 8, 8, 8, 8, 8, 8, 8, 8, 8, 8, 8, 8, 8, 8, 8, 8, 8, 8, 8, 8, 8]⟩ : ByteArray) (IntKind.u8.wrap x_))))) rfl ?_
        refine r_pure (.int .i64 (w64 (0 + w64 (byteAt (⟨#[0, 1, 2, 2, 3, 3, 3, 3, 4, 4, 4, 4, 4, 4, 4, 4, 5, 5, 5, 5, 5, 5, 5, 5, 5, 5, 5, 5, 5, 5, 5, 5, 6, 6, 6, 6, 6, 6, 6, 6, 6, 6, 6, 6, 6, 6, 6, 6, 6, 6, 6, 6, 6, 6, 6, 6, 6, 6, 6, 6, 6, 6, 6, 6, 7, 7, 7, 7, 7, 7, 7, 7, 7, 7, 7, 7, 7, 7, 7, 7, 7, 7, 7, 7, 7, 7, 7, 7, 7, 7, 7, 7, 7, 7, 7, 7, 7, 7, 7, 7, 7, 7, 7, 7, 7, 7, 7, 7, 7, 7, 7, 7, 7, 7, 7, 7, 7, 7, 7, 7, 7, 7, 7, 7, 7, 7, 7, 7, 8, 8, 8, 8, 8, 8, 8, 8, 8, 8, 8, 8, 8, 8, 8, 8, 8, 8, 8, 8, 8, 8, 8, 8, 8, 8, 8, 8, 8, 8, 8, 8, 8, 8, 8, 8, 8, 8, 8, 8, 8, 8, 8, 8, 8, 8, 8, 8, 8, 8, 8, 8, 8, 8, 8, 8, 8, 8, 8, 8, 8, 8, 8, 8, 8, 8, 8, 8, 8, 8, 8, 8, 8, 8, 8, 8, 8, 8, 8, 8, 8, 8, 8, 8, 8, 8, 8, 8, 8, 8, 8, 8, 8, 8, 8, 8, 8, 8, 8, 8, 8, 8, 8, 8, 8, 8, 8, 8, 8, 8, 8, 8, 8, 8, 8, 8, 8, 8, 8, 8, 8, 8, 8, 8, 8, 8, 8, 8]⟩ : ByteArray) (IntKind.u8.wrap x_))))) rfl ?_
        refine r_seq ?_
        have hq_ := Option.some.inj hm
        subst hq_
        refine st_ret1 rfl rfl (Nat.le_of_ble_eq_true rfl) rfl ?_
        exact ⟨rfl, H⟩

set_option maxHeartbeats 2000000 in
theorem math_bits_Len_ok {w0 w : World} {Γ : List (World → Prop)} (x_ : Int) (r0_ : Int) (H : Hp w0 (Γ) w) (hm : math_bits_Len x_ = some r0_) : Calls Try.prog 28 #[.int .u64 x_] w (fun e w => e = .returned (.int .i64 r0_) ∧ Hp w0 (Γ) w) := by
  unfold math_bits_Len at hm
  refine st_enter Try.func28 rfl Try.ntmps28 (Nat.le_of_ble_eq_true rfl) ?_
  refine st_seq ?_
  refine st_region ?_
  refine r_pure (.int .i64 0) rfl ?_
  refine r_seq ?_
  refine st_seq ?_
  refine st_condf rfl rfl ?_
  refine st_skip ?_
  refine n_sq ?_
  refine st_seq ?_
  refine st_region ?_
  refine r_pure (.int .u64 x_) rfl ?_
  obtain ⟨y1, hy2, hm⟩ := bind_some hm
  refine r_callf Try.call40 (math_bits_Len64_ok x_ y1 H hy2) ?_
  rintro e5 wd4 ⟨rfl, H3⟩
  refine ⟨_, rfl, ?_⟩
  refine r_pure (.int .i64 y1) rfl ?_
  refine r_seq ?_
  have hq_ := Option.some.inj hm
  subst hq_
  refine st_ret1 rfl rfl (Nat.le_of_ble_eq_true rfl) rfl ?_
  exact ⟨rfl, H3⟩

set_option maxHeartbeats 2000000 in
theorem slices_insertionSortCmpFunc_api_Item_ok {w0 w : World} {Γ : List (World → Prop)} (data : List api_Item) (A1 : Option Addr) (n3 c2 : Nat) (a_ : Int) (b_ : Int) (fv4 : Value) (cmp : (api_Item × api_Item) → Option Int) (hp5 : FnOk Try.prog w0 Γ fv4 (fun x => [.agg #[.int .i64 x.1.Kind, .int .i64 x.1.Amount], .agg #[.int .i64 x.2.Kind, .int .i64 x.2.Amount]]) (fun r => .int .i64 r) cmp) (r0_ : List api_Item) (H : Hp w0 (Row K24 (.slice A1 n3 c2) data :: Γ) w) (hm : slices_insertionSortCmpFunc_api_Item data a_ b_ cmp = some r0_) : Calls Try.prog 31 #[.slice A1 n3 c2, .int .i64 a_, .int .i64 b_, fv4] w (fun e w => e = .returned (.tuple #[]) ∧ Hp w0 (Row K24 (.slice A1 n3 c2) r0_ :: Γ) w) := by
  obtain ⟨gf6, gcap7, rfl, ge8, gp9⟩ := hp5
  obtain rfl := (H.g0).leneq
  unfold slices_insertionSortCmpFunc_api_Item at hm
  refine st_enter Try.func31 rfl Try.ntmps31 (Nat.le_of_ble_eq_true rfl) ?_
  refine st_seq ?_
  refine st_region ?_
  refine r_pure (.int .i64 a_) rfl ?_
  refine r_pure (.int .i64 (w64 (a_ + 1))) rfl ?_
  refine r_pure (.int .i64 (w64 (a_ + 1))) rfl ?_
  refine r_seq ?_
  refine st_block ?_
  obtain ⟨tl16, hl17, hm15⟩ := bind_some hm
  refine st_loopF (slices_insertionSortCmpFunc_api_Item.l1 b_ a_ cmp) (fun s ρ w => ∃ xs12 : List api_Item, ∃ v13 : Int, (xs12, v13) = s ∧ (∃ base, ρ = updl base [(0, .slice A1 data.length c2), (1, .int .i64 a_), (2, .int .i64 b_), (3, .func (.func gf6) #[] (List.toArray gcap7)), (8, .int .i64 v13)]) ∧ Hp w0 (Row K24 (.slice A1 data.length c2) xs12 :: Γ) w) hl17 (fun _ => rfl) ⟨data, w64 (a_ + 1), rfl, upk (ac rfl (ac rfl (ac rfl (ac rfl (ac rfl an))))), H⟩ ?_
  rintro fuel23 IH25 s ρ w ⟨xs12, v13, rfl, ⟨base, rfl⟩, H14⟩ hm
  rw [slices_insertionSortCmpFunc_api_Item.l1] at hm
  refine st_seq ?_
  refine st_seq ?_
  refine st_region ?_
  refine r_pure (.int .i64 v13) rfl ?_
  refine r_pure (.int .i64 b_) rfl ?_
  refine r_pure (.bool (decide (v13 < b_))) rfl ?_
  refine r_seq ?_
  rcases ite_some hm with ⟨hb26, hm⟩ | ⟨hb26, hm⟩
  · refine st_condt hb26 rfl ?_
    refine st_skip ?_
    refine n_sq ?_
    refine st_seq ?_
    refine st_block ?_
    refine st_seq ?_
    refine st_region ?_
    refine r_pure (.int .i64 v13) rfl ?_
    refine r_pure (.int .i64 v13) rfl ?_
    refine r_seq ?_
    refine st_block ?_
    obtain ⟨tl33, hl34, hm32⟩ := bind_some hm
    refine st_loopF (slices_insertionSortCmpFunc_api_Item.l2 a_ cmp) (fun s ρ w => ∃ xs29 : List api_Item, ∃ v30 : Int, (xs29, v30) = s ∧ (∃ base, ρ = updl base [(0, .slice A1 data.length c2), (1, .int .i64 a_), (2, .int .i64 b_), (3, .func (.func gf6) #[] (List.toArray gcap7)), (8, .int .i64 v13), (9, .int .i64 v30)]) ∧ Hp w0 (Row K24 (.slice A1 data.length c2) xs29 :: Γ) w) hl34 (fun _ => rfl) ⟨xs12, v13, rfl, upk (ac rfl (ac rfl (ac rfl (ac rfl (ac rfl (ac rfl an)))))), H14⟩ ?_
    rintro fuel40 IH42 s ρ w ⟨xs29, v30, rfl, ⟨base, rfl⟩, H31⟩ hm
    rw [slices_insertionSortCmpFunc_api_Item.l2] at hm
    refine st_seq ?_
    refine st_cut (fun ρ w => ∃ q43 : Bool, (∃ base, ρ = updl base [(0, .slice A1 data.length c2), (1, .int .i64 a_), (2, .int .i64 b_), (3, .func (.func gf6) #[] (List.toArray gcap7)), (8, .int .i64 v13), (9, .int .i64 v30), (34, .bool q43)]) ∧ Hp w0 (Row K24 (.slice A1 data.length c2) xs29 :: Γ) w ∧ slices_insertionSortCmpFunc_api_Item.j1 v30 xs29 (slices_insertionSortCmpFunc_api_Item.l2 a_ cmp fuel40) q43 = some tl33) ?_ ?_
    · rcases ite_some hm with ⟨hb177, hm⟩ | ⟨hb177, hm⟩
      · obtain ⟨⟨h0178, h1179⟩, hm⟩ := gd_some hm
        have hj180 := rd_get h0178 h1179
        obtain ⟨⟨h0182, h1183⟩, hm⟩ := gd_some hm
        have hj184 := rd_get h0182 h1183
        obtain ⟨y185, hy186, hm⟩ := bind_some hm
        refine Flow.run' [[], [], [0, 1], [0, 1, 2], [0, 1, 2, 3], [0, 1, 2, 3], [0, 1, 2, 3], [0, 1, 2, 3, 5, 6], [0, 1, 2, 3, 5, 6, 7], [0, 1, 2, 3], [0, 1, 2, 3], [0, 1, 2, 3, 10], [0, 1, 2, 3, 9, 10, 11], [0, 1, 2, 3, 9, 10, 11, 12], [0, 1, 2, 3, 4, 5, 6, 7, 8, 9, 10, 11, 12, 13], [0, 1, 2, 3, 4, 5, 6, 7, 8, 9, 10, 11, 12, 13, 14], [0, 1, 2, 3, 4, 5, 6, 7, 8, 9, 10, 11, 12, 13, 14, 15]] [(18, 0), (19, 1), (20, 2), (21, 3), (22, 4), (23, 5), (24, 6), (25, 7), (26, 8), (27, 9), (28, 10), (29, 11), (30, 12), (31, 13), (32, 14), (33, 15), (34, 16)] [(fun η176 v => v = .int .i64 v30), (fun η176 v => v = .int .i64 a_), (fun η176 v => v = .bool (decide (v30 > a_))), (fun η176 v => v = .bool (decide (v30 > a_))), (fun η176 v => v = .func (.func gf6) #[] (List.toArray gcap7)), (fun η176 v => v = .slice A1 data.length c2), (fun η176 v => v = .int .i64 v30), (fun η176 v => v = .pointer (some ((oA A1).add (Int.toNat v30 * 2)))), (fun η176 v => v = .agg #[.int .i64 ((rd xs29 v30).Kind), .int .i64 ((rd xs29 v30).Amount)]), (fun η176 v => v = .slice A1 data.length c2), (fun η176 v => v = .int .i64 v30), (fun η176 v => v = .int .i64 (w64 (v30 - 1))), (fun η176 v => v = .pointer (some ((oA A1).add (Int.toNat (w64 (v30 - 1)) * 2)))), (fun η176 v => v = .agg #[.int .i64 ((rd xs29 (w64 (v30 - 1))).Kind), .int .i64 ((rd xs29 (w64 (v30 - 1))).Amount)]), (fun η176 v => v = .int .i64 y185), (fun η176 v => v = .bool (decide (y185 < 0))), (fun η176 v => v = .bool (decide (y185 < 0)))] [] rfl (by kernel_rfl) (by kernel_rfl) H31 ⟨?_, ?_, ?_, ?_, ?_, ?_, ?_, ?_, ?_, ?_, ?_, ?_, ?_, ?_, ?_, ?_, ?_, trivial⟩ ?_
        · intro η176 wd193 Δ194 hE190 hR191 H192
          have H192 : Hp w0 ((Δ194 ++ (Row K24 (.slice A1 data.length c2) xs29 :: Γ))) wd193 := H192
          refine sp_op [(9, .int .i64 v30)] (ac rfl an) ?_
          refine r_pure (.int .i64 v30) rfl ?_
          exact r_nil (n_lp ⟨_, rfl, rfl, H192⟩)
        · intro η176 wd198 Δ199 hE195 hR196 H197
          have H197 : Hp w0 ((Δ199 ++ (Row K24 (.slice A1 data.length c2) xs29 :: Γ))) wd198 := H197
          refine sp_op [(1, .int .i64 a_)] (ac rfl an) ?_
          refine r_pure (.int .i64 a_) rfl ?_
          exact r_nil (n_lp ⟨_, rfl, rfl, H197⟩)
        · intro η176 wd203 Δ204 hE200 hR201 H202
          have H202 : Hp w0 ((Δ204 ++ (Row K24 (.slice A1 data.length c2) xs29 :: Γ))) wd203 := H202
          refine sp_op [(18, .int .i64 v30), (19, .int .i64 a_)] (ac (hE200 0 (by decide)) (ac (hE200 1 (by decide)) an)) ?_
          refine r_pure (.bool (decide (v30 > a_))) rfl ?_
          exact r_nil (n_lp ⟨_, rfl, rfl, H202⟩)
        · intro η176 wd208 Δ209 hE205 hR206 H207
          have H207 : Hp w0 ((Δ209 ++ (Row K24 (.slice A1 data.length c2) xs29 :: Γ))) wd208 := H207
          refine sp_op [(20, .bool (decide (v30 > a_)))] (ac (hE205 2 (by decide)) an) ?_
          refine r_pure (.bool (decide (v30 > a_))) rfl ?_
          exact r_nil (n_lp ⟨_, rfl, rfl, H207⟩)
        · intro η176 wd213 Δ214 hE210 hR211 H212
          have H212 : Hp w0 ((Δ214 ++ (Row K24 (.slice A1 data.length c2) xs29 :: Γ))) wd213 := H212
          refine sp_op [(3, .func (.func gf6) #[] (List.toArray gcap7)), (21, .bool (decide (v30 > a_)))] (ac rfl (ac (hE210 3 (by decide)) an)) ?_
          refine r_pure (.func (.func gf6) #[] (List.toArray gcap7)) rfl ?_ (wn_t rfl rfl (by decide) rfl hb177)
          exact r_nil (n_lp ⟨_, rfl, rfl, H212⟩)
        · intro η176 wd218 Δ219 hE215 hR216 H217
          have H217 : Hp w0 ((Δ219 ++ (Row K24 (.slice A1 data.length c2) xs29 :: Γ))) wd218 := H217
          refine sp_op [(0, .slice A1 data.length c2), (21, .bool (decide (v30 > a_)))] (ac rfl (ac (hE215 3 (by decide)) an)) ?_
          refine r_pure (.slice A1 data.length c2) rfl ?_ (wn_t rfl rfl (by decide) rfl hb177)
          exact r_nil (n_lp ⟨_, rfl, rfl, H217⟩)
        · intro η176 wd223 Δ224 hE220 hR221 H222
          have H222 : Hp w0 ((Δ224 ++ (Row K24 (.slice A1 data.length c2) xs29 :: Γ))) wd223 := H222
          refine sp_op [(9, .int .i64 v30), (21, .bool (decide (v30 > a_)))] (ac rfl (ac (hE220 3 (by decide)) an)) ?_
          refine r_pure (.int .i64 v30) rfl ?_ (wn_t rfl rfl (by decide) rfl hb177)
          exact r_nil (n_lp ⟨_, rfl, rfl, H222⟩)
        · intro η176 wd228 Δ229 hE225 hR226 H227
          have H227 : Hp w0 ((Δ229 ++ (Row K24 (.slice A1 data.length c2) xs29 :: Γ))) wd228 := H227
          refine sp_op [(21, .bool (decide (v30 > a_))), (23, .slice A1 data.length c2), (24, .int .i64 v30)] (ac (hE225 3 (by decide)) (ac (hE225 5 (by decide)) (ac (hE225 6 (by decide)) an))) ?_
          have hA233 := ((H227).tl.g0.rd).adO hj180
          refine r_ix IX25 rfl rfl hA233 h0178 (by have h1_ := ((H227).tl.g0).leneq; have h2_ := h1179; rw [← h1_] at h2_; exact h2_) ?_ (wn_t rfl rfl (by decide) rfl hb177)
          exact r_nil (n_lp ⟨_, rfl, rfl, H227⟩)
        · intro η176 wd237 Δ238 hE234 hR235 H236
          have H236 : Hp w0 ((Δ238 ++ (Row K24 (.slice A1 data.length c2) xs29 :: Γ))) wd237 := H236
          refine sp_op [(21, .bool (decide (v30 > a_))), (25, .pointer (some ((oA A1).add (Int.toNat v30 * 2))))] (ac (hE234 3 (by decide)) (ac (hE234 7 (by decide)) an)) ?_
          have hA239 := ((H236).tl.g0.rd).adO hj180
          refine r_ldA [.int .i64 ((rd xs29 v30).Kind), .int .i64 ((rd xs29 v30).Amount)] LD24 rfl rfl (((H236).tl.g0.rd).csA hA239 hj180) ?_ (wn_t rfl rfl (by decide) rfl hb177)
          exact r_nil (n_lp ⟨_, rfl, rfl, H236⟩)
        · intro η176 wd243 Δ244 hE240 hR241 H242
          have H242 : Hp w0 ((Δ244 ++ (Row K24 (.slice A1 data.length c2) xs29 :: Γ))) wd243 := H242
          refine sp_op [(0, .slice A1 data.length c2), (21, .bool (decide (v30 > a_)))] (ac rfl (ac (hE240 3 (by decide)) an)) ?_
          refine r_pure (.slice A1 data.length c2) rfl ?_ (wn_t rfl rfl (by decide) rfl hb177)
          exact r_nil (n_lp ⟨_, rfl, rfl, H242⟩)
        · intro η176 wd248 Δ249 hE245 hR246 H247
          have H247 : Hp w0 ((Δ249 ++ (Row K24 (.slice A1 data.length c2) xs29 :: Γ))) wd248 := H247
          refine sp_op [(9, .int .i64 v30), (21, .bool (decide (v30 > a_)))] (ac rfl (ac (hE245 3 (by decide)) an)) ?_
          refine r_pure (.int .i64 v30) rfl ?_ (wn_t rfl rfl (by decide) rfl hb177)
          exact r_nil (n_lp ⟨_, rfl, rfl, H247⟩)
        · intro η176 wd253 Δ254 hE250 hR251 H252
          have H252 : Hp w0 ((Δ254 ++ (Row K24 (.slice A1 data.length c2) xs29 :: Γ))) wd253 := H252
          refine sp_op [(21, .bool (decide (v30 > a_))), (28, .int .i64 v30)] (ac (hE250 3 (by decide)) (ac (hE250 10 (by decide)) an)) ?_
          refine r_pure (.int .i64 (w64 (v30 - 1))) rfl ?_ (wn_t rfl rfl (by decide) rfl hb177)
          exact r_nil (n_lp ⟨_, rfl, rfl, H252⟩)
        · intro η176 wd258 Δ259 hE255 hR256 H257
          have H257 : Hp w0 ((Δ259 ++ (Row K24 (.slice A1 data.length c2) xs29 :: Γ))) wd258 := H257
          refine sp_op [(21, .bool (decide (v30 > a_))), (27, .slice A1 data.length c2), (29, .int .i64 (w64 (v30 - 1)))] (ac (hE255 3 (by decide)) (ac (hE255 9 (by decide)) (ac (hE255 11 (by decide)) an))) ?_
          have hA263 := ((H257).tl.g0.rd).adO hj184
          refine r_ix IX25 rfl rfl hA263 h0182 (by have h1_ := ((H257).tl.g0).leneq; have h2_ := h1183; rw [← h1_] at h2_; exact h2_) ?_ (wn_t rfl rfl (by decide) rfl hb177)
          exact r_nil (n_lp ⟨_, rfl, rfl, H257⟩)
        · intro η176 wd267 Δ268 hE264 hR265 H266
          have H266 : Hp w0 ((Δ268 ++ (Row K24 (.slice A1 data.length c2) xs29 :: Γ))) wd267 := H266
          refine sp_op [(21, .bool (decide (v30 > a_))), (30, .pointer (some ((oA A1).add (Int.toNat (w64 (v30 - 1)) * 2))))] (ac (hE264 3 (by decide)) (ac (hE264 12 (by decide)) an)) ?_
          have hA269 := ((H266).tl.g0.rd).adO hj184
          refine r_ldA [.int .i64 ((rd xs29 (w64 (v30 - 1))).Kind), .int .i64 ((rd xs29 (w64 (v30 - 1))).Amount)] LD24 rfl rfl (((H266).tl.g0.rd).csA hA269 hj184) ?_ (wn_t rfl rfl (by decide) rfl hb177)
          exact r_nil (n_lp ⟨_, rfl, rfl, H266⟩)
        · intro η176 wd273 Δ274 hE270 hR271 H272
          have H272 : Hp w0 ((Δ274 ++ (Row K24 (.slice A1 data.length c2) xs29 :: Γ))) wd273 := H272
          refine sp_op [(21, .bool (decide (v30 > a_))), (22, .func (.func gf6) #[] (List.toArray gcap7)), (26, .agg #[.int .i64 ((rd xs29 v30).Kind), .int .i64 ((rd xs29 v30).Amount)]), (31, .agg #[.int .i64 ((rd xs29 (w64 (v30 - 1))).Kind), .int .i64 ((rd xs29 (w64 (v30 - 1))).Amount)])] (ac (hE270 3 (by decide)) (ac (hE270 4 (by decide)) (ac (hE270 8 (by decide)) (ac (hE270 13 (by decide)) an)))) ?_
          refine r_callv rfl ge8 (gp9 _ _ hy186 _ _ H272 (fun _ H => (H).tl.d)) ?_ (wn_t rfl rfl (by decide) rfl hb177)
          rintro e279 wd278 ⟨rfl, H277⟩
          refine ⟨_, rfl, ?_⟩
          exact r_nil (n_lp ⟨_, rfl, rfl, H277⟩)
        · intro η176 wd283 Δ284 hE280 hR281 H282
          have H282 : Hp w0 ((Δ284 ++ (Row K24 (.slice A1 data.length c2) xs29 :: Γ))) wd283 := H282
          refine sp_op [(21, .bool (decide (v30 > a_))), (32, .int .i64 y185)] (ac (hE280 3 (by decide)) (ac (hE280 14 (by decide)) an)) ?_
          refine r_pure (.bool (decide (y185 < 0))) rfl ?_ (wn_t rfl rfl (by decide) rfl hb177)
          exact r_nil (n_lp ⟨_, rfl, rfl, H282⟩)
        · intro η176 wd288 Δ289 hE285 hR286 H287
          have H287 : Hp w0 ((Δ289 ++ (Row K24 (.slice A1 data.length c2) xs29 :: Γ))) wd288 := H287
          refine sp_op [(21, .bool (decide (v30 > a_))), (33, .bool (decide (y185 < 0)))] (ac (hE285 3 (by decide)) (ac (hE285 15 (by decide)) an)) ?_
          refine r_pick_t (.bool (decide (y185 < 0))) hb177 rfl rfl ?_
          exact r_nil (n_lp ⟨_, rfl, rfl, H287⟩)
        · intro η176 wd291 hV292 H290
          have H293 : Hp w0 (Row K24 (.slice A1 data.length c2) xs29 :: Γ) wd291 := H290
          refine n_frame [(0, .slice A1 data.length c2), (1, .int .i64 a_), (2, .int .i64 b_), (3, .func (.func gf6) #[] (List.toArray gcap7)), (8, .int .i64 v13), (9, .int .i64 v30), (22, .func (.func gf6) #[] (List.toArray gcap7)), (23, .slice A1 data.length c2), (24, .int .i64 v30), (25, .pointer (some ((oA A1).add (Int.toNat v30 * 2)))), (26, .agg #[.int .i64 ((rd xs29 v30).Kind), .int .i64 ((rd xs29 v30).Amount)]), (27, .slice A1 data.length c2), (28, .int .i64 v30), (29, .int .i64 (w64 (v30 - 1))), (30, .pointer (some ((oA A1).add (Int.toNat (w64 (v30 - 1)) * 2)))), (31, .agg #[.int .i64 ((rd xs29 (w64 (v30 - 1))).Kind), .int .i64 ((rd xs29 (w64 (v30 - 1))).Amount)]), (32, .int .i64 y185), (33, .bool (decide (y185 < 0))), (34, .bool (decide (y185 < 0)))] (ac rfl (ac rfl (ac rfl (ac rfl (ac rfl (ac rfl (ac (hV292 4 rfl) (ac (hV292 5 rfl) (ac (hV292 6 rfl) (ac (hV292 7 rfl) (ac (hV292 8 rfl) (ac (hV292 9 rfl) (ac (hV292 10 rfl) (ac (hV292 11 rfl) (ac (hV292 12 rfl) (ac (hV292 13 rfl) (ac (hV292 14 rfl) (ac (hV292 15 rfl) (ac (hV292 16 rfl) an))))))))))))))))))) ?_
          refine n_cut ⟨decide (y185 < 0), upk (ac rfl (ac rfl (ac rfl (ac rfl (ac rfl (ac rfl (ac rfl an))))))), H293, hm⟩
      · refine Flow.run' [[], [], [0, 1], [0, 1, 2], [0, 1, 2, 3], [0, 1, 2, 3], [0, 1, 2, 3], [0, 1, 2, 3, 5, 6], [0, 1, 2, 3, 5, 6, 7], [0, 1, 2, 3], [0, 1, 2, 3], [0, 1, 2, 3, 10], [0, 1, 2, 3, 9, 10, 11], [0, 1, 2, 3, 9, 10, 11, 12], [0, 1, 2, 3, 4, 5, 6, 7, 8, 9, 10, 11, 12, 13], [0, 1, 2, 3, 4, 5, 6, 7, 8, 9, 10, 11, 12, 13, 14], [0, 1, 2, 3, 4, 5, 6, 7, 8, 9, 10, 11, 12, 13, 14, 15]] [(18, 0), (19, 1), (20, 2), (21, 3), (22, 4), (23, 5), (24, 6), (25, 7), (26, 8), (27, 9), (28, 10), (29, 11), (30, 12), (31, 13), (32, 14), (33, 15), (34, 16)] [(fun η176 v => v = .int .i64 v30), (fun η176 v => v = .int .i64 a_), (fun η176 v => v = .bool (decide (v30 > a_))), (fun η176 v => v = .bool (decide (v30 > a_))), (fun η176 v => v = undef), (fun η176 v => v = undef), (fun η176 v => v = undef), (fun η176 v => v = undef), (fun η176 v => v = undef), (fun η176 v => v = undef), (fun η176 v => v = undef), (fun η176 v => v = undef), (fun η176 v => v = undef), (fun η176 v => v = undef), (fun η176 v => v = undef), (fun η176 v => v = undef), (fun η176 v => v = .bool false)] [] rfl (by kernel_rfl) (by kernel_rfl) H31 ⟨?_, ?_, ?_, ?_, ?_, ?_, ?_, ?_, ?_, ?_, ?_, ?_, ?_, ?_, ?_, ?_, ?_, trivial⟩ ?_
        · intro η176 wd297 Δ298 hE294 hR295 H296
          have H296 : Hp w0 ((Δ298 ++ (Row K24 (.slice A1 data.length c2) xs29 :: Γ))) wd297 := H296
          refine sp_op [(9, .int .i64 v30)] (ac rfl an) ?_
          refine r_pure (.int .i64 v30) rfl ?_
          exact r_nil (n_lp ⟨_, rfl, rfl, H296⟩)
        · intro η176 wd302 Δ303 hE299 hR300 H301
          have H301 : Hp w0 ((Δ303 ++ (Row K24 (.slice A1 data.length c2) xs29 :: Γ))) wd302 := H301
          refine sp_op [(1, .int .i64 a_)] (ac rfl an) ?_
          refine r_pure (.int .i64 a_) rfl ?_
          exact r_nil (n_lp ⟨_, rfl, rfl, H301⟩)
        · intro η176 wd307 Δ308 hE304 hR305 H306
          have H306 : Hp w0 ((Δ308 ++ (Row K24 (.slice A1 data.length c2) xs29 :: Γ))) wd307 := H306
          refine sp_op [(18, .int .i64 v30), (19, .int .i64 a_)] (ac (hE304 0 (by decide)) (ac (hE304 1 (by decide)) an)) ?_
          refine r_pure (.bool (decide (v30 > a_))) rfl ?_
          exact r_nil (n_lp ⟨_, rfl, rfl, H306⟩)
        · intro η176 wd312 Δ313 hE309 hR310 H311
          have H311 : Hp w0 ((Δ313 ++ (Row K24 (.slice A1 data.length c2) xs29 :: Γ))) wd312 := H311
          refine sp_op [(20, .bool (decide (v30 > a_)))] (ac (hE309 2 (by decide)) an) ?_
          refine r_pure (.bool (decide (v30 > a_))) rfl ?_
          exact r_nil (n_lp ⟨_, rfl, rfl, H311⟩)
        · intro η176 wd317 Δ318 hE314 hR315 H316
          have H316 : Hp w0 ((Δ318 ++ (Row K24 (.slice A1 data.length c2) xs29 :: Γ))) wd317 := H316
          refine sp_op [(3, .func (.func gf6) #[] (List.toArray gcap7)), (21, .bool (decide (v30 > a_)))] (ac rfl (ac (hE314 3 (by decide)) an)) ?_
          refine r_not (wn_f rfl rfl (by decide) rfl hb177) ?_
          exact r_nil (n_lp ⟨_, rfl, rfl, H316⟩)
        · intro η176 wd322 Δ323 hE319 hR320 H321
          have H321 : Hp w0 ((Δ323 ++ (Row K24 (.slice A1 data.length c2) xs29 :: Γ))) wd322 := H321
          refine sp_op [(0, .slice A1 data.length c2), (21, .bool (decide (v30 > a_)))] (ac rfl (ac (hE319 3 (by decide)) an)) ?_
          refine r_not (wn_f rfl rfl (by decide) rfl hb177) ?_
          exact r_nil (n_lp ⟨_, rfl, rfl, H321⟩)
        · intro η176 wd327 Δ328 hE324 hR325 H326
          have H326 : Hp w0 ((Δ328 ++ (Row K24 (.slice A1 data.length c2) xs29 :: Γ))) wd327 := H326
          refine sp_op [(9, .int .i64 v30), (21, .bool (decide (v30 > a_)))] (ac rfl (ac (hE324 3 (by decide)) an)) ?_
          refine r_not (wn_f rfl rfl (by decide) rfl hb177) ?_
          exact r_nil (n_lp ⟨_, rfl, rfl, H326⟩)
        · intro η176 wd332 Δ333 hE329 hR330 H331
          have H331 : Hp w0 ((Δ333 ++ (Row K24 (.slice A1 data.length c2) xs29 :: Γ))) wd332 := H331
          refine sp_op [(21, .bool (decide (v30 > a_))), (23, undef), (24, undef)] (ac (hE329 3 (by decide)) (ac (hE329 5 (by decide)) (ac (hE329 6 (by decide)) an))) ?_
          refine r_not (wn_f rfl rfl (by decide) rfl hb177) ?_
          exact r_nil (n_lp ⟨_, rfl, rfl, H331⟩)
        · intro η176 wd337 Δ338 hE334 hR335 H336
          have H336 : Hp w0 ((Δ338 ++ (Row K24 (.slice A1 data.length c2) xs29 :: Γ))) wd337 := H336
          refine sp_op [(21, .bool (decide (v30 > a_))), (25, undef)] (ac (hE334 3 (by decide)) (ac (hE334 7 (by decide)) an)) ?_
          refine r_not (wn_f rfl rfl (by decide) rfl hb177) ?_
          exact r_nil (n_lp ⟨_, rfl, rfl, H336⟩)
        · intro η176 wd342 Δ343 hE339 hR340 H341
          have H341 : Hp w0 ((Δ343 ++ (Row K24 (.slice A1 data.length c2) xs29 :: Γ))) wd342 := H341
          refine sp_op [(0, .slice A1 data.length c2), (21, .bool (decide (v30 > a_)))] (ac rfl (ac (hE339 3 (by decide)) an)) ?_
          refine r_not (wn_f rfl rfl (by decide) rfl hb177) ?_
          exact r_nil (n_lp ⟨_, rfl, rfl, H341⟩)
        · intro η176 wd347 Δ348 hE344 hR345 H346
          have H346 : Hp w0 ((Δ348 ++ (Row K24 (.slice A1 data.length c2) xs29 :: Γ))) wd347 := H346
          refine sp_op [(9, .int .i64 v30), (21, .bool (decide (v30 > a_)))] (ac rfl (ac (hE344 3 (by decide)) an)) ?_
          refine r_not (wn_f rfl rfl (by decide) rfl hb177) ?_
          exact r_nil (n_lp ⟨_, rfl, rfl, H346⟩)
        · intro η176 wd352 Δ353 hE349 hR350 H351
          have H351 : Hp w0 ((Δ353 ++ (Row K24 (.slice A1 data.length c2) xs29 :: Γ))) wd352 := H351
          refine sp_op [(21, .bool (decide (v30 > a_))), (28, undef)] (ac (hE349 3 (by decide)) (ac (hE349 10 (by decide)) an)) ?_
          refine r_not (wn_f rfl rfl (by decide) rfl hb177) ?_
          exact r_nil (n_lp ⟨_, rfl, rfl, H351⟩)
        · intro η176 wd357 Δ358 hE354 hR355 H356
          have H356 : Hp w0 ((Δ358 ++ (Row K24 (.slice A1 data.length c2) xs29 :: Γ))) wd357 := H356
          refine sp_op [(21, .bool (decide (v30 > a_))), (27, undef), (29, undef)] (ac (hE354 3 (by decide)) (ac (hE354 9 (by decide)) (ac (hE354 11 (by decide)) an))) ?_
          refine r_not (wn_f rfl rfl (by decide) rfl hb177) ?_
          exact r_nil (n_lp ⟨_, rfl, rfl, H356⟩)
        · intro η176 wd362 Δ363 hE359 hR360 H361
          have H361 : Hp w0 ((Δ363 ++ (Row K24 (.slice A1 data.length c2) xs29 :: Γ))) wd362 := H361
          refine sp_op [(21, .bool (decide (v30 > a_))), (30, undef)] (ac (hE359 3 (by decide)) (ac (hE359 12 (by decide)) an)) ?_
          refine r_not (wn_f rfl rfl (by decide) rfl hb177) ?_
          exact r_nil (n_lp ⟨_, rfl, rfl, H361⟩)
        · intro η176 wd367 Δ368 hE364 hR365 H366
          have H366 : Hp w0 ((Δ368 ++ (Row K24 (.slice A1 data.length c2) xs29 :: Γ))) wd367 := H366
          refine sp_op [(21, .bool (decide (v30 > a_))), (22, undef), (26, undef), (31, undef)] (ac (hE364 3 (by decide)) (ac (hE364 4 (by decide)) (ac (hE364 8 (by decide)) (ac (hE364 13 (by decide)) an)))) ?_
          refine r_not (wn_f rfl rfl (by decide) rfl hb177) ?_
          exact r_nil (n_lp ⟨_, rfl, rfl, H366⟩)
        · intro η176 wd372 Δ373 hE369 hR370 H371
          have H371 : Hp w0 ((Δ373 ++ (Row K24 (.slice A1 data.length c2) xs29 :: Γ))) wd372 := H371
          refine sp_op [(21, .bool (decide (v30 > a_))), (32, undef)] (ac (hE369 3 (by decide)) (ac (hE369 14 (by decide)) an)) ?_
          refine r_not (wn_f rfl rfl (by decide) rfl hb177) ?_
          exact r_nil (n_lp ⟨_, rfl, rfl, H371⟩)
        · intro η176 wd377 Δ378 hE374 hR375 H376
          have H376 : Hp w0 ((Δ378 ++ (Row K24 (.slice A1 data.length c2) xs29 :: Γ))) wd377 := H376
          refine sp_op [(21, .bool (decide (v30 > a_))), (33, undef)] (ac (hE374 3 (by decide)) (ac (hE374 15 (by decide)) an)) ?_
          refine r_pick_f (.bool false) hb177 rfl rfl ?_
          exact r_nil (n_lp ⟨_, rfl, rfl, H376⟩)
        · intro η176 wd380 hV381 H379
          have H382 : Hp w0 (Row K24 (.slice A1 data.length c2) xs29 :: Γ) wd380 := H379
          refine n_frame [(0, .slice A1 data.length c2), (1, .int .i64 a_), (2, .int .i64 b_), (3, .func (.func gf6) #[] (List.toArray gcap7)), (8, .int .i64 v13), (9, .int .i64 v30), (22, undef), (23, undef), (24, undef), (25, undef), (26, undef), (27, undef), (28, undef), (29, undef), (30, undef), (31, undef), (32, undef), (33, undef), (34, .bool false)] (ac rfl (ac rfl (ac rfl (ac rfl (ac rfl (ac rfl (ac (hV381 4 rfl) (ac (hV381 5 rfl) (ac (hV381 6 rfl) (ac (hV381 7 rfl) (ac (hV381 8 rfl) (ac (hV381 9 rfl) (ac (hV381 10 rfl) (ac (hV381 11 rfl) (ac (hV381 12 rfl) (ac (hV381 13 rfl) (ac (hV381 14 rfl) (ac (hV381 15 rfl) (ac (hV381 16 rfl) an))))))))))))))))))) ?_
          refine n_cut ⟨false, upk (ac rfl (ac rfl (ac rfl (ac rfl (ac rfl (ac rfl (ac rfl an))))))), H382, hm⟩
    · rintro ρ w ⟨q43, ⟨base, rfl⟩, H44, hm⟩
      unfold slices_insertionSortCmpFunc_api_Item.j1 at hm
      rcases ite_some hm with ⟨hb45, hm⟩ | ⟨hb45, hm⟩
      · refine st_condt hb45 rfl ?_
        refine st_skip ?_
        refine n_sq ?_
        refine st_seq ?_
        refine st_block ?_
        obtain ⟨⟨h047, h148⟩, hm⟩ := gd_some hm
        have hj49 := rd_get h047 h148
        obtain ⟨⟨h051, h152⟩, hm⟩ := gd_some hm
        have hj53 := rd_get h051 h152
        obtain ⟨⟨h056, h157⟩, hm⟩ := gd_some hm
        have hj58 := rd_get h056 h157
        refine Flow.run' [[], [], [], [], [3], [], [], [6], [5, 6, 7], [5, 6, 7, 8], [], [], [10, 11], [10, 11, 12], [0, 1, 5, 6, 7, 8, 9, 10, 11, 12, 13], [0, 1, 5, 6, 7, 8, 9, 10, 11, 12, 13, 14], [0, 1, 2, 3, 4, 5, 6, 7, 8, 9, 10, 11, 12, 13, 14, 15], [0, 1, 2, 3, 4, 5, 6, 7, 8, 9, 10, 11, 12, 13, 14, 15, 16]] [(37, 0), (38, 1), (39, 2), (40, 3), (41, 4), (42, 5), (43, 6), (44, 7), (45, 8), (46, 9), (47, 10), (48, 11), (49, 12), (50, 13), (51, 14), (52, 16)] [(fun η46 v => v = .slice A1 data.length c2), (fun η46 v => v = .int .i64 v30), (fun η46 v => v = .slice A1 data.length c2), (fun η46 v => v = .int .i64 v30), (fun η46 v => v = .int .i64 (w64 (v30 - 1))), (fun η46 v => v = .slice A1 data.length c2), (fun η46 v => v = .int .i64 v30), (fun η46 v => v = .int .i64 (w64 (v30 - 1))), (fun η46 v => v = .pointer (some ((oA A1).add (Int.toNat (w64 (v30 - 1)) * 2)))), (fun η46 v => v = .agg #[.int .i64 ((rd xs29 (w64 (v30 - 1))).Kind), .int .i64 ((rd xs29 (w64 (v30 - 1))).Amount)]), (fun η46 v => v = .slice A1 data.length c2), (fun η46 v => v = .int .i64 v30), (fun η46 v => v = .pointer (some ((oA A1).add (Int.toNat v30 * 2)))), (fun η46 v => v = .agg #[.int .i64 ((rd xs29 v30).Kind), .int .i64 ((rd xs29 v30).Amount)]), (fun η46 v => v = .pointer (some ((oA A1).add (Int.toNat v30 * 2)))), (fun _ _ => True), (fun η46 v => v = .pointer (some ((oA A1).add (Int.toNat (w64 (v30 - 1)) * 2)))), (fun _ _ => True)] [⟨none, (some 15), fun η46 => Row K24 (.slice A1 data.length c2) xs29⟩, ⟨(some 15), (some 17), fun η46 => Row K24 (.slice A1 data.length c2) (xs29.set (Int.toNat v30) (rd xs29 (w64 (v30 - 1))))⟩, ⟨(some 17), none, fun η46 => Row K24 (.slice A1 data.length c2) ((xs29.set (Int.toNat v30) (rd xs29 (w64 (v30 - 1)))).set (Int.toNat (w64 (v30 - 1))) (rd xs29 v30))⟩] rfl (by kernel_rfl) (by kernel_rfl) H44 ⟨?_, ?_, ?_, ?_, ?_, ?_, ?_, ?_, ?_, ?_, ?_, ?_, ?_, ?_, ?_, ?_, ?_, ?_, trivial⟩ ?_
        · intro η46 wd64 Δ65 hE61 hR62 H63
          have H63 : Hp w0 ((Δ65 ++ Γ)) wd64 := H63
          refine sp_op [(0, .slice A1 data.length c2)] (ac rfl an) ?_
          refine r_pure (.slice A1 data.length c2) rfl ?_
          exact r_nil (n_lp ⟨_, rfl, rfl, H63⟩)
        · intro η46 wd69 Δ70 hE66 hR67 H68
          have H68 : Hp w0 ((Δ70 ++ Γ)) wd69 := H68
          refine sp_op [(9, .int .i64 v30)] (ac rfl an) ?_
          refine r_pure (.int .i64 v30) rfl ?_
          exact r_nil (n_lp ⟨_, rfl, rfl, H68⟩)
        · intro η46 wd74 Δ75 hE71 hR72 H73
          have H73 : Hp w0 ((Δ75 ++ Γ)) wd74 := H73
          refine sp_op [(0, .slice A1 data.length c2)] (ac rfl an) ?_
          refine r_pure (.slice A1 data.length c2) rfl ?_
          exact r_nil (n_lp ⟨_, rfl, rfl, H73⟩)
        · intro η46 wd79 Δ80 hE76 hR77 H78
          have H78 : Hp w0 ((Δ80 ++ Γ)) wd79 := H78
          refine sp_op [(9, .int .i64 v30)] (ac rfl an) ?_
          refine r_pure (.int .i64 v30) rfl ?_
          exact r_nil (n_lp ⟨_, rfl, rfl, H78⟩)
        · intro η46 wd84 Δ85 hE81 hR82 H83
          have H83 : Hp w0 ((Δ85 ++ Γ)) wd84 := H83
          refine sp_op [(40, .int .i64 v30)] (ac (hE81 3 (by decide)) an) ?_
          refine r_pure (.int .i64 (w64 (v30 - 1))) rfl ?_
          exact r_nil (n_lp ⟨_, rfl, rfl, H83⟩)
        · intro η46 wd89 Δ90 hE86 hR87 H88
          have H88 : Hp w0 ((Δ90 ++ Γ)) wd89 := H88
          refine sp_op [(0, .slice A1 data.length c2)] (ac rfl an) ?_
          refine r_pure (.slice A1 data.length c2) rfl ?_
          exact r_nil (n_lp ⟨_, rfl, rfl, H88⟩)
        · intro η46 wd94 Δ95 hE91 hR92 H93
          have H93 : Hp w0 ((Δ95 ++ Γ)) wd94 := H93
          refine sp_op [(9, .int .i64 v30)] (ac rfl an) ?_
          refine r_pure (.int .i64 v30) rfl ?_
          exact r_nil (n_lp ⟨_, rfl, rfl, H93⟩)
        · intro η46 wd99 Δ100 hE96 hR97 H98
          have H98 : Hp w0 ((Δ100 ++ Γ)) wd99 := H98
          refine sp_op [(43, .int .i64 v30)] (ac (hE96 6 (by decide)) an) ?_
          refine r_pure (.int .i64 (w64 (v30 - 1))) rfl ?_
          exact r_nil (n_lp ⟨_, rfl, rfl, H98⟩)
        · intro η46 wd104 Δ105 hE101 hR102 H103
          have H103 : Hp w0 ((Δ105 ++ Γ)) wd104 := H103
          refine sp_op [(42, .slice A1 data.length c2), (44, .int .i64 (w64 (v30 - 1)))] (ac (hE101 5 (by decide)) (ac (hE101 7 (by decide)) an)) ?_
          have hA109 := ((show (Row K24 (.slice A1 data.length c2) xs29) _ from (H103).memr (hR102 _ (List.mem_of_getElem? (i := 0) rfl) rfl)).rd).adO hj49
          refine r_ix IX25 rfl rfl hA109 h047 (by have h1_ := ((show (Row K24 (.slice A1 data.length c2) xs29) _ from (H103).memr (hR102 _ (List.mem_of_getElem? (i := 0) rfl) rfl))).leneq; have h2_ := h148; rw [← h1_] at h2_; exact h2_) ?_
          exact r_nil (n_lp ⟨_, rfl, rfl, H103⟩)
        · intro η46 wd113 Δ114 hE110 hR111 H112
          have H112 : Hp w0 ((Δ114 ++ Γ)) wd113 := H112
          refine sp_op [(45, .pointer (some ((oA A1).add (Int.toNat (w64 (v30 - 1)) * 2))))] (ac (hE110 8 (by decide)) an) ?_
          have hA115 := ((show (Row K24 (.slice A1 data.length c2) xs29) _ from (H112).memr (hR111 _ (List.mem_of_getElem? (i := 0) rfl) rfl)).rd).adO hj49
          refine r_ldA [.int .i64 ((rd xs29 (w64 (v30 - 1))).Kind), .int .i64 ((rd xs29 (w64 (v30 - 1))).Amount)] LD24 rfl rfl (((show (Row K24 (.slice A1 data.length c2) xs29) _ from (H112).memr (hR111 _ (List.mem_of_getElem? (i := 0) rfl) rfl)).rd).csA hA115 hj49) ?_
          exact r_nil (n_lp ⟨_, rfl, rfl, H112⟩)
        · intro η46 wd119 Δ120 hE116 hR117 H118
          have H118 : Hp w0 ((Δ120 ++ Γ)) wd119 := H118
          refine sp_op [(0, .slice A1 data.length c2)] (ac rfl an) ?_
          refine r_pure (.slice A1 data.length c2) rfl ?_
          exact r_nil (n_lp ⟨_, rfl, rfl, H118⟩)
        · intro η46 wd124 Δ125 hE121 hR122 H123
          have H123 : Hp w0 ((Δ125 ++ Γ)) wd124 := H123
          refine sp_op [(9, .int .i64 v30)] (ac rfl an) ?_
          refine r_pure (.int .i64 v30) rfl ?_
          exact r_nil (n_lp ⟨_, rfl, rfl, H123⟩)
        · intro η46 wd129 Δ130 hE126 hR127 H128
          have H128 : Hp w0 ((Δ130 ++ Γ)) wd129 := H128
          refine sp_op [(47, .slice A1 data.length c2), (48, .int .i64 v30)] (ac (hE126 10 (by decide)) (ac (hE126 11 (by decide)) an)) ?_
          have hA134 := ((show (Row K24 (.slice A1 data.length c2) xs29) _ from (H128).memr (hR127 _ (List.mem_of_getElem? (i := 0) rfl) rfl)).rd).adO hj53
          refine r_ix IX25 rfl rfl hA134 h051 (by have h1_ := ((show (Row K24 (.slice A1 data.length c2) xs29) _ from (H128).memr (hR127 _ (List.mem_of_getElem? (i := 0) rfl) rfl))).leneq; have h2_ := h152; rw [← h1_] at h2_; exact h2_) ?_
          exact r_nil (n_lp ⟨_, rfl, rfl, H128⟩)
        · intro η46 wd138 Δ139 hE135 hR136 H137
          have H137 : Hp w0 ((Δ139 ++ Γ)) wd138 := H137
          refine sp_op [(49, .pointer (some ((oA A1).add (Int.toNat v30 * 2))))] (ac (hE135 12 (by decide)) an) ?_
          have hA140 := ((show (Row K24 (.slice A1 data.length c2) xs29) _ from (H137).memr (hR136 _ (List.mem_of_getElem? (i := 0) rfl) rfl)).rd).adO hj53
          refine r_ldA [.int .i64 ((rd xs29 v30).Kind), .int .i64 ((rd xs29 v30).Amount)] LD24 rfl rfl (((show (Row K24 (.slice A1 data.length c2) xs29) _ from (H137).memr (hR136 _ (List.mem_of_getElem? (i := 0) rfl) rfl)).rd).csA hA140 hj53) ?_
          exact r_nil (n_lp ⟨_, rfl, rfl, H137⟩)
        · intro η46 wd144 Δ145 hE141 hR142 H143
          have H143 : Hp w0 ((Δ145 ++ Γ)) wd144 := H143
          refine sp_op [(37, .slice A1 data.length c2), (38, .int .i64 v30)] (ac (hE141 0 (by decide)) (ac (hE141 1 (by decide)) an)) ?_
          have hA146 := ((show (Row K24 (.slice A1 data.length c2) xs29) _ from (H143).memr (hR142 _ (List.mem_of_getElem? (i := 0) rfl) rfl)).rd).adO hj53
          refine r_ix IX25 rfl rfl hA146 h051 (by have h1_ := ((show (Row K24 (.slice A1 data.length c2) xs29) _ from (H143).memr (hR142 _ (List.mem_of_getElem? (i := 0) rfl) rfl))).leneq; have h2_ := h152; rw [← h1_] at h2_; exact h2_) ?_
          exact r_nil (n_lp ⟨_, rfl, rfl, H143⟩)
        · intro η46 wd150 Δ151 hE147 hR148 H149
          have H149 : Hp w0 (Row K24 (.slice A1 data.length c2) xs29 :: (Δ151 ++ Γ)) wd150 := H149
          refine sp_op [(46, .agg #[.int .i64 ((rd xs29 (w64 (v30 - 1))).Kind), .int .i64 ((rd xs29 (w64 (v30 - 1))).Amount)]), (51, .pointer (some ((oA A1).add (Int.toNat v30 * 2))))] (ac (hE147 9 (by decide)) (ac (hE147 14 (by decide)) an)) ?_
          have hA154 := (H149.g0.rd).adO hj53
          refine r_stxA (K := K24) ((rd xs29 (w64 (v30 - 1)))) hA154 LD24 rfl rfl rfl rfl H149 (by have h1_ := h051; have h2_ := h152; first | omega | (simp only [List.length_set] at h1_ h2_ ⊢; omega)) ?_
          intro wd153 H152
          exact r_nil (n_lp ⟨_, rfl, trivial, H152⟩)
        · intro η46 wd158 Δ159 hE155 hR156 H157
          have H157 : Hp w0 ((Δ159 ++ Γ)) wd158 := H157
          refine sp_op [(39, .slice A1 data.length c2), (41, .int .i64 (w64 (v30 - 1)))] (ac (hE155 2 (by decide)) (ac (hE155 4 (by decide)) an)) ?_
          have hA163 := ((show (Row K24 (.slice A1 data.length c2) (xs29.set (Int.toNat v30) (rd xs29 (w64 (v30 - 1))))) _ from (H157).memr (hR156 _ (List.mem_of_getElem? (i := 1) rfl) rfl)).rd).adO hj58
          refine r_ix IX25 rfl rfl hA163 h056 (by have h1_ := ((show (Row K24 (.slice A1 data.length c2) (xs29.set (Int.toNat v30) (rd xs29 (w64 (v30 - 1))))) _ from (H157).memr (hR156 _ (List.mem_of_getElem? (i := 1) rfl) rfl))).leneq; have h2_ := h157; rw [← h1_] at h2_; exact h2_) ?_
          exact r_nil (n_lp ⟨_, rfl, rfl, H157⟩)
        · intro η46 wd167 Δ168 hE164 hR165 H166
          have H166 : Hp w0 (Row K24 (.slice A1 data.length c2) (xs29.set (Int.toNat v30) (rd xs29 (w64 (v30 - 1)))) :: (Δ168 ++ Γ)) wd167 := H166
          refine sp_op [(50, .agg #[.int .i64 ((rd xs29 v30).Kind), .int .i64 ((rd xs29 v30).Amount)]), (52, .pointer (some ((oA A1).add (Int.toNat (w64 (v30 - 1)) * 2))))] (ac (hE164 13 (by decide)) (ac (hE164 16 (by decide)) an)) ?_
          have hA171 := (H166.g0.rd).adO hj58
          refine r_stxA (K := K24) ((rd xs29 v30)) hA171 LD24 rfl rfl rfl rfl H166 (by have h1_ := h056; have h2_ := h157; first | omega | (simp only [List.length_set] at h1_ h2_ ⊢; omega)) ?_
          intro wd170 H169
          exact r_nil (n_lp ⟨_, rfl, trivial, H169⟩)
        · intro η46 wd173 hV174 H172
          have H175 : Hp w0 (Row K24 (.slice A1 data.length c2) ((xs29.set (Int.toNat v30) (rd xs29 (w64 (v30 - 1)))).set (Int.toNat (w64 (v30 - 1))) (rd xs29 v30)) :: Γ) wd173 := H172
          refine n_frame [(0, .slice A1 data.length c2), (1, .int .i64 a_), (2, .int .i64 b_), (3, .func (.func gf6) #[] (List.toArray gcap7)), (8, .int .i64 v13), (9, .int .i64 v30)] (ac rfl (ac rfl (ac rfl (ac rfl (ac rfl (ac rfl an)))))) ?_
          refine n_bl ?_
          refine n_sq ?_
          refine st_region ?_
          refine r_pure (.int .i64 v30) rfl ?_
          refine r_pure (.int .i64 (w64 (v30 - 1))) rfl ?_
          refine r_pure (.int .i64 (w64 (v30 - 1))) rfl ?_
          refine r_nil ?_
          refine n_round (IH42 _ _ _ ⟨(xs29.set (Int.toNat v30) (rd xs29 (w64 (v30 - 1)))).set (Int.toNat (w64 (v30 - 1))) (rd xs29 v30), w64 (v30 - 1), rfl, upk (ac rfl (ac rfl (ac rfl (ac rfl (ac rfl (ac rfl an)))))), H175⟩ hm)
      · refine st_condf hb45 rfl ?_
        have hq_ := Option.some.inj hm
        refine st_exit rfl ?_
        subst hq_
        refine n_bl ?_
        refine n_sq ?_
        refine st_region ?_
        refine r_pure (.int .i64 v13) rfl ?_
        refine r_pure (.int .i64 (w64 (v13 + 1))) rfl ?_
        refine r_pure (.int .i64 (w64 (v13 + 1))) rfl ?_
        refine r_nil ?_
        refine n_round (IH25 _ _ _ ⟨xs29, w64 (v13 + 1), rfl, upk (ac rfl (ac rfl (ac rfl (ac rfl (ac rfl an))))), H44⟩ hm32)
  · refine st_condf hb26 rfl ?_
    have hq_ := Option.some.inj hm
    refine st_exit rfl ?_
    subst hq_
    have hq_ := Option.some.inj hm15
    subst hq_
    refine n_fin0 rfl ?_
    exact ⟨rfl, H14⟩

set_option maxHeartbeats 2000000 in
theorem slices_pdqsortCmpFunc_api_Item_ok {w0 w : World} {Γ : List (World → Prop)} (data : List api_Item) (A1 : Option Addr) (n3 c2 : Nat) (a_ : Int) (b_ : Int) (limit : Int) (fv4 : Value) (cmp : (api_Item × api_Item) → Option Int) (hp5 : FnOk Try.prog w0 Γ fv4 (fun x => [.agg #[.int .i64 x.1.Kind, .int .i64 x.1.Amount], .agg #[.int .i64 x.2.Kind, .int .i64 x.2.Amount]]) (fun r => .int .i64 r) cmp) (r0_ : List api_Item) (H : Hp w0 (Row K24 (.slice A1 n3 c2) data :: Γ) w) (hm : slices_pdqsortCmpFunc_api_Item data a_ b_ limit cmp = some r0_) : Calls Try.prog 27 #[.slice A1 n3 c2, .int .i64 a_, .int .i64 b_, .int .i64 limit, fv4] w (fun e w => e = .returned (.tuple #[]) ∧ Hp w0 (Row K24 (.slice A1 n3 c2) r0_ :: Γ) w) := by
  obtain ⟨gf6, gcap7, rfl, ge8, gp9⟩ := hp5
  obtain rfl := (H.g0).leneq
  unfold slices_pdqsortCmpFunc_api_Item at hm
  refine st_enter Try.func27 rfl Try.ntmps27 (Nat.le_of_ble_eq_true rfl) ?_
  refine st_seq ?_
  refine st_region ?_
  refine r_pure (.bool true) rfl ?_
  refine r_seq ?_
  refine st_seq ?_
  refine st_region ?_
  refine r_pure (.bool true) rfl ?_
  refine r_seq ?_
  refine st_block ?_
  obtain ⟨tl12, hl13, hm11⟩ := bind_some hm
  refine st_loopF (slices_pdqsortCmpFunc_api_Item.l1 b_ a_ data cmp) (fun s ρ w => () = s ∧ (∃ base, ρ = updl base [(0, .slice A1 data.length c2), (1, .int .i64 a_), (2, .int .i64 b_), (3, .int .i64 limit), (4, .func (.func gf6) #[] (List.toArray gcap7)), (10, .bool true), (11, .bool true)]) ∧ Hp w0 (Row K24 (.slice A1 data.length c2) data :: Γ) w) hl13 (fun _ => rfl) ⟨rfl, upk (ac rfl (ac rfl (ac rfl (ac rfl (ac rfl (ac rfl (ac rfl an))))))), H⟩ ?_
  rintro fuel19 IH21 s ρ w ⟨rfl, ⟨base, rfl⟩, H10⟩ hm
  rw [slices_pdqsortCmpFunc_api_Item.l1] at hm
  refine st_block ?_
  refine st_seq ?_
  refine st_region ?_
  refine r_pure (.int .i64 b_) rfl ?_
  refine r_pure (.int .i64 a_) rfl ?_
  refine r_pure (.int .i64 (w64 (b_ - a_))) rfl ?_
  refine r_pure (.int .i64 (w64 (b_ - a_))) rfl ?_
  refine r_seq ?_
  refine st_seq ?_
  refine st_seq ?_
  refine st_region ?_
  refine r_pure (.int .i64 (w64 (b_ - a_))) rfl ?_
  refine r_pure (.bool (decide (w64 (b_ - a_) ≤ 12))) rfl ?_
  refine r_seq ?_
  rcases ite_some hm with ⟨hb22, hm⟩ | ⟨hb22, hm⟩
  · refine st_condt hb22 rfl ?_
    refine st_seq ?_
    refine st_region ?_
    refine r_pure (.slice A1 data.length c2) rfl ?_
    refine r_pure (.int .i64 a_) rfl ?_
    refine r_pure (.int .i64 b_) rfl ?_
    refine r_pure (.func (.func gf6) #[] (List.toArray gcap7)) rfl ?_
    obtain ⟨y23, hy24, hm⟩ := bind_some hm
    refine r_callf Try.call31 (slices_insertionSortCmpFunc_api_Item_ok data A1 data.length c2 a_ b_ (.func (.func gf6) #[] (List.toArray gcap7)) cmp ⟨gf6, gcap7, rfl, ge8, fun x y hy Δ w H hΔ => gp9 x y hy Δ w H (fun u hu => (hΔ u hu))⟩ y23 H10 hy24) ?_
    rintro e27 wd26 ⟨rfl, H25⟩
    refine ⟨_, rfl, ?_⟩
    refine r_seq ?_
    have hq_ := Option.some.inj hm
    subst hq_
    have hq_ := Option.some.inj (show some (y23 : (List api_Item)) = some r0_ from hm11)
    subst hq_
    refine st_ret0 rfl rfl ?_
    exact ⟨rfl, H25⟩
  · cases hm

set_option maxHeartbeats 2000000 in
theorem slices_SortFunc_api_Item_ok {w0 w : World} {Γ : List (World → Prop)} (x_ : List api_Item) (A1 : Option Addr) (n3 c2 : Nat) (fv4 : Value) (cmp : (api_Item × api_Item) → Option Int) (hp5 : FnOk Try.prog w0 Γ fv4 (fun x => [.agg #[.int .i64 x.1.Kind, .int .i64 x.1.Amount], .agg #[.int .i64 x.2.Kind, .int .i64 x.2.Amount]]) (fun r => .int .i64 r) cmp) (r0_ : List api_Item) (H : Hp w0 (Row K24 (.slice A1 n3 c2) x_ :: Γ) w) (hm : slices_SortFunc_api_Item x_ cmp = some r0_) : Calls Try.prog 20 #[.slice A1 n3 c2, fv4] w (fun e w => e = .returned (.tuple #[]) ∧ Hp w0 (Row K24 (.slice A1 n3 c2) r0_ :: Γ) w) := by
  obtain ⟨gf6, gcap7, rfl, ge8, gp9⟩ := hp5
  obtain rfl := (H.g0).leneq
  unfold slices_SortFunc_api_Item at hm
  refine st_enter Try.func20 rfl Try.ntmps20 (Nat.le_of_ble_eq_true rfl) ?_
  refine st_seq ?_
  refine st_region ?_
  refine r_pure (.slice A1 x_.length c2) rfl ?_
  refine r_len Try.underlying25 rfl ?_
  refine r_pure (.int .i64 (x_.length : Int)) rfl ?_
  refine r_seq ?_
  refine st_region ?_
  refine r_pure (.slice A1 x_.length c2) rfl ?_
  refine r_pure (.int .i64 (x_.length : Int)) rfl ?_
  refine r_pure (.int .i64 (x_.length : Int)) rfl ?_
  refine r_conv Try.underlying3 Try.underlying53 rfl ?_
  obtain ⟨y10, hy11, hm⟩ := bind_some hm
  refine r_callf Try.call28 (math_bits_Len_ok (IntKind.u64.wrap (x_.length : Int)) y10 H hy11) ?_
  rintro e14 wd13 ⟨rfl, H12⟩
  refine ⟨_, rfl, ?_⟩
  refine r_pure (.func (.func gf6) #[] (List.toArray gcap7)) rfl ?_
  obtain ⟨y15, hy16, hm⟩ := bind_some hm
  refine r_callf Try.call27 (slices_pdqsortCmpFunc_api_Item_ok x_ A1 x_.length c2 0 (x_.length : Int) y10 (.func (.func gf6) #[] (List.toArray gcap7)) cmp ⟨gf6, gcap7, rfl, ge8, fun x y hy Δ w H hΔ => gp9 x y hy Δ w H (fun u hu => (hΔ u hu))⟩ y15 H12 hy16) ?_
  rintro e19 wd18 ⟨rfl, H17⟩
  refine ⟨_, rfl, ?_⟩
  refine r_nil ?_
  have hq_ := Option.some.inj hm
  subst hq_
  refine n_fin0 rfl ?_
  exact ⟨rfl, H17⟩

set_option maxHeartbeats 2000000 in
theorem cmp_isNaN_int_ok {w0 w : World} {Γ : List (World → Prop)} (x_ : Int) (r0_ : Bool) (H : Hp w0 (Γ) w) (hm : cmp_isNaN_int x_ = some r0_) : Calls Try.prog 29 #[.int .i64 x_] w (fun e w => e = .returned (.bool r0_) ∧ Hp w0 (Γ) w) := by
  unfold cmp_isNaN_int at hm
  refine st_enter Try.func29 rfl Try.ntmps29 (Nat.le_of_ble_eq_true rfl) ?_
  refine st_seq ?_
  refine st_region ?_
  refine r_pure (.bool false) rfl ?_
  refine r_seq ?_
  refine st_seq ?_
  refine st_region ?_
  refine r_pure (.int .i64 x_) rfl ?_
  refine r_pure (.int .i64 x_) rfl ?_
  refine r_pure (.bool (x_ != x_)) rfl ?_
  refine r_pure (.bool (x_ != x_)) rfl ?_
  refine r_seq ?_
  have hq_ := Option.some.inj hm
  subst hq_
  refine st_ret1 rfl rfl (Nat.le_of_ble_eq_true rfl) rfl ?_
  exact ⟨rfl, H⟩

set_option maxHeartbeats 2000000 in
theorem cmp_Compare_int_ok {w0 w : World} {Γ : List (World → Prop)} (x_ : Int) (y_ : Int) (r0_ : Int) (H : Hp w0 (Γ) w) (hm : cmp_Compare_int x_ y_ = some r0_) : Calls Try.prog 22 #[.int .i64 x_, .int .i64 y_] w (fun e w => e = .returned (.int .i64 r0_) ∧ Hp w0 (Γ) w) := by
  unfold cmp_Compare_int at hm
  refine st_enter Try.func22 rfl Try.ntmps22 (Nat.le_of_ble_eq_true rfl) ?_
  refine st_seq ?_
  refine st_region ?_
  refine r_pure (.int .i64 0) rfl ?_
  refine r_seq ?_
  refine st_seq ?_
  refine st_region ?_
  refine r_pure (.int .i64 x_) rfl ?_
  obtain ⟨y1, hy2, hm⟩ := bind_some hm
  refine r_callf Try.call29 (cmp_isNaN_int_ok x_ y1 H hy2) ?_
  rintro e5 wd4 ⟨rfl, H3⟩
  refine ⟨_, rfl, ?_⟩
  refine r_pure (.bool y1) rfl ?_
  refine r_seq ?_
  refine st_seq ?_
  refine st_region ?_
  refine r_pure (.int .i64 y_) rfl ?_
  obtain ⟨y6, hy7, hm⟩ := bind_some hm
  refine r_callf Try.call29 (cmp_isNaN_int_ok y_ y6 H3 hy7) ?_
  rintro e10 wd9 ⟨rfl, H8⟩
  refine ⟨_, rfl, ?_⟩
  refine r_pure (.bool y6) rfl ?_
  refine r_seq ?_
  refine st_seq ?_
  refine st_seq ?_
  refine st_region ?_
  refine r_pure (.bool y1) rfl ?_
  refine r_seq ?_
  rcases ite_some hm with ⟨hb11, hm⟩ | ⟨hb11, hm⟩
  · refine st_condt hb11 rfl ?_
    refine st_seq ?_
    refine st_seq ?_
    refine st_region ?_
    refine r_pure (.bool y6) rfl ?_
    refine r_seq ?_
    rcases ite_some hm with ⟨hb12, hm⟩ | ⟨hb12, hm⟩
    · refine st_condt hb12 rfl ?_
      refine st_seq ?_
      refine st_region ?_
      refine r_pure (.int .i64 0) rfl ?_
      refine r_seq ?_
      have hq_ := Option.some.inj hm
      subst hq_
      refine st_ret1 rfl rfl (Nat.le_of_ble_eq_true rfl) rfl ?_
      exact ⟨rfl, H8⟩
    · refine st_condf hb12 rfl ?_
      refine st_skip ?_
      refine n_sq ?_
      refine st_seq ?_
      refine st_region ?_
      refine r_pure (.int .i64 (-1)) rfl ?_
      refine r_seq ?_
      have hq_ := Option.some.inj hm
      subst hq_
      refine st_ret1 rfl rfl (Nat.le_of_ble_eq_true rfl) rfl ?_
      exact ⟨rfl, H8⟩
  · refine st_condf hb11 rfl ?_
    refine st_skip ?_
    refine n_sq ?_
    refine st_seq ?_
    refine st_seq ?_
    refine st_region ?_
    refine r_pure (.bool y6) rfl ?_
    refine r_seq ?_
    rcases ite_some hm with ⟨hb13, hm⟩ | ⟨hb13, hm⟩
    · refine st_condt hb13 rfl ?_
      refine st_seq ?_
      refine st_region ?_
      refine r_pure (.int .i64 1) rfl ?_
      refine r_seq ?_
      have hq_ := Option.some.inj hm
      subst hq_
      refine st_ret1 rfl rfl (Nat.le_of_ble_eq_true rfl) rfl ?_
      exact ⟨rfl, H8⟩
    · refine st_condf hb13 rfl ?_
      refine st_skip ?_
      refine n_sq ?_
      refine st_seq ?_
      refine st_seq ?_
      refine st_region ?_
      refine r_pure (.int .i64 x_) rfl ?_
      refine r_pure (.int .i64 y_) rfl ?_
      refine r_pure (.bool (decide (x_ < y_))) rfl ?_
      refine r_seq ?_
      rcases ite_some hm with ⟨hb14, hm⟩ | ⟨hb14, hm⟩
      · refine st_condt hb14 rfl ?_
        refine st_seq ?_
        refine st_region ?_
        refine r_pure (.int .i64 (-1)) rfl ?_
        refine r_seq ?_
        have hq_ := Option.some.inj hm
        subst hq_
        refine st_ret1 rfl rfl (Nat.le_of_ble_eq_true rfl) rfl ?_
        exact ⟨rfl, H8⟩
      · refine st_condf hb14 rfl ?_
        refine st_skip ?_
        refine n_sq ?_
        refine st_seq ?_
        refine st_seq ?_
        refine st_region ?_
        refine r_pure (.int .i64 x_) rfl ?_
        refine r_pure (.int .i64 y_) rfl ?_
        refine r_pure (.bool (decide (x_ > y_))) rfl ?_
        refine r_seq ?_
        rcases ite_some hm with ⟨hb15, hm⟩ | ⟨hb15, hm⟩
        · refine st_condt hb15 rfl ?_
          refine st_seq ?_
          refine st_region ?_
          refine r_pure (.int .i64 1) rfl ?_
          refine r_seq ?_
          have hq_ := Option.some.inj hm
          subst hq_
          refine st_ret1 rfl rfl (Nat.le_of_ble_eq_true rfl) rfl ?_
          exact ⟨rfl, H8⟩
        · refine st_condf hb15 rfl ?_
          refine st_skip ?_
          refine n_sq ?_
          refine st_seq ?_
          refine st_region ?_
          refine r_pure (.int .i64 0) rfl ?_
          refine r_seq ?_
          have hq_ := Option.some.inj hm
          subst hq_
          refine st_ret1 rfl rfl (Nat.le_of_ble_eq_true rfl) rfl ?_
          exact ⟨rfl, H8⟩

set_option maxHeartbeats 2000000 in
theorem fx_Add_c2_ok {w0 w : World} {Γ : List (World → Prop)} (x_ : api_Item) (y_ : api_Item) (r0_ : Int) (H : Hp w0 (Γ) w) (hm : fx_Add_c2 x_ y_ = some r0_) : Calls Try.prog 21 #[.agg #[.int .i64 x_.Kind, .int .i64 x_.Amount], .agg #[.int .i64 y_.Kind, .int .i64 y_.Amount]] w (fun e w => e = .returned (.int .i64 r0_) ∧ Hp w0 (Γ) w) := by
  unfold fx_Add_c2 at hm
  refine st_enter Try.func21 rfl Try.ntmps21 (Nat.le_of_ble_eq_true rfl) ?_
  refine st_seq ?_
  refine st_region ?_
  refine r_box [.int .i64 x_.Kind, .int .i64 x_.Amount] H rfl ?_
  intro b1 wd3 H2
  refine r_box [.int .i64 y_.Kind, .int .i64 y_.Amount] H2 rfl ?_
  intro b4 wd6 H5
  refine r_pure (.int .i64 0) rfl ?_
  refine r_seq ?_
  refine st_seq ?_
  refine st_region ?_
  refine r_fa FA24_0 ⟨b1, 0, none⟩ rfl rfl ?_
  refine r_ld1 (.int .i64 x_.Kind) LD3 rfl ((H5.g1).cell _ rfl) ?_
  refine r_fa FA24_0 ⟨b4, 0, none⟩ rfl rfl ?_
  refine r_ld1 (.int .i64 y_.Kind) LD3 rfl ((H5.g0).cell _ rfl) ?_
  obtain ⟨y7, hy8, hm⟩ := bind_some hm
  refine r_callf Try.call22 (cmp_Compare_int_ok x_.Kind y_.Kind y7 H5 hy8) ?_
  rintro e11 wd10 ⟨rfl, H9⟩
  refine ⟨_, rfl, ?_⟩
  refine r_pure (.int .i64 y7) rfl ?_
  refine r_seq ?_
  have hq_ := Option.some.inj hm
  subst hq_
  refine st_ret1 rfl rfl (Nat.le_of_ble_eq_true rfl) rfl ?_
  exact ⟨rfl, H9.d.d⟩

set_option maxHeartbeats 2000000 in
theorem fx_Add_ok {w0 w : World} {Γ : List (World → Prop)} (a_ : List api_Item) (A1 : Option Addr) (n6 c2 : Nat) (hn5 : n6 = a_.length) (hc3 : a_.length ≤ c2) (hv4 : ∀ u, Hp w0 Γ u → SlR K24 A1 a_ u) (b_ : List api_Item) (A7 : Option Addr) (n12 c8 : Nat) (hn11 : n12 = b_.length) (hc9 : b_.length ≤ c8) (hv10 : ∀ u, Hp w0 Γ u → SlR K24 A7 b_ u) (r0_ : List api_Item) (H : Hp w0 (Γ) w) (hm : fx_Add a_ b_ = some r0_) : Calls Try.prog 8 #[.slice A1 n6 c2, .slice A7 n12 c8] w (fun e w => ∃ (Ax1 : Option Addr) (nx2 cx3 : Nat), e = .returned (.slice Ax1 nx2 cx3) ∧ Hp w0 (Row K24 (.slice Ax1 nx2 cx3) r0_ :: Γ) w) := by
  subst hn5
  subst hn11
  unfold fx_Add at hm
  refine st_enter Try.func8 rfl Try.ntmps8 (Nat.le_of_ble_eq_true rfl) ?_
  refine st_seq ?_
  refine st_region ?_
  refine r_pure (.slice none 0 0) rfl ?_
  refine r_seq ?_
  refine st_seq ?_
  refine st_region ?_
  refine r_pure (.slice none 0 0) rfl ?_
  refine r_seq ?_
  refine st_seq ?_
  refine st_seq ?_
  refine st_region ?_
  refine r_pure (.slice A1 a_.length c2) rfl ?_
  refine r_pure (.slice A7 b_.length c8) rfl ?_
  refine r_buildSlice (K := (Kr 25 1 (by decide))) [(⟨[.slice A1 a_.length c2], rfl, rfl⟩ : Raw 1), (⟨[.slice A7 b_.length c8], rfl, rfl⟩ : Raw 1)] EL49 rfl rfl rfl (by decide) (by decide) rfl H ?_
  intro b13 wd15 H14
  obtain ⟨y16, hy17, hm⟩ := bind_some hm
  refine r_callf Try.call17 (slices_Concat_api_Item_elems0_ok a_ A1 a_.length c2 rfl hc3 (fun _ H => (hv4 _ H.d)) b_ A7 b_.length c8 rfl hc9 (fun _ H => (hv10 _ H.d)) (some ⟨b13, 0, none⟩) 2 (Nat.le_refl _) (fun _ H => (H.g0.rd)) y16 H14 hy17) ?_
  rintro e23 wd22 ⟨A18, n19, c20, rfl, H21⟩
  obtain rfl := (H21.g0).leneq
  refine ⟨_, rfl, ?_⟩
  refine r_len Try.underlying25 rfl ?_
  refine r_pure (.int .i64 0) rfl ?_
  refine r_seq ?_
  refine st_block ?_
  have H29 := H21.add (A := Row K24 (.slice none 0 0) []) Row.nil
  have hlim53 := (H29.g1.rd).lim
  obtain ⟨tl36, hl37, hm35⟩ := bind_some hm
  refine st_loopL (fx_Add.l1) (fun ys42 s ρ w => ∃ i38 : Int, ∃ xs33 : List api_Item, ∃ dn39 : List api_Item, ∃ A30 : Option Addr, ∃ n31 : Nat, ∃ c32 : Nat, (i38, xs33) = s ∧ y16 = dn39 ++ ys42 ∧ i38 = (dn39.length : Int) ∧ (∃ base, ρ = updl base [(5, .slice A30 n31 c32), (12, .slice A18 y16.length c20), (13, .int .i64 (y16.length : Int)), (14, .int .i64 i38)]) ∧ Hp w0 (Row K24 (.slice A30 n31 c32) xs33 :: Row K24 (.slice A18 y16.length c20) y16 :: Γ) w) hl37 ⟨0, ([] : List api_Item), [], none, 0, 0, rfl, rfl, rfl, upk (ac rfl (ac rfl (ac rfl (ac rfl an)))), H29.u2.d.u1.u1⟩ ?_
  rintro m ys42 IH46 s ρ w ⟨i38, xs33, dn39, A30, n31, c32, rfl, hxs40, hi41, ⟨base, rfl⟩, H34⟩ hm
  obtain rfl := (H34.g0).leneq
  rcases ys42 with _ | ⟨y43, ys42⟩
  · rw [fx_Add.l1] at hm
    have hb47 := range_end hxs40 hi41
    refine st_seq ?_
    refine st_region ?_
    refine r_pure (.bool (decide (i38 < (y16.length : Int)))) rfl ?_
    refine r_seq ?_
    refine st_seq ?_
    refine st_condf hb47 rfl ?_
    have hq_ := Option.some.inj hm
    refine st_exit rfl ?_
    subst hq_
    refine n_sq ?_
    refine st_seq ?_
    refine st_region ?_
    refine r_pure (.slice A30 xs33.length c32) rfl ?_
    obtain ⟨y54, hy55, hm⟩ := bind_some hm35
    refine r_callf Try.call20 (slices_SortFunc_api_Item_ok xs33 A30 xs33.length c32 (.func (.func 21) #[] #[]) (fun x => fx_Add_c2 x.1 x.2) ⟨21, [], rfl, Try.call21, fun x y hy Δ w H hΔ => fx_Add_c2_ok x.1 x.2 y H hy⟩ y54 H34 hy55) ?_
    rintro e58 wd57 ⟨rfl, H56⟩
    refine ⟨_, rfl, ?_⟩
    refine r_seq ?_
    refine st_seq ?_
    refine st_region ?_
    refine r_pure (.slice A30 xs33.length c32) rfl ?_
    refine r_pure (.slice A30 xs33.length c32) rfl ?_
    refine r_seq ?_
    have hq_ := Option.some.inj hm
    subst hq_
    refine st_ret1 rfl rfl (Nat.le_of_ble_eq_true rfl) rfl ?_
    exact ⟨A30, xs33.length, c32, rfl, H56.u1.d⟩
  · rw [fx_Add.l1] at hm
    have hb48 := range_in hxs40 hi41
    obtain ⟨h049, h150, hj51⟩ := range_ix hxs40 hi41
    have hnx52 := range_next hxs40 hi41 hlim53
    refine st_seq ?_
    refine st_region ?_
    refine r_pure (.bool (decide (i38 < (y16.length : Int)))) rfl ?_
    refine r_seq ?_
    refine st_seq ?_
    refine st_condt hb48 rfl ?_
    refine st_skip ?_
    refine n_sq ?_
    refine st_seq ?_
    refine st_block ?_
    refine st_seq ?_
    refine st_region ?_
    have hA59 := (H34.g1.rd).adO hj51
    refine r_ix IX25 rfl rfl hA59 h049 h150 ?_
    refine r_ldA [.int .i64 y43.Kind, .int .i64 y43.Amount] LD24 rfl rfl ((H34.g1.rd).csA hA59 hj51) ?_
    refine r_alloc [.int .i64 0, .int .i64 0] Try.zeroValue24 H34 rfl ?_
    intro b60 wd62 H61
    refine r_stA [.int .i64 y43.Kind, .int .i64 y43.Amount] LD24 rfl rfl rfl rfl H61 (by decide) rfl ?_
    intro wd64 H63
    refine r_seq ?_
    refine st_seq ?_
    refine st_region ?_
    refine r_pure (.slice A30 xs33.length c32) rfl ?_
    refine r_func (.func (.func 19) #[] #[.pointer (some ⟨b60, 0, none⟩)]) rfl ?_
    obtain ⟨y65, hy66, hm⟩ := bind_some hm
    refine r_callf Try.call18 (slices_IndexFunc_api_Item_ok xs33 A30 xs33.length c32 rfl (((H63).g1).cap) (fun _ H => (H.g1.rd)) (.func (.func 19) #[] #[.pointer (some ⟨b60, 0, none⟩)]) (fun x => fx_Add_c1 x y43) ⟨19, [.pointer (some ⟨b60, 0, none⟩)], rfl, Try.call19, fun x y hy Δ w H hΔ => fx_Add_c1_ok x b60 y43 (fun _ H => ((hΔ _ H).g0)) y H hy⟩ y65 H63 hy66) ?_
    rintro e69 wd68 ⟨rfl, H67⟩
    refine ⟨_, rfl, ?_⟩
    refine r_pure (.int .i64 y65) rfl ?_
    refine r_seq ?_
    refine st_cut (fun ρ w => ∃ A70 : Option Addr, ∃ n71 : Nat, ∃ c72 : Nat, ∃ xs73 : List api_Item, ∃ v74 : Int, (∃ base, ρ = updl base [(5, .slice A70 n71 c72), (7, .pointer (some ⟨b60, 0, none⟩)), (8, .int .i64 v74), (12, .slice A18 y16.length c20), (13, .int .i64 (y16.length : Int)), (14, .int .i64 i38)]) ∧ Hp w0 (Row K24 (.slice A70 n71 c72) xs73 :: Bx b60 24 [.int .i64 y43.Kind, .int .i64 y43.Amount] :: Row K24 (.slice A18 y16.length c20) y16 :: Γ) w ∧ fx_Add.j1 (fx_Add.l1 ys42) i38 y43 xs73 v74 = some tl36) ?_ ?_
    · refine st_seq ?_
      refine st_region ?_
      refine r_pure (.int .i64 y65) rfl ?_
      refine r_pure (.bool (decide (y65 < 0))) rfl ?_
      refine r_seq ?_
      rcases ite_some hm with ⟨hb161, hm⟩ | ⟨hb161, hm⟩
      · refine st_condt hb161 rfl ?_
        refine st_seq ?_
        refine st_region ?_
        refine r_pure (.slice A30 xs33.length c32) rfl ?_
        refine r_len Try.underlying25 rfl ?_
        refine r_pure (.int .i64 (xs33.length : Int)) rfl ?_
        refine r_seq ?_
        refine st_region ?_
        refine r_pure (.slice A30 xs33.length c32) rfl ?_
        refine r_fa FA24_0 ⟨b60, 0, none⟩ rfl rfl ?_
        refine r_ld1 (.int .i64 y43.Kind) LD3 rfl ((H67.g0).cell _ rfl) ?_
        refine r_build [.int .i64 y43.Kind, .int .i64 0] FL24 rfl ?_
        refine r_buildSlice (K := K24) [(⟨y43.Kind, 0⟩ : api_Item)] EL25 rfl rfl rfl (by decide) (by decide) rfl H67 ?_
        intro b162 wd164 H163
        obtain ⟨hf165, hm⟩ := gd_some hm
        refine r_append (K := K24) (ys := [(⟨y43.Kind, 0⟩ : api_Item)]) AP25 rfl rfl rfl rfl H163.u2 (((H163.u2).g1).src) (fit_le hf165 (by decide)) ?_
        intro A166 c167 wd168 H169
        refine r_pure (.slice A166 ((xs33 ++ [(⟨y43.Kind, 0⟩ : api_Item)]).length) c167) rfl ?_
        refine r_nil ?_
        refine n_cut ⟨A166, (xs33 ++ [(⟨y43.Kind, 0⟩ : api_Item)]).length, c167, xs33 ++ [(⟨y43.Kind, 0⟩ : api_Item)], (xs33.length : Int), upk (ac rfl (ac rfl (ac rfl (ac rfl (ac rfl (ac rfl an)))))), H169.u1.d.u2.u2.u2, hm⟩
      · refine st_condf hb161 rfl ?_
        refine st_skip ?_
        refine n_cut ⟨A30, xs33.length, c32, xs33, y65, upk (ac rfl (ac rfl (ac rfl (ac rfl (ac rfl (ac rfl an)))))), H67.u2.u1.u2, hm⟩
    · rintro ρ w ⟨A70, n71, c72, xs73, v74, ⟨base, rfl⟩, H75, hm⟩
      obtain rfl := (H75.g0).leneq
      unfold fx_Add.j1 at hm
      obtain ⟨⟨h077, h178⟩, hm⟩ := gd_some hm
      have hj79 := rd_get h077 h178
      refine Flow.run' [[], [], [], [], [2, 3], [2, 3, 4], [2, 3, 4, 5], [], [7], [2, 3, 4, 5, 6, 7, 8], [0, 1, 2, 3, 4, 5, 6, 7, 8, 9], [0, 1, 2, 3, 4, 5, 6, 7, 8, 9, 10], [0, 1, 2, 3, 4, 5, 6, 7, 8, 9, 10, 11]] [(31, 0), (32, 1), (33, 2), (34, 3), (35, 4), (36, 5), (37, 6), (38, 7), (39, 8), (40, 9), (41, 10), (42, 11)] [(fun η76 v => v = .slice A70 xs73.length c72), (fun η76 v => v = .int .i64 v74), (fun η76 v => v = .slice A70 xs73.length c72), (fun η76 v => v = .int .i64 v74), (fun η76 v => v = .pointer (some ((oA A70).add (Int.toNat v74 * 2)))), (fun η76 v => v = .pointer (some (((oA A70).add (Int.toNat v74 * 2)).add 1))), (fun η76 v => v = .int .i64 ((rd xs73 v74).Amount)), (fun η76 v => v = .pointer (some ⟨b60, 1, none⟩)), (fun η76 v => v = .int .i64 y43.Amount), (fun η76 v => v = .int .i64 (w64 ((rd xs73 v74).Amount + y43.Amount))), (fun η76 v => v = .pointer (some ((oA A70).add (Int.toNat v74 * 2)))), (fun η76 v => v = .pointer (some (((oA A70).add (Int.toNat v74 * 2)).add 1))), (fun _ _ => True)] [⟨none, (some 12), fun η76 => Row K24 (.slice A70 xs73.length c72) xs73⟩, ⟨(some 12), none, fun η76 => Row K24 (.slice A70 xs73.length c72) (xs73.set (Int.toNat v74) (⟨(rd xs73 v74).Kind, w64 ((rd xs73 v74).Amount + y43.Amount)⟩ : api_Item))⟩] rfl (by kernel_rfl) (by kernel_rfl) H75 ⟨?_, ?_, ?_, ?_, ?_, ?_, ?_, ?_, ?_, ?_, ?_, ?_, ?_, trivial⟩ ?_
      · intro η76 wd86 Δ87 hE83 hR84 H85
        have H85 : Hp w0 ((Δ87 ++ (Bx b60 24 [.int .i64 y43.Kind, .int .i64 y43.Amount] :: Row K24 (.slice A18 y16.length c20) y16 :: Γ))) wd86 := H85
        refine sp_op [(5, .slice A70 xs73.length c72)] (ac rfl an) ?_
        refine r_pure (.slice A70 xs73.length c72) rfl ?_
        exact r_nil (n_lp ⟨_, rfl, rfl, H85⟩)
      · intro η76 wd91 Δ92 hE88 hR89 H90
        have H90 : Hp w0 ((Δ92 ++ (Bx b60 24 [.int .i64 y43.Kind, .int .i64 y43.Amount] :: Row K24 (.slice A18 y16.length c20) y16 :: Γ))) wd91 := H90
        refine sp_op [(8, .int .i64 v74)] (ac rfl an) ?_
        refine r_pure (.int .i64 v74) rfl ?_
        exact r_nil (n_lp ⟨_, rfl, rfl, H90⟩)
      · intro η76 wd96 Δ97 hE93 hR94 H95
        have H95 : Hp w0 ((Δ97 ++ (Bx b60 24 [.int .i64 y43.Kind, .int .i64 y43.Amount] :: Row K24 (.slice A18 y16.length c20) y16 :: Γ))) wd96 := H95
        refine sp_op [(5, .slice A70 xs73.length c72)] (ac rfl an) ?_
        refine r_pure (.slice A70 xs73.length c72) rfl ?_
        exact r_nil (n_lp ⟨_, rfl, rfl, H95⟩)
      · intro η76 wd101 Δ102 hE98 hR99 H100
        have H100 : Hp w0 ((Δ102 ++ (Bx b60 24 [.int .i64 y43.Kind, .int .i64 y43.Amount] :: Row K24 (.slice A18 y16.length c20) y16 :: Γ))) wd101 := H100
        refine sp_op [(8, .int .i64 v74)] (ac rfl an) ?_
        refine r_pure (.int .i64 v74) rfl ?_
        exact r_nil (n_lp ⟨_, rfl, rfl, H100⟩)
      · intro η76 wd106 Δ107 hE103 hR104 H105
        have H105 : Hp w0 ((Δ107 ++ (Bx b60 24 [.int .i64 y43.Kind, .int .i64 y43.Amount] :: Row K24 (.slice A18 y16.length c20) y16 :: Γ))) wd106 := H105
        refine sp_op [(33, .slice A70 xs73.length c72), (34, .int .i64 v74)] (ac (hE103 2 (by decide)) (ac (hE103 3 (by decide)) an)) ?_
        have hA111 := ((show (Row K24 (.slice A70 xs73.length c72) xs73) _ from (H105).memr (hR104 _ (List.mem_of_getElem? (i := 0) rfl) rfl)).rd).adO hj79
        refine r_ix IX25 rfl rfl hA111 h077 h178 ?_
        exact r_nil (n_lp ⟨_, rfl, rfl, H105⟩)
      · intro η76 wd115 Δ116 hE112 hR113 H114
        have H114 : Hp w0 ((Δ116 ++ (Bx b60 24 [.int .i64 y43.Kind, .int .i64 y43.Amount] :: Row K24 (.slice A18 y16.length c20) y16 :: Γ))) wd115 := H114
        refine sp_op [(35, .pointer (some ((oA A70).add (Int.toNat v74 * 2))))] (ac (hE112 4 (by decide)) an) ?_
        refine r_fa FA24_1 (((oA A70).add (Int.toNat v74 * 2)).add 1) rfl rfl ?_
        exact r_nil (n_lp ⟨_, rfl, rfl, H114⟩)
      · intro η76 wd120 Δ121 hE117 hR118 H119
        have H119 : Hp w0 ((Δ121 ++ (Bx b60 24 [.int .i64 y43.Kind, .int .i64 y43.Amount] :: Row K24 (.slice A18 y16.length c20) y16 :: Γ))) wd120 := H119
        refine sp_op [(36, .pointer (some (((oA A70).add (Int.toNat v74 * 2)).add 1)))] (ac (hE117 5 (by decide)) an) ?_
        have hA122 := ((show (Row K24 (.slice A70 xs73.length c72) xs73) _ from (H119).memr (hR118 _ (List.mem_of_getElem? (i := 0) rfl) rfl)).rd).adO hj79
        refine r_ld1 (.int .i64 ((rd xs73 v74).Amount)) LD3 rfl (((show (Row K24 (.slice A70 xs73.length c72) xs73) _ from (H119).memr (hR118 _ (List.mem_of_getElem? (i := 0) rfl) rfl)).rd).cA hA122 hj79 1 _ rfl) ?_
        exact r_nil (n_lp ⟨_, rfl, rfl, H119⟩)
      · intro η76 wd126 Δ127 hE123 hR124 H125
        have H125 : Hp w0 ((Δ127 ++ (Bx b60 24 [.int .i64 y43.Kind, .int .i64 y43.Amount] :: Row K24 (.slice A18 y16.length c20) y16 :: Γ))) wd126 := H125
        refine sp_op [(7, .pointer (some ⟨b60, 0, none⟩))] (ac rfl an) ?_
        refine r_fa FA24_1 ⟨b60, 1, none⟩ rfl rfl ?_
        exact r_nil (n_lp ⟨_, rfl, rfl, H125⟩)
      · intro η76 wd131 Δ132 hE128 hR129 H130
        have H130 : Hp w0 ((Δ132 ++ (Bx b60 24 [.int .i64 y43.Kind, .int .i64 y43.Amount] :: Row K24 (.slice A18 y16.length c20) y16 :: Γ))) wd131 := H130
        refine sp_op [(38, .pointer (some ⟨b60, 1, none⟩))] (ac (hE128 7 (by decide)) an) ?_
        refine r_ld1 (.int .i64 y43.Amount) LD3 rfl (((H130).tl.g0).cell _ rfl) ?_
        exact r_nil (n_lp ⟨_, rfl, rfl, H130⟩)
      · intro η76 wd136 Δ137 hE133 hR134 H135
        have H135 : Hp w0 ((Δ137 ++ (Bx b60 24 [.int .i64 y43.Kind, .int .i64 y43.Amount] :: Row K24 (.slice A18 y16.length c20) y16 :: Γ))) wd136 := H135
        refine sp_op [(37, .int .i64 ((rd xs73 v74).Amount)), (39, .int .i64 y43.Amount)] (ac (hE133 6 (by decide)) (ac (hE133 8 (by decide)) an)) ?_
        refine r_pure (.int .i64 (w64 ((rd xs73 v74).Amount + y43.Amount))) rfl ?_
        exact r_nil (n_lp ⟨_, rfl, rfl, H135⟩)
      · intro η76 wd141 Δ142 hE138 hR139 H140
        have H140 : Hp w0 ((Δ142 ++ (Bx b60 24 [.int .i64 y43.Kind, .int .i64 y43.Amount] :: Row K24 (.slice A18 y16.length c20) y16 :: Γ))) wd141 := H140
        refine sp_op [(31, .slice A70 xs73.length c72), (32, .int .i64 v74)] (ac (hE138 0 (by decide)) (ac (hE138 1 (by decide)) an)) ?_
        have hA143 := ((show (Row K24 (.slice A70 xs73.length c72) xs73) _ from (H140).memr (hR139 _ (List.mem_of_getElem? (i := 0) rfl) rfl)).rd).adO hj79
        refine r_ix IX25 rfl rfl hA143 h077 h178 ?_
        exact r_nil (n_lp ⟨_, rfl, rfl, H140⟩)
      · intro η76 wd147 Δ148 hE144 hR145 H146
        have H146 : Hp w0 ((Δ148 ++ (Bx b60 24 [.int .i64 y43.Kind, .int .i64 y43.Amount] :: Row K24 (.slice A18 y16.length c20) y16 :: Γ))) wd147 := H146
        refine sp_op [(41, .pointer (some ((oA A70).add (Int.toNat v74 * 2))))] (ac (hE144 10 (by decide)) an) ?_
        refine r_fa FA24_1 (((oA A70).add (Int.toNat v74 * 2)).add 1) rfl rfl ?_
        exact r_nil (n_lp ⟨_, rfl, rfl, H146⟩)
      · intro η76 wd152 Δ153 hE149 hR150 H151
        have H151 : Hp w0 (Row K24 (.slice A70 xs73.length c72) xs73 :: (Δ153 ++ (Bx b60 24 [.int .i64 y43.Kind, .int .i64 y43.Amount] :: Row K24 (.slice A18 y16.length c20) y16 :: Γ))) wd152 := H151
        refine sp_op [(40, .int .i64 (w64 ((rd xs73 v74).Amount + y43.Amount))), (42, .pointer (some (((oA A70).add (Int.toNat v74 * 2)).add 1)))] (ac (hE149 9 (by decide)) (ac (hE149 11 (by decide)) an)) ?_
        have hA156 := (H151.g0.rd).adO hj79
        refine r_stx1 (K := K24) ((⟨(rd xs73 v74).Kind, w64 ((rd xs73 v74).Amount + y43.Amount)⟩ : api_Item)) hA156 LD3 rfl rfl rfl H151 hj79 (by decide) rfl ?_
        intro wd155 H154
        exact r_nil (n_lp ⟨_, rfl, trivial, H154⟩)
      · intro η76 wd158 hV159 H157
        have H160 : Hp w0 (Row K24 (.slice A70 xs73.length c72) (xs73.set (Int.toNat v74) (⟨(rd xs73 v74).Kind, w64 ((rd xs73 v74).Amount + y43.Amount)⟩ : api_Item)) :: Bx b60 24 [.int .i64 y43.Kind, .int .i64 y43.Amount] :: Row K24 (.slice A18 y16.length c20) y16 :: Γ) wd158 := H157
        refine n_frame [(5, .slice A70 xs73.length c72), (12, .slice A18 y16.length c20), (13, .int .i64 (y16.length : Int)), (14, .int .i64 i38)] (ac rfl (ac rfl (ac rfl (ac rfl an)))) ?_
        refine n_bl ?_
        refine n_sq ?_
        refine st_region ?_
        refine r_pure (.int .i64 (w64 (i38 + 1))) rfl ?_
        refine r_pure (.int .i64 (w64 (i38 + 1))) rfl ?_
        refine r_nil ?_
        refine n_round (IH46 _ _ rfl _ _ _ ⟨i38 + 1, xs73.set (Int.toNat v74) (⟨(rd xs73 v74).Kind, w64 ((rd xs73 v74).Amount + y43.Amount)⟩ : api_Item), dn39 ++ [y43], A70, xs73.length, c72, rfl, range_more hxs40, range_len hi41, upk (ac rfl (ac rfl (ac rfl (ac hnx52 an)))), H160.u1.d.u1.u1⟩ hm)

set_option maxHeartbeats 2000000 in
theorem scutageref19_AddItems_ok {w0 w : World} {Γ : List (World → Prop)} (a_ : List api_Item) (A1 : Option Addr) (n6 c2 : Nat) (hn5 : n6 = a_.length) (hc3 : a_.length ≤ c2) (hv4 : ∀ u, Hp w0 Γ u → SlR K24 A1 a_ u) (b_ : List api_Item) (A7 : Option Addr) (n12 c8 : Nat) (hn11 : n12 = b_.length) (hc9 : b_.length ≤ c8) (hv10 : ∀ u, Hp w0 Γ u → SlR K24 A7 b_ u) (r0_ : List api_Item) (H : Hp w0 (Γ) w) (hm : scutageref19_AddItems a_ b_ = some r0_) : Calls Try.prog 14 #[.slice A1 n6 c2, .slice A7 n12 c8] w (fun e w => ∃ (Ax1 : Option Addr) (nx2 cx3 : Nat), e = .returned (.slice Ax1 nx2 cx3) ∧ Hp w0 (Row K24 (.slice Ax1 nx2 cx3) r0_ :: Γ) w) := by
  subst hn5
  subst hn11
  unfold scutageref19_AddItems at hm
  refine st_enter Try.func14 rfl Try.ntmps14 (Nat.le_of_ble_eq_true rfl) ?_
  refine st_seq ?_
  refine st_region ?_
  refine r_pure (.slice none 0 0) rfl ?_
  refine r_seq ?_
  refine st_seq ?_
  refine st_region ?_
  refine r_pure (.slice none 0 0) rfl ?_
  refine r_seq ?_
  refine st_seq ?_
  refine st_seq ?_
  refine st_region ?_
  refine r_pure (.slice A1 a_.length c2) rfl ?_
  obtain ⟨hf14, hm⟩ := gd_some hm
  have H13 := H.add (A := Row K24 (.slice none 0 0) []) Row.nil
  refine r_append (K := K24) (ys := a_) AP25 rfl rfl rfl rfl H13 ((hv4 _ H13.d).src) (fit_le hf14 (by decide)) ?_
  intro A15 c16 wd17 H18
  refine r_pure (.slice A7 b_.length c8) rfl ?_
  obtain ⟨hf19, hm⟩ := gd_some hm
  refine r_append (K := K24) (ys := b_) AP25 rfl rfl rfl rfl H18 ((hv10 _ H18.d).src) (fit_le hf19 (by decide)) ?_
  intro A20 c21 wd22 H23
  refine r_len Try.underlying25 rfl ?_
  refine r_pure (.int .i64 0) rfl ?_
  refine r_seq ?_
  refine st_block ?_
  have H29 := H23.add (A := Row K24 (.slice none 0 0) []) Row.nil
  have hlim53 := (H29.g1.rd).lim
  obtain ⟨tl36, hl37, hm35⟩ := bind_some hm
  refine st_loopL (scutageref19_AddItems.l1) (fun ys42 s ρ w => ∃ i38 : Int, ∃ xs33 : List api_Item, ∃ dn39 : List api_Item, ∃ A30 : Option Addr, ∃ n31 : Nat, ∃ c32 : Nat, (i38, xs33) = s ∧ (([] : List api_Item) ++ a_) ++ b_ = dn39 ++ ys42 ∧ i38 = (dn39.length : Int) ∧ (∃ base, ρ = updl base [(5, .slice A30 n31 c32), (12, .slice A20 (((([] : List api_Item) ++ a_) ++ b_).length) c21), (13, .int .i64 (((([] : List api_Item) ++ a_) ++ b_).length : Int)), (14, .int .i64 i38)]) ∧ Hp w0 (Row K24 (.slice A30 n31 c32) xs33 :: Row K24 (.slice A20 (((([] : List api_Item) ++ a_) ++ b_).length) c21) ((([] : List api_Item) ++ a_) ++ b_) :: Γ) w) hl37 ⟨0, ([] : List api_Item), [], none, 0, 0, rfl, rfl, rfl, upk (ac rfl (ac rfl (ac rfl (ac rfl an)))), H29.u1.u1⟩ ?_
  rintro m ys42 IH46 s ρ w ⟨i38, xs33, dn39, A30, n31, c32, rfl, hxs40, hi41, ⟨base, rfl⟩, H34⟩ hm
  obtain rfl := (H34.g0).leneq
  rcases ys42 with _ | ⟨y43, ys42⟩
  · rw [scutageref19_AddItems.l1] at hm
    have hb47 := range_end hxs40 hi41
    refine st_seq ?_
    refine st_region ?_
    refine r_pure (.bool (decide (i38 < (((([] : List api_Item) ++ a_) ++ b_).length : Int)))) rfl ?_
    refine r_seq ?_
    refine st_seq ?_
    refine st_condf hb47 rfl ?_
    have hq_ := Option.some.inj hm
    refine st_exit rfl ?_
    subst hq_
    refine n_sq ?_
    refine st_seq ?_
    refine st_region ?_
    refine r_pure (.slice A30 xs33.length c32) rfl ?_
    refine r_pure (.slice A30 xs33.length c32) rfl ?_
    refine r_seq ?_
    have hq_ := Option.some.inj hm35
    subst hq_
    refine st_ret1 rfl rfl (Nat.le_of_ble_eq_true rfl) rfl ?_
    exact ⟨A30, xs33.length, c32, rfl, H34.u1.d⟩
  · rw [scutageref19_AddItems.l1] at hm
    have hb48 := range_in hxs40 hi41
    obtain ⟨h049, h150, hj51⟩ := range_ix hxs40 hi41
    have hnx52 := range_next hxs40 hi41 hlim53
    refine st_seq ?_
    refine st_region ?_
    refine r_pure (.bool (decide (i38 < (((([] : List api_Item) ++ a_) ++ b_).length : Int)))) rfl ?_
    refine r_seq ?_
    refine st_seq ?_
    refine st_condt hb48 rfl ?_
    refine st_skip ?_
    refine n_sq ?_
    refine st_cut (fun ρ w => ∃ A54 : Option Addr, ∃ n55 : Nat, ∃ c56 : Nat, ∃ xs57 : List api_Item, (∃ base, ρ = updl base [(5, .slice A54 n55 c56), (12, .slice A20 (((([] : List api_Item) ++ a_) ++ b_).length) c21), (13, .int .i64 (((([] : List api_Item) ++ a_) ++ b_).length : Int)), (14, .int .i64 i38)]) ∧ Hp w0 (Row K24 (.slice A54 n55 c56) xs57 :: Row K24 (.slice A20 (((([] : List api_Item) ++ a_) ++ b_).length) c21) ((([] : List api_Item) ++ a_) ++ b_) :: Γ) w ∧ scutageref19_AddItems.j1 (scutageref19_AddItems.l1 ys42) i38 xs57 = some tl36) ?_ ?_
    · refine st_block ?_
      refine st_seq ?_
      refine st_region ?_
      have hA59 := (H34.g1.rd).adO hj51
      refine r_ix IX25 rfl rfl hA59 h049 h150 ?_
      refine r_ldA [.int .i64 y43.Kind, .int .i64 y43.Amount] LD24 rfl rfl ((H34.g1.rd).csA hA59 hj51) ?_
      refine r_alloc [.int .i64 0, .int .i64 0] Try.zeroValue24 H34 rfl ?_
      intro b60 wd62 H61
      refine r_stA [.int .i64 y43.Kind, .int .i64 y43.Amount] LD24 rfl rfl rfl rfl H61 (by decide) rfl ?_
      intro wd64 H63
      refine r_seq ?_
      refine st_seq ?_
      refine st_region ?_
      refine r_pure (.int .i64 0) rfl ?_
      refine r_seq ?_
      refine st_seq ?_
      refine st_block ?_
      obtain ⟨tl69, hl70, hm68⟩ := bind_some hm
      refine st_loopF (scutageref19_AddItems.l2 xs33 y43) (fun s ρ w => ∃ v66 : Int, v66 = s ∧ (∃ base, ρ = updl base [(5, .slice A30 xs33.length c32), (7, .pointer (some ⟨b60, 0, none⟩)), (8, .int .i64 v66), (12, .slice A20 (((([] : List api_Item) ++ a_) ++ b_).length) c21), (13, .int .i64 (((([] : List api_Item) ++ a_) ++ b_).length : Int)), (14, .int .i64 i38)]) ∧ Hp w0 (Row K24 (.slice A30 xs33.length c32) xs33 :: Bx b60 24 [.int .i64 y43.Kind, .int .i64 y43.Amount] :: Row K24 (.slice A20 (((([] : List api_Item) ++ a_) ++ b_).length) c21) ((([] : List api_Item) ++ a_) ++ b_) :: Γ) w) hl70 (fun _ => rfl) ⟨0, rfl, upk (ac rfl (ac rfl (ac rfl (ac rfl (ac rfl (ac rfl an)))))), H63.u2.u1.u2⟩ ?_
      rintro fuel76 IH78 s ρ w ⟨v66, rfl, ⟨base, rfl⟩, H67⟩ hm
      rw [scutageref19_AddItems.l2] at hm
      refine st_seq ?_
      refine st_cut (fun ρ w => ∃ q79 : Bool, (∃ base, ρ = updl base [(5, .slice A30 xs33.length c32), (7, .pointer (some ⟨b60, 0, none⟩)), (8, .int .i64 v66), (12, .slice A20 (((([] : List api_Item) ++ a_) ++ b_).length) c21), (13, .int .i64 (((([] : List api_Item) ++ a_) ++ b_).length : Int)), (14, .int .i64 i38), (31, .bool q79)]) ∧ Hp w0 (Row K24 (.slice A30 xs33.length c32) xs33 :: Bx b60 24 [.int .i64 y43.Kind, .int .i64 y43.Amount] :: Row K24 (.slice A20 (((([] : List api_Item) ++ a_) ++ b_).length) c21) ((([] : List api_Item) ++ a_) ++ b_) :: Γ) w ∧ scutageref19_AddItems.j2 (scutageref19_AddItems.l2 xs33 y43 fuel76) v66 q79 = some tl69) ?_ ?_
      · rcases ite_some hm with ⟨hb415, hm⟩ | ⟨hb415, hm⟩
        · obtain ⟨⟨h0416, h1417⟩, hm⟩ := gd_some hm
          have hj418 := rd_get h0416 h1417
          refine Flow.run' [[], [], [1], [0, 1, 2], [0, 1, 2, 3], [0, 1, 2, 3, 4], [0, 1, 2, 3, 4], [0, 1, 2, 3, 4, 5, 6], [0, 1, 2, 3, 4, 5, 6, 7], [0, 1, 2, 3, 4, 5, 6, 7, 8], [0, 1, 2, 3, 4], [0, 1, 2, 3, 4, 10], [0, 1, 2, 3, 4, 5, 6, 7, 8, 9, 10, 11], [0, 1, 2, 3, 4, 5, 6, 7, 8, 9, 10, 11, 12]] [(18, 0), (19, 1), (20, 2), (21, 3), (22, 4), (23, 5), (24, 6), (25, 7), (26, 8), (27, 9), (28, 10), (29, 11), (30, 12), (31, 13)] [(fun η414 v => v = .int .i64 v66), (fun η414 v => v = .slice A30 xs33.length c32), (fun η414 v => v = .int .i64 (xs33.length : Int)), (fun η414 v => v = .bool (decide (v66 < (xs33.length : Int)))), (fun η414 v => v = .bool (decide (v66 < (xs33.length : Int)))), (fun η414 v => v = .slice A30 xs33.length c32), (fun η414 v => v = .int .i64 v66), (fun η414 v => v = .pointer (some ((oA A30).add (Int.toNat v66 * 2)))), (fun η414 v => v = .pointer (some (((oA A30).add (Int.toNat v66 * 2)).add 0))), (fun η414 v => v = .int .i64 ((rd xs33 v66).Kind)), (fun η414 v => v = .pointer (some ⟨b60, 0, none⟩)), (fun η414 v => v = .int .i64 y43.Kind), (fun η414 v => v = .bool (decide ((rd xs33 v66).Kind < y43.Kind))), (fun η414 v => v = .bool (decide ((rd xs33 v66).Kind < y43.Kind)))] [] rfl (by kernel_rfl) (by kernel_rfl) H67 ⟨?_, ?_, ?_, ?_, ?_, ?_, ?_, ?_, ?_, ?_, ?_, ?_, ?_, ?_, trivial⟩ ?_
          · intro η414 wd423 Δ424 hE420 hR421 H422
            have H422 : Hp w0 ((Δ424 ++ (Row K24 (.slice A30 xs33.length c32) xs33 :: Bx b60 24 [.int .i64 y43.Kind, .int .i64 y43.Amount] :: Row K24 (.slice A20 (((([] : List api_Item) ++ a_) ++ b_).length) c21) ((([] : List api_Item) ++ a_) ++ b_) :: Γ))) wd423 := H422
            refine sp_op [(8, .int .i64 v66)] (ac rfl an) ?_
            refine r_pure (.int .i64 v66) rfl ?_
            exact r_nil (n_lp ⟨_, rfl, rfl, H422⟩)
          · intro η414 wd428 Δ429 hE425 hR426 H427
            have H427 : Hp w0 ((Δ429 ++ (Row K24 (.slice A30 xs33.length c32) xs33 :: Bx b60 24 [.int .i64 y43.Kind, .int .i64 y43.Amount] :: Row K24 (.slice A20 (((([] : List api_Item) ++ a_) ++ b_).length) c21) ((([] : List api_Item) ++ a_) ++ b_) :: Γ))) wd428 := H427
            refine sp_op [(5, .slice A30 xs33.length c32)] (ac rfl an) ?_
            refine r_pure (.slice A30 xs33.length c32) rfl ?_
            exact r_nil (n_lp ⟨_, rfl, rfl, H427⟩)
          · intro η414 wd433 Δ434 hE430 hR431 H432
            have H432 : Hp w0 ((Δ434 ++ (Row K24 (.slice A30 xs33.length c32) xs33 :: Bx b60 24 [.int .i64 y43.Kind, .int .i64 y43.Amount] :: Row K24 (.slice A20 (((([] : List api_Item) ++ a_) ++ b_).length) c21) ((([] : List api_Item) ++ a_) ++ b_) :: Γ))) wd433 := H432
            refine sp_op [(19, .slice A30 xs33.length c32)] (ac (hE430 1 (by decide)) an) ?_
            refine r_len Try.underlying25 rfl ?_
            exact r_nil (n_lp ⟨_, rfl, rfl, H432⟩)
          · intro η414 wd438 Δ439 hE435 hR436 H437
            have H437 : Hp w0 ((Δ439 ++ (Row K24 (.slice A30 xs33.length c32) xs33 :: Bx b60 24 [.int .i64 y43.Kind, .int .i64 y43.Amount] :: Row K24 (.slice A20 (((([] : List api_Item) ++ a_) ++ b_).length) c21) ((([] : List api_Item) ++ a_) ++ b_) :: Γ))) wd438 := H437
            refine sp_op [(18, .int .i64 v66), (20, .int .i64 (xs33.length : Int))] (ac (hE435 0 (by decide)) (ac (hE435 2 (by decide)) an)) ?_
            refine r_pure (.bool (decide (v66 < (xs33.length : Int)))) rfl ?_
            exact r_nil (n_lp ⟨_, rfl, rfl, H437⟩)
          · intro η414 wd443 Δ444 hE440 hR441 H442
            have H442 : Hp w0 ((Δ444 ++ (Row K24 (.slice A30 xs33.length c32) xs33 :: Bx b60 24 [.int .i64 y43.Kind, .int .i64 y43.Amount] :: Row K24 (.slice A20 (((([] : List api_Item) ++ a_) ++ b_).length) c21) ((([] : List api_Item) ++ a_) ++ b_) :: Γ))) wd443 := H442
            refine sp_op [(21, .bool (decide (v66 < (xs33.length : Int))))] (ac (hE440 3 (by decide)) an) ?_
            refine r_pure (.bool (decide (v66 < (xs33.length : Int)))) rfl ?_
            exact r_nil (n_lp ⟨_, rfl, rfl, H442⟩)
          · intro η414 wd448 Δ449 hE445 hR446 H447
            have H447 : Hp w0 ((Δ449 ++ (Row K24 (.slice A30 xs33.length c32) xs33 :: Bx b60 24 [.int .i64 y43.Kind, .int .i64 y43.Amount] :: Row K24 (.slice A20 (((([] : List api_Item) ++ a_) ++ b_).length) c21) ((([] : List api_Item) ++ a_) ++ b_) :: Γ))) wd448 := H447
            refine sp_op [(5, .slice A30 xs33.length c32), (22, .bool (decide (v66 < (xs33.length : Int))))] (ac rfl (ac (hE445 4 (by decide)) an)) ?_
            refine r_pure (.slice A30 xs33.length c32) rfl ?_ (wn_t rfl rfl (by decide) rfl hb415)
            exact r_nil (n_lp ⟨_, rfl, rfl, H447⟩)
          · intro η414 wd453 Δ454 hE450 hR451 H452
            have H452 : Hp w0 ((Δ454 ++ (Row K24 (.slice A30 xs33.length c32) xs33 :: Bx b60 24 [.int .i64 y43.Kind, .int .i64 y43.Amount] :: Row K24 (.slice A20 (((([] : List api_Item) ++ a_) ++ b_).length) c21) ((([] : List api_Item) ++ a_) ++ b_) :: Γ))) wd453 := H452
            refine sp_op [(8, .int .i64 v66), (22, .bool (decide (v66 < (xs33.length : Int))))] (ac rfl (ac (hE450 4 (by decide)) an)) ?_
            refine r_pure (.int .i64 v66) rfl ?_ (wn_t rfl rfl (by decide) rfl hb415)
            exact r_nil (n_lp ⟨_, rfl, rfl, H452⟩)
          · intro η414 wd458 Δ459 hE455 hR456 H457
            have H457 : Hp w0 ((Δ459 ++ (Row K24 (.slice A30 xs33.length c32) xs33 :: Bx b60 24 [.int .i64 y43.Kind, .int .i64 y43.Amount] :: Row K24 (.slice A20 (((([] : List api_Item) ++ a_) ++ b_).length) c21) ((([] : List api_Item) ++ a_) ++ b_) :: Γ))) wd458 := H457
            refine sp_op [(22, .bool (decide (v66 < (xs33.length : Int)))), (23, .slice A30 xs33.length c32), (24, .int .i64 v66)] (ac (hE455 4 (by decide)) (ac (hE455 5 (by decide)) (ac (hE455 6 (by decide)) an))) ?_
            have hA463 := ((H457).tl.g0.rd).adO hj418
            refine r_ix IX25 rfl rfl hA463 h0416 h1417 ?_ (wn_t rfl rfl (by decide) rfl hb415)
            exact r_nil (n_lp ⟨_, rfl, rfl, H457⟩)
          · intro η414 wd467 Δ468 hE464 hR465 H466
            have H466 : Hp w0 ((Δ468 ++ (Row K24 (.slice A30 xs33.length c32) xs33 :: Bx b60 24 [.int .i64 y43.Kind, .int .i64 y43.Amount] :: Row K24 (.slice A20 (((([] : List api_Item) ++ a_) ++ b_).length) c21) ((([] : List api_Item) ++ a_) ++ b_) :: Γ))) wd467 := H466
            refine sp_op [(22, .bool (decide (v66 < (xs33.length : Int)))), (25, .pointer (some ((oA A30).add (Int.toNat v66 * 2))))] (ac (hE464 4 (by decide)) (ac (hE464 7 (by decide)) an)) ?_
            refine r_fa FA24_0 (((oA A30).add (Int.toNat v66 * 2)).add 0) rfl rfl ?_ (wn_t rfl rfl (by decide) rfl hb415)
            exact r_nil (n_lp ⟨_, rfl, rfl, H466⟩)
          · intro η414 wd472 Δ473 hE469 hR470 H471
            have H471 : Hp w0 ((Δ473 ++ (Row K24 (.slice A30 xs33.length c32) xs33 :: Bx b60 24 [.int .i64 y43.Kind, .int .i64 y43.Amount] :: Row K24 (.slice A20 (((([] : List api_Item) ++ a_) ++ b_).length) c21) ((([] : List api_Item) ++ a_) ++ b_) :: Γ))) wd472 := H471
            refine sp_op [(22, .bool (decide (v66 < (xs33.length : Int)))), (26, .pointer (some (((oA A30).add (Int.toNat v66 * 2)).add 0)))] (ac (hE469 4 (by decide)) (ac (hE469 8 (by decide)) an)) ?_
            have hA474 := ((H471).tl.g0.rd).adO hj418
            refine r_ld1 (.int .i64 ((rd xs33 v66).Kind)) LD3 rfl (((H471).tl.g0.rd).cA hA474 hj418 0 _ rfl) ?_ (wn_t rfl rfl (by decide) rfl hb415)
            exact r_nil (n_lp ⟨_, rfl, rfl, H471⟩)
          · intro η414 wd478 Δ479 hE475 hR476 H477
            have H477 : Hp w0 ((Δ479 ++ (Row K24 (.slice A30 xs33.length c32) xs33 :: Bx b60 24 [.int .i64 y43.Kind, .int .i64 y43.Amount] :: Row K24 (.slice A20 (((([] : List api_Item) ++ a_) ++ b_).length) c21) ((([] : List api_Item) ++ a_) ++ b_) :: Γ))) wd478 := H477
            refine sp_op [(7, .pointer (some ⟨b60, 0, none⟩)), (22, .bool (decide (v66 < (xs33.length : Int))))] (ac rfl (ac (hE475 4 (by decide)) an)) ?_
            refine r_fa FA24_0 ⟨b60, 0, none⟩ rfl rfl ?_ (wn_t rfl rfl (by decide) rfl hb415)
            exact r_nil (n_lp ⟨_, rfl, rfl, H477⟩)
          · intro η414 wd483 Δ484 hE480 hR481 H482
            have H482 : Hp w0 ((Δ484 ++ (Row K24 (.slice A30 xs33.length c32) xs33 :: Bx b60 24 [.int .i64 y43.Kind, .int .i64 y43.Amount] :: Row K24 (.slice A20 (((([] : List api_Item) ++ a_) ++ b_).length) c21) ((([] : List api_Item) ++ a_) ++ b_) :: Γ))) wd483 := H482
            refine sp_op [(22, .bool (decide (v66 < (xs33.length : Int)))), (28, .pointer (some ⟨b60, 0, none⟩))] (ac (hE480 4 (by decide)) (ac (hE480 10 (by decide)) an)) ?_
            refine r_ld1 (.int .i64 y43.Kind) LD3 rfl (((H482).tl.g1).cell _ rfl) ?_ (wn_t rfl rfl (by decide) rfl hb415)
            exact r_nil (n_lp ⟨_, rfl, rfl, H482⟩)
          · intro η414 wd488 Δ489 hE485 hR486 H487
            have H487 : Hp w0 ((Δ489 ++ (Row K24 (.slice A30 xs33.length c32) xs33 :: Bx b60 24 [.int .i64 y43.Kind, .int .i64 y43.Amount] :: Row K24 (.slice A20 (((([] : List api_Item) ++ a_) ++ b_).length) c21) ((([] : List api_Item) ++ a_) ++ b_) :: Γ))) wd488 := H487
            refine sp_op [(22, .bool (decide (v66 < (xs33.length : Int)))), (27, .int .i64 ((rd xs33 v66).Kind)), (29, .int .i64 y43.Kind)] (ac (hE485 4 (by decide)) (ac (hE485 9 (by decide)) (ac (hE485 11 (by decide)) an))) ?_
            refine r_pure (.bool (decide ((rd xs33 v66).Kind < y43.Kind))) rfl ?_ (wn_t rfl rfl (by decide) rfl hb415)
            exact r_nil (n_lp ⟨_, rfl, rfl, H487⟩)
          · intro η414 wd493 Δ494 hE490 hR491 H492
            have H492 : Hp w0 ((Δ494 ++ (Row K24 (.slice A30 xs33.length c32) xs33 :: Bx b60 24 [.int .i64 y43.Kind, .int .i64 y43.Amount] :: Row K24 (.slice A20 (((([] : List api_Item) ++ a_) ++ b_).length) c21) ((([] : List api_Item) ++ a_) ++ b_) :: Γ))) wd493 := H492
            refine sp_op [(22, .bool (decide (v66 < (xs33.length : Int)))), (30, .bool (decide ((rd xs33 v66).Kind < y43.Kind)))] (ac (hE490 4 (by decide)) (ac (hE490 12 (by decide)) an)) ?_
            refine r_pick_t (.bool (decide ((rd xs33 v66).Kind < y43.Kind))) hb415 rfl rfl ?_
            exact r_nil (n_lp ⟨_, rfl, rfl, H492⟩)
          · intro η414 wd496 hV497 H495
            have H498 : Hp w0 (Row K24 (.slice A30 xs33.length c32) xs33 :: Bx b60 24 [.int .i64 y43.Kind, .int .i64 y43.Amount] :: Row K24 (.slice A20 (((([] : List api_Item) ++ a_) ++ b_).length) c21) ((([] : List api_Item) ++ a_) ++ b_) :: Γ) wd496 := H495
            refine n_frame [(5, .slice A30 xs33.length c32), (7, .pointer (some ⟨b60, 0, none⟩)), (8, .int .i64 v66), (12, .slice A20 (((([] : List api_Item) ++ a_) ++ b_).length) c21), (13, .int .i64 (((([] : List api_Item) ++ a_) ++ b_).length : Int)), (14, .int .i64 i38), (23, .slice A30 xs33.length c32), (24, .int .i64 v66), (25, .pointer (some ((oA A30).add (Int.toNat v66 * 2)))), (26, .pointer (some (((oA A30).add (Int.toNat v66 * 2)).add 0))), (27, .int .i64 ((rd xs33 v66).Kind)), (28, .pointer (some ⟨b60, 0, none⟩)), (29, .int .i64 y43.Kind), (30, .bool (decide ((rd xs33 v66).Kind < y43.Kind))), (31, .bool (decide ((rd xs33 v66).Kind < y43.Kind)))] (ac rfl (ac rfl (ac rfl (ac rfl (ac rfl (ac rfl (ac (hV497 5 rfl) (ac (hV497 6 rfl) (ac (hV497 7 rfl) (ac (hV497 8 rfl) (ac (hV497 9 rfl) (ac (hV497 10 rfl) (ac (hV497 11 rfl) (ac (hV497 12 rfl) (ac (hV497 13 rfl) an))))))))))))))) ?_
            refine n_cut ⟨decide ((rd xs33 v66).Kind < y43.Kind), upk (ac rfl (ac rfl (ac rfl (ac rfl (ac rfl (ac rfl (ac rfl an))))))), H498.u2.u2.u2, hm⟩
        · refine Flow.run' [[], [], [1], [0, 1, 2], [0, 1, 2, 3], [0, 1, 2, 3, 4], [0, 1, 2, 3, 4], [0, 1, 2, 3, 4, 5, 6], [0, 1, 2, 3, 4, 5, 6, 7], [0, 1, 2, 3, 4, 5, 6, 7, 8], [0, 1, 2, 3, 4], [0, 1, 2, 3, 4, 10], [0, 1, 2, 3, 4, 5, 6, 7, 8, 9, 10, 11], [0, 1, 2, 3, 4, 5, 6, 7, 8, 9, 10, 11, 12]] [(18, 0), (19, 1), (20, 2), (21, 3), (22, 4), (23, 5), (24, 6), (25, 7), (26, 8), (27, 9), (28, 10), (29, 11), (30, 12), (31, 13)] [(fun η414 v => v = .int .i64 v66), (fun η414 v => v = .slice A30 xs33.length c32), (fun η414 v => v = .int .i64 (xs33.length : Int)), (fun η414 v => v = .bool (decide (v66 < (xs33.length : Int)))), (fun η414 v => v = .bool (decide (v66 < (xs33.length : Int)))), (fun η414 v => v = undef), (fun η414 v => v = undef), (fun η414 v => v = undef), (fun η414 v => v = undef), (fun η414 v => v = undef), (fun η414 v => v = undef), (fun η414 v => v = undef), (fun η414 v => v = undef), (fun η414 v => v = .bool false)] [] rfl (by kernel_rfl) (by kernel_rfl) H67 ⟨?_, ?_, ?_, ?_, ?_, ?_, ?_, ?_, ?_, ?_, ?_, ?_, ?_, ?_, trivial⟩ ?_
          · intro η414 wd502 Δ503 hE499 hR500 H501
            have H501 : Hp w0 ((Δ503 ++ (Row K24 (.slice A30 xs33.length c32) xs33 :: Bx b60 24 [.int .i64 y43.Kind, .int .i64 y43.Amount] :: Row K24 (.slice A20 (((([] : List api_Item) ++ a_) ++ b_).length) c21) ((([] : List api_Item) ++ a_) ++ b_) :: Γ))) wd502 := H501
            refine sp_op [(8, .int .i64 v66)] (ac rfl an) ?_
            refine r_pure (.int .i64 v66) rfl ?_
            exact r_nil (n_lp ⟨_, rfl, rfl, H501⟩)
          · intro η414 wd507 Δ508 hE504 hR505 H506
            have H506 : Hp w0 ((Δ508 ++ (Row K24 (.slice A30 xs33.length c32) xs33 :: Bx b60 24 [.int .i64 y43.Kind, .int .i64 y43.Amount] :: Row K24 (.slice A20 (((([] : List api_Item) ++ a_) ++ b_).length) c21) ((([] : List api_Item) ++ a_) ++ b_) :: Γ))) wd507 := H506
            refine sp_op [(5, .slice A30 xs33.length c32)] (ac rfl an) ?_
            refine r_pure (.slice A30 xs33.length c32) rfl ?_
            exact r_nil (n_lp ⟨_, rfl, rfl, H506⟩)
          · intro η414 wd512 Δ513 hE509 hR510 H511
            have H511 : Hp w0 ((Δ513 ++ (Row K24 (.slice A30 xs33.length c32) xs33 :: Bx b60 24 [.int .i64 y43.Kind, .int .i64 y43.Amount] :: Row K24 (.slice A20 (((([] : List api_Item) ++ a_) ++ b_).length) c21) ((([] : List api_Item) ++ a_) ++ b_) :: Γ))) wd512 := H511
            refine sp_op [(19, .slice A30 xs33.length c32)] (ac (hE509 1 (by decide)) an) ?_
            refine r_len Try.underlying25 rfl ?_
            exact r_nil (n_lp ⟨_, rfl, rfl, H511⟩)
          · intro η414 wd517 Δ518 hE514 hR515 H516
            have H516 : Hp w0 ((Δ518 ++ (Row K24 (.slice A30 xs33.length c32) xs33 :: Bx b60 24 [.int .i64 y43.Kind, .int .i64 y43.Amount] :: Row K24 (.slice A20 (((([] : List api_Item) ++ a_) ++ b_).length) c21) ((([] : List api_Item) ++ a_) ++ b_) :: Γ))) wd517 := H516
            refine sp_op [(18, .int .i64 v66), (20, .int .i64 (xs33.length : Int))] (ac (hE514 0 (by decide)) (ac (hE514 2 (by decide)) an)) ?_
            refine r_pure (.bool (decide (v66 < (xs33.length : Int)))) rfl ?_
            exact r_nil (n_lp ⟨_, rfl, rfl, H516⟩)
          · intro η414 wd522 Δ523 hE519 hR520 H521
            have H521 : Hp w0 ((Δ523 ++ (Row K24 (.slice A30 xs33.length c32) xs33 :: Bx b60 24 [.int .i64 y43.Kind, .int .i64 y43.Amount] :: Row K24 (.slice A20 (((([] : List api_Item) ++ a_) ++ b_).length) c21) ((([] : List api_Item) ++ a_) ++ b_) :: Γ))) wd522 := H521
            refine sp_op [(21, .bool (decide (v66 < (xs33.length : Int))))] (ac (hE519 3 (by decide)) an) ?_
            refine r_pure (.bool (decide (v66 < (xs33.length : Int)))) rfl ?_
            exact r_nil (n_lp ⟨_, rfl, rfl, H521⟩)
          · intro η414 wd527 Δ528 hE524 hR525 H526
            have H526 : Hp w0 ((Δ528 ++ (Row K24 (.slice A30 xs33.length c32) xs33 :: Bx b60 24 [.int .i64 y43.Kind, .int .i64 y43.Amount] :: Row K24 (.slice A20 (((([] : List api_Item) ++ a_) ++ b_).length) c21) ((([] : List api_Item) ++ a_) ++ b_) :: Γ))) wd527 := H526
            refine sp_op [(5, .slice A30 xs33.length c32), (22, .bool (decide (v66 < (xs33.length : Int))))] (ac rfl (ac (hE524 4 (by decide)) an)) ?_
            refine r_not (wn_f rfl rfl (by decide) rfl hb415) ?_
            exact r_nil (n_lp ⟨_, rfl, rfl, H526⟩)
          · intro η414 wd532 Δ533 hE529 hR530 H531
            have H531 : Hp w0 ((Δ533 ++ (Row K24 (.slice A30 xs33.length c32) xs33 :: Bx b60 24 [.int .i64 y43.Kind, .int .i64 y43.Amount] :: Row K24 (.slice A20 (((([] : List api_Item) ++ a_) ++ b_).length) c21) ((([] : List api_Item) ++ a_) ++ b_) :: Γ))) wd532 := H531
            refine sp_op [(8, .int .i64 v66), (22, .bool (decide (v66 < (xs33.length : Int))))] (ac rfl (ac (hE529 4 (by decide)) an)) ?_
            refine r_not (wn_f rfl rfl (by decide) rfl hb415) ?_
            exact r_nil (n_lp ⟨_, rfl, rfl, H531⟩)
          · intro η414 wd537 Δ538 hE534 hR535 H536
            have H536 : Hp w0 ((Δ538 ++ (Row K24 (.slice A30 xs33.length c32) xs33 :: Bx b60 24 [.int .i64 y43.Kind, .int .i64 y43.Amount] :: Row K24 (.slice A20 (((([] : List api_Item) ++ a_) ++ b_).length) c21) ((([] : List api_Item) ++ a_) ++ b_) :: Γ))) wd537 := H536
            refine sp_op [(22, .bool (decide (v66 < (xs33.length : Int)))), (23, undef), (24, undef)] (ac (hE534 4 (by decide)) (ac (hE534 5 (by decide)) (ac (hE534 6 (by decide)) an))) ?_
            refine r_not (wn_f rfl rfl (by decide) rfl hb415) ?_
            exact r_nil (n_lp ⟨_, rfl, rfl, H536⟩)
          · intro η414 wd542 Δ543 hE539 hR540 H541
            have H541 : Hp w0 ((Δ543 ++ (Row K24 (.slice A30 xs33.length c32) xs33 :: Bx b60 24 [.int .i64 y43.Kind, .int .i64 y43.Amount] :: Row K24 (.slice A20 (((([] : List api_Item) ++ a_) ++ b_).length) c21) ((([] : List api_Item) ++ a_) ++ b_) :: Γ))) wd542 := H541
            refine sp_op [(22, .bool (decide (v66 < (xs33.length : Int)))), (25, undef)] (ac (hE539 4 (by decide)) (ac (hE539 7 (by decide)) an)) ?_
            refine r_not (wn_f rfl rfl (by decide) rfl hb415) ?_
            exact r_nil (n_lp ⟨_, rfl, rfl, H541⟩)
          · intro η414 wd547 Δ548 hE544 hR545 H546
            have H546 : Hp w0 ((Δ548 ++ (Row K24 (.slice A30 xs33.length c32) xs33 :: Bx b60 24 [.int .i64 y43.Kind, .int .i64 y43.Amount] :: Row K24 (.slice A20 (((([] : List api_Item) ++ a_) ++ b_).length) c21) ((([] : List api_Item) ++ a_) ++ b_) :: Γ))) wd547 := H546
            refine sp_op [(22, .bool (decide (v66 < (xs33.length : Int)))), (26, undef)] (ac (hE544 4 (by decide)) (ac (hE544 8 (by decide)) an)) ?_
            refine r_not (wn_f rfl rfl (by decide) rfl hb415) ?_
            exact r_nil (n_lp ⟨_, rfl, rfl, H546⟩)
          · intro η414 wd552 Δ553 hE549 hR550 H551
            have H551 : Hp w0 ((Δ553 ++ (Row K24 (.slice A30 xs33.length c32) xs33 :: Bx b60 24 [.int .i64 y43.Kind, .int .i64 y43.Amount] :: Row K24 (.slice A20 (((([] : List api_Item) ++ a_) ++ b_).length) c21) ((([] : List api_Item) ++ a_) ++ b_) :: Γ))) wd552 := H551
            refine sp_op [(7, .pointer (some ⟨b60, 0, none⟩)), (22, .bool (decide (v66 < (xs33.length : Int))))] (ac rfl (ac (hE549 4 (by decide)) an)) ?_
            refine r_not (wn_f rfl rfl (by decide) rfl hb415) ?_
            exact r_nil (n_lp ⟨_, rfl, rfl, H551⟩)
          · intro η414 wd557 Δ558 hE554 hR555 H556
            have H556 : Hp w0 ((Δ558 ++ (Row K24 (.slice A30 xs33.length c32) xs33 :: Bx b60 24 [.int .i64 y43.Kind, .int .i64 y43.Amount] :: Row K24 (.slice A20 (((([] : List api_Item) ++ a_) ++ b_).length) c21) ((([] : List api_Item) ++ a_) ++ b_) :: Γ))) wd557 := H556
            refine sp_op [(22, .bool (decide (v66 < (xs33.length : Int)))), (28, undef)] (ac (hE554 4 (by decide)) (ac (hE554 10 (by decide)) an)) ?_
            refine r_not (wn_f rfl rfl (by decide) rfl hb415) ?_
            exact r_nil (n_lp ⟨_, rfl, rfl, H556⟩)
          · intro η414 wd562 Δ563 hE559 hR560 H561
            have H561 : Hp w0 ((Δ563 ++ (Row K24 (.slice A30 xs33.length c32) xs33 :: Bx b60 24 [.int .i64 y43.Kind, .int .i64 y43.Amount] :: Row K24 (.slice A20 (((([] : List api_Item) ++ a_) ++ b_).length) c21) ((([] : List api_Item) ++ a_) ++ b_) :: Γ))) wd562 := H561
            refine sp_op [(22, .bool (decide (v66 < (xs33.length : Int)))), (27, undef), (29, undef)] (ac (hE559 4 (by decide)) (ac (hE559 9 (by decide)) (ac (hE559 11 (by decide)) an))) ?_
            refine r_not (wn_f rfl rfl (by decide) rfl hb415) ?_
            exact r_nil (n_lp ⟨_, rfl, rfl, H561⟩)
          · intro η414 wd567 Δ568 hE564 hR565 H566
            have H566 : Hp w0 ((Δ568 ++ (Row K24 (.slice A30 xs33.length c32) xs33 :: Bx b60 24 [.int .i64 y43.Kind, .int .i64 y43.Amount] :: Row K24 (.slice A20 (((([] : List api_Item) ++ a_) ++ b_).length) c21) ((([] : List api_Item) ++ a_) ++ b_) :: Γ))) wd567 := H566
            refine sp_op [(22, .bool (decide (v66 < (xs33.length : Int)))), (30, undef)] (ac (hE564 4 (by decide)) (ac (hE564 12 (by decide)) an)) ?_
            refine r_pick_f (.bool false) hb415 rfl rfl ?_
            exact r_nil (n_lp ⟨_, rfl, rfl, H566⟩)
          · intro η414 wd570 hV571 H569
            have H572 : Hp w0 (Row K24 (.slice A30 xs33.length c32) xs33 :: Bx b60 24 [.int .i64 y43.Kind, .int .i64 y43.Amount] :: Row K24 (.slice A20 (((([] : List api_Item) ++ a_) ++ b_).length) c21) ((([] : List api_Item) ++ a_) ++ b_) :: Γ) wd570 := H569
            refine n_frame [(5, .slice A30 xs33.length c32), (7, .pointer (some ⟨b60, 0, none⟩)), (8, .int .i64 v66), (12, .slice A20 (((([] : List api_Item) ++ a_) ++ b_).length) c21), (13, .int .i64 (((([] : List api_Item) ++ a_) ++ b_).length : Int)), (14, .int .i64 i38), (23, undef), (24, undef), (25, undef), (26, undef), (27, undef), (28, undef), (29, undef), (30, undef), (31, .bool false)] (ac rfl (ac rfl (ac rfl (ac rfl (ac rfl (ac rfl (ac (hV571 5 rfl) (ac (hV571 6 rfl) (ac (hV571 7 rfl) (ac (hV571 8 rfl) (ac (hV571 9 rfl) (ac (hV571 10 rfl) (ac (hV571 11 rfl) (ac (hV571 12 rfl) (ac (hV571 13 rfl) an))))))))))))))) ?_
            refine n_cut ⟨false, upk (ac rfl (ac rfl (ac rfl (ac rfl (ac rfl (ac rfl (ac rfl an))))))), H572.u2.u2.u2, hm⟩
      · rintro ρ w ⟨q79, ⟨base, rfl⟩, H80, hm⟩
        unfold scutageref19_AddItems.j2 at hm
        rcases ite_some hm with ⟨hb81, hm⟩ | ⟨hb81, hm⟩
        · refine st_condt hb81 rfl ?_
          refine st_skip ?_
          refine n_sq ?_
          refine st_block ?_
          refine st_region ?_
          refine r_pure (.int .i64 v66) rfl ?_
          refine r_pure (.int .i64 (w64 (v66 + 1))) rfl ?_
          refine r_pure (.int .i64 (w64 (v66 + 1))) rfl ?_
          refine r_nil ?_
          refine n_bl ?_
          refine n_round (IH78 _ _ _ ⟨w64 (v66 + 1), rfl, upk (ac rfl (ac rfl (ac rfl (ac rfl (ac rfl (ac rfl an)))))), H80.u2.u2.u2⟩ hm)
        · refine st_condf hb81 rfl ?_
          have hq_ := Option.some.inj hm
          refine st_exit rfl ?_
          subst hq_
          refine n_sq ?_
          refine st_seq ?_
          refine st_cut (fun ρ w => ∃ q82 : Bool, (∃ base, ρ = updl base [(5, .slice A30 xs33.length c32), (7, .pointer (some ⟨b60, 0, none⟩)), (8, .int .i64 v66), (12, .slice A20 (((([] : List api_Item) ++ a_) ++ b_).length) c21), (13, .int .i64 (((([] : List api_Item) ++ a_) ++ b_).length : Int)), (14, .int .i64 i38), (47, .bool q82)]) ∧ Hp w0 (Row K24 (.slice A30 xs33.length c32) xs33 :: Bx b60 24 [.int .i64 y43.Kind, .int .i64 y43.Amount] :: Row K24 (.slice A20 (((([] : List api_Item) ++ a_) ++ b_).length) c21) ((([] : List api_Item) ++ a_) ++ b_) :: Γ) w ∧ scutageref19_AddItems.j3 v66 xs33 (scutageref19_AddItems.l1 ys42) i38 y43 q82 = some tl36) ?_ ?_
          · rcases ite_some hm68 with ⟨hb256, hm⟩ | ⟨hb256, hm⟩
            · obtain ⟨⟨h0257, h1258⟩, hm⟩ := gd_some hm
              have hj259 := rd_get h0257 h1258
              refine Flow.run' [[], [], [1], [0, 1, 2], [0, 1, 2, 3], [0, 1, 2, 3, 4], [0, 1, 2, 3, 4], [0, 1, 2, 3, 4, 5, 6], [0, 1, 2, 3, 4, 5, 6, 7], [0, 1, 2, 3, 4, 5, 6, 7, 8], [0, 1, 2, 3, 4], [0, 1, 2, 3, 4, 10], [0, 1, 2, 3, 4, 5, 6, 7, 8, 9, 10, 11], [0, 1, 2, 3, 4, 5, 6, 7, 8, 9, 10, 11, 12]] [(34, 0), (35, 1), (36, 2), (37, 3), (38, 4), (39, 5), (40, 6), (41, 7), (42, 8), (43, 9), (44, 10), (45, 11), (46, 12), (47, 13)] [(fun η255 v => v = .int .i64 v66), (fun η255 v => v = .slice A30 xs33.length c32), (fun η255 v => v = .int .i64 (xs33.length : Int)), (fun η255 v => v = .bool (decide (v66 < (xs33.length : Int)))), (fun η255 v => v = .bool (decide (v66 < (xs33.length : Int)))), (fun η255 v => v = .slice A30 xs33.length c32), (fun η255 v => v = .int .i64 v66), (fun η255 v => v = .pointer (some ((oA A30).add (Int.toNat v66 * 2)))), (fun η255 v => v = .pointer (some (((oA A30).add (Int.toNat v66 * 2)).add 0))), (fun η255 v => v = .int .i64 ((rd xs33 v66).Kind)), (fun η255 v => v = .pointer (some ⟨b60, 0, none⟩)), (fun η255 v => v = .int .i64 y43.Kind), (fun η255 v => v = .bool ((rd xs33 v66).Kind == y43.Kind)), (fun η255 v => v = .bool ((rd xs33 v66).Kind == y43.Kind))] [] rfl (by kernel_rfl) (by kernel_rfl) H80 ⟨?_, ?_, ?_, ?_, ?_, ?_, ?_, ?_, ?_, ?_, ?_, ?_, ?_, ?_, trivial⟩ ?_
              · intro η255 wd264 Δ265 hE261 hR262 H263
                have H263 : Hp w0 ((Δ265 ++ (Row K24 (.slice A30 xs33.length c32) xs33 :: Bx b60 24 [.int .i64 y43.Kind, .int .i64 y43.Amount] :: Row K24 (.slice A20 (((([] : List api_Item) ++ a_) ++ b_).length) c21) ((([] : List api_Item) ++ a_) ++ b_) :: Γ))) wd264 := H263
                refine sp_op [(8, .int .i64 v66)] (ac rfl an) ?_
                refine r_pure (.int .i64 v66) rfl ?_
                exact r_nil (n_lp ⟨_, rfl, rfl, H263⟩)
              · intro η255 wd269 Δ270 hE266 hR267 H268
                have H268 : Hp w0 ((Δ270 ++ (Row K24 (.slice A30 xs33.length c32) xs33 :: Bx b60 24 [.int .i64 y43.Kind, .int .i64 y43.Amount] :: Row K24 (.slice A20 (((([] : List api_Item) ++ a_) ++ b_).length) c21) ((([] : List api_Item) ++ a_) ++ b_) :: Γ))) wd269 := H268
                refine sp_op [(5, .slice A30 xs33.length c32)] (ac rfl an) ?_
                refine r_pure (.slice A30 xs33.length c32) rfl ?_
                exact r_nil (n_lp ⟨_, rfl, rfl, H268⟩)
              · intro η255 wd274 Δ275 hE271 hR272 H273
                have H273 : Hp w0 ((Δ275 ++ (Row K24 (.slice A30 xs33.length c32) xs33 :: Bx b60 24 [.int .i64 y43.Kind, .int .i64 y43.Amount] :: Row K24 (.slice A20 (((([] : List api_Item) ++ a_) ++ b_).length) c21) ((([] : List api_Item) ++ a_) ++ b_) :: Γ))) wd274 := H273
                refine sp_op [(35, .slice A30 xs33.length c32)] (ac (hE271 1 (by decide)) an) ?_
                refine r_len Try.underlying25 rfl ?_
                exact r_nil (n_lp ⟨_, rfl, rfl, H273⟩)
              · intro η255 wd279 Δ280 hE276 hR277 H278
                have H278 : Hp w0 ((Δ280 ++ (Row K24 (.slice A30 xs33.length c32) xs33 :: Bx b60 24 [.int .i64 y43.Kind, .int .i64 y43.Amount] :: Row K24 (.slice A20 (((([] : List api_Item) ++ a_) ++ b_).length) c21) ((([] : List api_Item) ++ a_) ++ b_) :: Γ))) wd279 := H278
                refine sp_op [(34, .int .i64 v66), (36, .int .i64 (xs33.length : Int))] (ac (hE276 0 (by decide)) (ac (hE276 2 (by decide)) an)) ?_
                refine r_pure (.bool (decide (v66 < (xs33.length : Int)))) rfl ?_
                exact r_nil (n_lp ⟨_, rfl, rfl, H278⟩)
              · intro η255 wd284 Δ285 hE281 hR282 H283
                have H283 : Hp w0 ((Δ285 ++ (Row K24 (.slice A30 xs33.length c32) xs33 :: Bx b60 24 [.int .i64 y43.Kind, .int .i64 y43.Amount] :: Row K24 (.slice A20 (((([] : List api_Item) ++ a_) ++ b_).length) c21) ((([] : List api_Item) ++ a_) ++ b_) :: Γ))) wd284 := H283
                refine sp_op [(37, .bool (decide (v66 < (xs33.length : Int))))] (ac (hE281 3 (by decide)) an) ?_
                refine r_pure (.bool (decide (v66 < (xs33.length : Int)))) rfl ?_
                exact r_nil (n_lp ⟨_, rfl, rfl, H283⟩)
              · intro η255 wd289 Δ290 hE286 hR287 H288
                have H288 : Hp w0 ((Δ290 ++ (Row K24 (.slice A30 xs33.length c32) xs33 :: Bx b60 24 [.int .i64 y43.Kind, .int .i64 y43.Amount] :: Row K24 (.slice A20 (((([] : List api_Item) ++ a_) ++ b_).length) c21) ((([] : List api_Item) ++ a_) ++ b_) :: Γ))) wd289 := H288
                refine sp_op [(5, .slice A30 xs33.length c32), (38, .bool (decide (v66 < (xs33.length : Int))))] (ac rfl (ac (hE286 4 (by decide)) an)) ?_
                refine r_pure (.slice A30 xs33.length c32) rfl ?_ (wn_t rfl rfl (by decide) rfl hb256)
                exact r_nil (n_lp ⟨_, rfl, rfl, H288⟩)
              · intro η255 wd294 Δ295 hE291 hR292 H293
                have H293 : Hp w0 ((Δ295 ++ (Row K24 (.slice A30 xs33.length c32) xs33 :: Bx b60 24 [.int .i64 y43.Kind, .int .i64 y43.Amount] :: Row K24 (.slice A20 (((([] : List api_Item) ++ a_) ++ b_).length) c21) ((([] : List api_Item) ++ a_) ++ b_) :: Γ))) wd294 := H293
                refine sp_op [(8, .int .i64 v66), (38, .bool (decide (v66 < (xs33.length : Int))))] (ac rfl (ac (hE291 4 (by decide)) an)) ?_
                refine r_pure (.int .i64 v66) rfl ?_ (wn_t rfl rfl (by decide) rfl hb256)
                exact r_nil (n_lp ⟨_, rfl, rfl, H293⟩)
              · intro η255 wd299 Δ300 hE296 hR297 H298
                have H298 : Hp w0 ((Δ300 ++ (Row K24 (.slice A30 xs33.length c32) xs33 :: Bx b60 24 [.int .i64 y43.Kind, .int .i64 y43.Amount] :: Row K24 (.slice A20 (((([] : List api_Item) ++ a_) ++ b_).length) c21) ((([] : List api_Item) ++ a_) ++ b_) :: Γ))) wd299 := H298
                refine sp_op [(38, .bool (decide (v66 < (xs33.length : Int)))), (39, .slice A30 xs33.length c32), (40, .int .i64 v66)] (ac (hE296 4 (by decide)) (ac (hE296 5 (by decide)) (ac (hE296 6 (by decide)) an))) ?_
                have hA304 := ((H298).tl.g0.rd).adO hj259
                refine r_ix IX25 rfl rfl hA304 h0257 h1258 ?_ (wn_t rfl rfl (by decide) rfl hb256)
                exact r_nil (n_lp ⟨_, rfl, rfl, H298⟩)
              · intro η255 wd308 Δ309 hE305 hR306 H307
                have H307 : Hp w0 ((Δ309 ++ (Row K24 (.slice A30 xs33.length c32) xs33 :: Bx b60 24 [.int .i64 y43.Kind, .int .i64 y43.Amount] :: Row K24 (.slice A20 (((([] : List api_Item) ++ a_) ++ b_).length) c21) ((([] : List api_Item) ++ a_) ++ b_) :: Γ))) wd308 := H307
                refine sp_op [(38, .bool (decide (v66 < (xs33.length : Int)))), (41, .pointer (some ((oA A30).add (Int.toNat v66 * 2))))] (ac (hE305 4 (by decide)) (ac (hE305 7 (by decide)) an)) ?_
                refine r_fa FA24_0 (((oA A30).add (Int.toNat v66 * 2)).add 0) rfl rfl ?_ (wn_t rfl rfl (by decide) rfl hb256)
                exact r_nil (n_lp ⟨_, rfl, rfl, H307⟩)
              · intro η255 wd313 Δ314 hE310 hR311 H312
                have H312 : Hp w0 ((Δ314 ++ (Row K24 (.slice A30 xs33.length c32) xs33 :: Bx b60 24 [.int .i64 y43.Kind, .int .i64 y43.Amount] :: Row K24 (.slice A20 (((([] : List api_Item) ++ a_) ++ b_).length) c21) ((([] : List api_Item) ++ a_) ++ b_) :: Γ))) wd313 := H312
                refine sp_op [(38, .bool (decide (v66 < (xs33.length : Int)))), (42, .pointer (some (((oA A30).add (Int.toNat v66 * 2)).add 0)))] (ac (hE310 4 (by decide)) (ac (hE310 8 (by decide)) an)) ?_
                have hA315 := ((H312).tl.g0.rd).adO hj259
                refine r_ld1 (.int .i64 ((rd xs33 v66).Kind)) LD3 rfl (((H312).tl.g0.rd).cA hA315 hj259 0 _ rfl) ?_ (wn_t rfl rfl (by decide) rfl hb256)
                exact r_nil (n_lp ⟨_, rfl, rfl, H312⟩)
              · intro η255 wd319 Δ320 hE316 hR317 H318
                have H318 : Hp w0 ((Δ320 ++ (Row K24 (.slice A30 xs33.length c32) xs33 :: Bx b60 24 [.int .i64 y43.Kind, .int .i64 y43.Amount] :: Row K24 (.slice A20 (((([] : List api_Item) ++ a_) ++ b_).length) c21) ((([] : List api_Item) ++ a_) ++ b_) :: Γ))) wd319 := H318
                refine sp_op [(7, .pointer (some ⟨b60, 0, none⟩)), (38, .bool (decide (v66 < (xs33.length : Int))))] (ac rfl (ac (hE316 4 (by decide)) an)) ?_
                refine r_fa FA24_0 ⟨b60, 0, none⟩ rfl rfl ?_ (wn_t rfl rfl (by decide) rfl hb256)
                exact r_nil (n_lp ⟨_, rfl, rfl, H318⟩)
              · intro η255 wd324 Δ325 hE321 hR322 H323
                have H323 : Hp w0 ((Δ325 ++ (Row K24 (.slice A30 xs33.length c32) xs33 :: Bx b60 24 [.int .i64 y43.Kind, .int .i64 y43.Amount] :: Row K24 (.slice A20 (((([] : List api_Item) ++ a_) ++ b_).length) c21) ((([] : List api_Item) ++ a_) ++ b_) :: Γ))) wd324 := H323
                refine sp_op [(38, .bool (decide (v66 < (xs33.length : Int)))), (44, .pointer (some ⟨b60, 0, none⟩))] (ac (hE321 4 (by decide)) (ac (hE321 10 (by decide)) an)) ?_
                refine r_ld1 (.int .i64 y43.Kind) LD3 rfl (((H323).tl.g1).cell _ rfl) ?_ (wn_t rfl rfl (by decide) rfl hb256)
                exact r_nil (n_lp ⟨_, rfl, rfl, H323⟩)
              · intro η255 wd329 Δ330 hE326 hR327 H328
                have H328 : Hp w0 ((Δ330 ++ (Row K24 (.slice A30 xs33.length c32) xs33 :: Bx b60 24 [.int .i64 y43.Kind, .int .i64 y43.Amount] :: Row K24 (.slice A20 (((([] : List api_Item) ++ a_) ++ b_).length) c21) ((([] : List api_Item) ++ a_) ++ b_) :: Γ))) wd329 := H328
                refine sp_op [(38, .bool (decide (v66 < (xs33.length : Int)))), (43, .int .i64 ((rd xs33 v66).Kind)), (45, .int .i64 y43.Kind)] (ac (hE326 4 (by decide)) (ac (hE326 9 (by decide)) (ac (hE326 11 (by decide)) an))) ?_
                refine r_pure (.bool ((rd xs33 v66).Kind == y43.Kind)) rfl ?_ (wn_t rfl rfl (by decide) rfl hb256)
                exact r_nil (n_lp ⟨_, rfl, rfl, H328⟩)
              · intro η255 wd334 Δ335 hE331 hR332 H333
                have H333 : Hp w0 ((Δ335 ++ (Row K24 (.slice A30 xs33.length c32) xs33 :: Bx b60 24 [.int .i64 y43.Kind, .int .i64 y43.Amount] :: Row K24 (.slice A20 (((([] : List api_Item) ++ a_) ++ b_).length) c21) ((([] : List api_Item) ++ a_) ++ b_) :: Γ))) wd334 := H333
                refine sp_op [(38, .bool (decide (v66 < (xs33.length : Int)))), (46, .bool ((rd xs33 v66).Kind == y43.Kind))] (ac (hE331 4 (by decide)) (ac (hE331 12 (by decide)) an)) ?_
                refine r_pick_t (.bool ((rd xs33 v66).Kind == y43.Kind)) hb256 rfl rfl ?_
                exact r_nil (n_lp ⟨_, rfl, rfl, H333⟩)
              · intro η255 wd337 hV338 H336
                have H339 : Hp w0 (Row K24 (.slice A30 xs33.length c32) xs33 :: Bx b60 24 [.int .i64 y43.Kind, .int .i64 y43.Amount] :: Row K24 (.slice A20 (((([] : List api_Item) ++ a_) ++ b_).length) c21) ((([] : List api_Item) ++ a_) ++ b_) :: Γ) wd337 := H336
                refine n_frame [(5, .slice A30 xs33.length c32), (7, .pointer (some ⟨b60, 0, none⟩)), (8, .int .i64 v66), (12, .slice A20 (((([] : List api_Item) ++ a_) ++ b_).length) c21), (13, .int .i64 (((([] : List api_Item) ++ a_) ++ b_).length : Int)), (14, .int .i64 i38), (39, .slice A30 xs33.length c32), (40, .int .i64 v66), (41, .pointer (some ((oA A30).add (Int.toNat v66 * 2)))), (42, .pointer (some (((oA A30).add (Int.toNat v66 * 2)).add 0))), (43, .int .i64 ((rd xs33 v66).Kind)), (44, .pointer (some ⟨b60, 0, none⟩)), (45, .int .i64 y43.Kind), (46, .bool ((rd xs33 v66).Kind == y43.Kind)), (47, .bool ((rd xs33 v66).Kind == y43.Kind))] (ac rfl (ac rfl (ac rfl (ac rfl (ac rfl (ac rfl (ac (hV338 5 rfl) (ac (hV338 6 rfl) (ac (hV338 7 rfl) (ac (hV338 8 rfl) (ac (hV338 9 rfl) (ac (hV338 10 rfl) (ac (hV338 11 rfl) (ac (hV338 12 rfl) (ac (hV338 13 rfl) an))))))))))))))) ?_
                refine n_cut ⟨(rd xs33 v66).Kind == y43.Kind, upk (ac rfl (ac rfl (ac rfl (ac rfl (ac rfl (ac rfl (ac rfl an))))))), H339.u2.u2.u2, hm⟩
            · refine Flow.run' [[], [], [1], [0, 1, 2], [0, 1, 2, 3], [0, 1, 2, 3, 4], [0, 1, 2, 3, 4], [0, 1, 2, 3, 4, 5, 6], [0, 1, 2, 3, 4, 5, 6, 7], [0, 1, 2, 3, 4, 5, 6, 7, 8], [0, 1, 2, 3, 4], [0, 1, 2, 3, 4, 10], [0, 1, 2, 3, 4, 5, 6, 7, 8, 9, 10, 11], [0, 1, 2, 3, 4, 5, 6, 7, 8, 9, 10, 11, 12]] [(34, 0), (35, 1), (36, 2), (37, 3), (38, 4), (39, 5), (40, 6), (41, 7), (42, 8), (43, 9), (44, 10), (45, 11), (46, 12), (47, 13)] [(fun η255 v => v = .int .i64 v66), (fun η255 v => v = .slice A30 xs33.length c32), (fun η255 v => v = .int .i64 (xs33.length : Int)), (fun η255 v => v = .bool (decide (v66 < (xs33.length : Int)))), (fun η255 v => v = .bool (decide (v66 < (xs33.length : Int)))), (fun η255 v => v = undef), (fun η255 v => v = undef), (fun η255 v => v = undef), (fun η255 v => v = undef), (fun η255 v => v = undef), (fun η255 v => v = undef), (fun η255 v => v = undef), (fun η255 v => v = undef), (fun η255 v => v = .bool false)] [] rfl (by kernel_rfl) (by kernel_rfl) H80 ⟨?_, ?_, ?_, ?_, ?_, ?_, ?_, ?_, ?_, ?_, ?_, ?_, ?_, ?_, trivial⟩ ?_
              · intro η255 wd343 Δ344 hE340 hR341 H342
                have H342 : Hp w0 ((Δ344 ++ (Row K24 (.slice A30 xs33.length c32) xs33 :: Bx b60 24 [.int .i64 y43.Kind, .int .i64 y43.Amount] :: Row K24 (.slice A20 (((([] : List api_Item) ++ a_) ++ b_).length) c21) ((([] : List api_Item) ++ a_) ++ b_) :: Γ))) wd343 := H342
                refine sp_op [(8, .int .i64 v66)] (ac rfl an) ?_
                refine r_pure (.int .i64 v66) rfl ?_
                exact r_nil (n_lp ⟨_, rfl, rfl, H342⟩)
              · intro η255 wd348 Δ349 hE345 hR346 H347
                have H347 : Hp w0 ((Δ349 ++ (Row K24 (.slice A30 xs33.length c32) xs33 :: Bx b60 24 [.int .i64 y43.Kind, .int .i64 y43.Amount] :: Row K24 (.slice A20 (((([] : List api_Item) ++ a_) ++ b_).length) c21) ((([] : List api_Item) ++ a_) ++ b_) :: Γ))) wd348 := H347
                refine sp_op [(5, .slice A30 xs33.length c32)] (ac rfl an) ?_
                refine r_pure (.slice A30 xs33.length c32) rfl ?_
                exact r_nil (n_lp ⟨_, rfl, rfl, H347⟩)
              · intro η255 wd353 Δ354 hE350 hR351 H352
                have H352 : Hp w0 ((Δ354 ++ (Row K24 (.slice A30 xs33.length c32) xs33 :: Bx b60 24 [.int .i64 y43.Kind, .int .i64 y43.Amount] :: Row K24 (.slice A20 (((([] : List api_Item) ++ a_) ++ b_).length) c21) ((([] : List api_Item) ++ a_) ++ b_) :: Γ))) wd353 := H352
                refine sp_op [(35, .slice A30 xs33.length c32)] (ac (hE350 1 (by decide)) an) ?_
                refine r_len Try.underlying25 rfl ?_
                exact r_nil (n_lp ⟨_, rfl, rfl, H352⟩)
              · intro η255 wd358 Δ359 hE355 hR356 H357
                have H357 : Hp w0 ((Δ359 ++ (Row K24 (.slice A30 xs33.length c32) xs33 :: Bx b60 24 [.int .i64 y43.Kind, .int .i64 y43.Amount] :: Row K24 (.slice A20 (((([] : List api_Item) ++ a_) ++ b_).length) c21) ((([] : List api_Item) ++ a_) ++ b_) :: Γ))) wd358 := H357
                refine sp_op [(34, .int .i64 v66), (36, .int .i64 (xs33.length : Int))] (ac (hE355 0 (by decide)) (ac (hE355 2 (by decide)) an)) ?_
                refine r_pure (.bool (decide (v66 < (xs33.length : Int)))) rfl ?_
                exact r_nil (n_lp ⟨_, rfl, rfl, H357⟩)
              · intro η255 wd363 Δ364 hE360 hR361 H362
                have H362 : Hp w0 ((Δ364 ++ (Row K24 (.slice A30 xs33.length c32) xs33 :: Bx b60 24 [.int .i64 y43.Kind, .int .i64 y43.Amount] :: Row K24 (.slice A20 (((([] : List api_Item) ++ a_) ++ b_).length) c21) ((([] : List api_Item) ++ a_) ++ b_) :: Γ))) wd363 := H362
                refine sp_op [(37, .bool (decide (v66 < (xs33.length : Int))))] (ac (hE360 3 (by decide)) an) ?_
                refine r_pure (.bool (decide (v66 < (xs33.length : Int)))) rfl ?_
                exact r_nil (n_lp ⟨_, rfl, rfl, H362⟩)
              · intro η255 wd368 Δ369 hE365 hR366 H367
                have H367 : Hp w0 ((Δ369 ++ (Row K24 (.slice A30 xs33.length c32) xs33 :: Bx b60 24 [.int .i64 y43.Kind, .int .i64 y43.Amount] :: Row K24 (.slice A20 (((([] : List api_Item) ++ a_) ++ b_).length) c21) ((([] : List api_Item) ++ a_) ++ b_) :: Γ))) wd368 := H367
                refine sp_op [(5, .slice A30 xs33.length c32), (38, .bool (decide (v66 < (xs33.length : Int))))] (ac rfl (ac (hE365 4 (by decide)) an)) ?_
                refine r_not (wn_f rfl rfl (by decide) rfl hb256) ?_
                exact r_nil (n_lp ⟨_, rfl, rfl, H367⟩)
              · intro η255 wd373 Δ374 hE370 hR371 H372
                have H372 : Hp w0 ((Δ374 ++ (Row K24 (.slice A30 xs33.length c32) xs33 :: Bx b60 24 [.int .i64 y43.Kind, .int .i64 y43.Amount] :: Row K24 (.slice A20 (((([] : List api_Item) ++ a_) ++ b_).length) c21) ((([] : List api_Item) ++ a_) ++ b_) :: Γ))) wd373 := H372
                refine sp_op [(8, .int .i64 v66), (38, .bool (decide (v66 < (xs33.length : Int))))] (ac rfl (ac (hE370 4 (by decide)) an)) ?_
                refine r_not (wn_f rfl rfl (by decide) rfl hb256) ?_
                exact r_nil (n_lp ⟨_, rfl, rfl, H372⟩)
              · intro η255 wd378 Δ379 hE375 hR376 H377
                have H377 : Hp w0 ((Δ379 ++ (Row K24 (.slice A30 xs33.length c32) xs33 :: Bx b60 24 [.int .i64 y43.Kind, .int .i64 y43.Amount] :: Row K24 (.slice A20 (((([] : List api_Item) ++ a_) ++ b_).length) c21) ((([] : List api_Item) ++ a_) ++ b_) :: Γ))) wd378 := H377
                refine sp_op [(38, .bool (decide (v66 < (xs33.length : Int)))), (39, undef), (40, undef)] (ac (hE375 4 (by decide)) (ac (hE375 5 (by decide)) (ac (hE375 6 (by decide)) an))) ?_
                refine r_not (wn_f rfl rfl (by decide) rfl hb256) ?_
                exact r_nil (n_lp ⟨_, rfl, rfl, H377⟩)
              · intro η255 wd383 Δ384 hE380 hR381 H382
                have H382 : Hp w0 ((Δ384 ++ (Row K24 (.slice A30 xs33.length c32) xs33 :: Bx b60 24 [.int .i64 y43.Kind, .int .i64 y43.Amount] :: Row K24 (.slice A20 (((([] : List api_Item) ++ a_) ++ b_).length) c21) ((([] : List api_Item) ++ a_) ++ b_) :: Γ))) wd383 := H382
                refine sp_op [(38, .bool (decide (v66 < (xs33.length : Int)))), (41, undef)] (ac (hE380 4 (by decide)) (ac (hE380 7 (by decide)) an)) ?_
                refine r_not (wn_f rfl rfl (by decide) rfl hb256) ?_
                exact r_nil (n_lp ⟨_, rfl, rfl, H382⟩)
              · intro η255 wd388 Δ389 hE385 hR386 H387
                have H387 : Hp w0 ((Δ389 ++ (Row K24 (.slice A30 xs33.length c32) xs33 :: Bx b60 24 [.int .i64 y43.Kind, .int .i64 y43.Amount] :: Row K24 (.slice A20 (((([] : List api_Item) ++ a_) ++ b_).length) c21) ((([] : List api_Item) ++ a_) ++ b_) :: Γ))) wd388 := H387
                refine sp_op [(38, .bool (decide (v66 < (xs33.length : Int)))), (42, undef)] (ac (hE385 4 (by decide)) (ac (hE385 8 (by decide)) an)) ?_
                refine r_not (wn_f rfl rfl (by decide) rfl hb256) ?_
                exact r_nil (n_lp ⟨_, rfl, rfl, H387⟩)
              · intro η255 wd393 Δ394 hE390 hR391 H392
                have H392 : Hp w0 ((Δ394 ++ (Row K24 (.slice A30 xs33.length c32) xs33 :: Bx b60 24 [.int .i64 y43.Kind, .int .i64 y43.Amount] :: Row K24 (.slice A20 (((([] : List api_Item) ++ a_) ++ b_).length) c21) ((([] : List api_Item) ++ a_) ++ b_) :: Γ))) wd393 := H392
                refine sp_op [(7, .pointer (some ⟨b60, 0, none⟩)), (38, .bool (decide (v66 < (xs33.length : Int))))] (ac rfl (ac (hE390 4 (by decide)) an)) ?_
                refine r_not (wn_f rfl rfl (by decide) rfl hb256) ?_
                exact r_nil (n_lp ⟨_, rfl, rfl, H392⟩)
              · intro η255 wd398 Δ399 hE395 hR396 H397
                have H397 : Hp w0 ((Δ399 ++ (Row K24 (.slice A30 xs33.length c32) xs33 :: Bx b60 24 [.int .i64 y43.Kind, .int .i64 y43.Amount] :: Row K24 (.slice A20 (((([] : List api_Item) ++ a_) ++ b_).length) c21) ((([] : List api_Item) ++ a_) ++ b_) :: Γ))) wd398 := H397
                refine sp_op [(38, .bool (decide (v66 < (xs33.length : Int)))), (44, undef)] (ac (hE395 4 (by decide)) (ac (hE395 10 (by decide)) an)) ?_
                refine r_not (wn_f rfl rfl (by decide) rfl hb256) ?_
                exact r_nil (n_lp ⟨_, rfl, rfl, H397⟩)
              · intro η255 wd403 Δ404 hE400 hR401 H402
                have H402 : Hp w0 ((Δ404 ++ (Row K24 (.slice A30 xs33.length c32) xs33 :: Bx b60 24 [.int .i64 y43.Kind, .int .i64 y43.Amount] :: Row K24 (.slice A20 (((([] : List api_Item) ++ a_) ++ b_).length) c21) ((([] : List api_Item) ++ a_) ++ b_) :: Γ))) wd403 := H402
                refine sp_op [(38, .bool (decide (v66 < (xs33.length : Int)))), (43, undef), (45, undef)] (ac (hE400 4 (by decide)) (ac (hE400 9 (by decide)) (ac (hE400 11 (by decide)) an))) ?_
                refine r_not (wn_f rfl rfl (by decide) rfl hb256) ?_
                exact r_nil (n_lp ⟨_, rfl, rfl, H402⟩)
              · intro η255 wd408 Δ409 hE405 hR406 H407
                have H407 : Hp w0 ((Δ409 ++ (Row K24 (.slice A30 xs33.length c32) xs33 :: Bx b60 24 [.int .i64 y43.Kind, .int .i64 y43.Amount] :: Row K24 (.slice A20 (((([] : List api_Item) ++ a_) ++ b_).length) c21) ((([] : List api_Item) ++ a_) ++ b_) :: Γ))) wd408 := H407
                refine sp_op [(38, .bool (decide (v66 < (xs33.length : Int)))), (46, undef)] (ac (hE405 4 (by decide)) (ac (hE405 12 (by decide)) an)) ?_
                refine r_pick_f (.bool false) hb256 rfl rfl ?_
                exact r_nil (n_lp ⟨_, rfl, rfl, H407⟩)
              · intro η255 wd411 hV412 H410
                have H413 : Hp w0 (Row K24 (.slice A30 xs33.length c32) xs33 :: Bx b60 24 [.int .i64 y43.Kind, .int .i64 y43.Amount] :: Row K24 (.slice A20 (((([] : List api_Item) ++ a_) ++ b_).length) c21) ((([] : List api_Item) ++ a_) ++ b_) :: Γ) wd411 := H410
                refine n_frame [(5, .slice A30 xs33.length c32), (7, .pointer (some ⟨b60, 0, none⟩)), (8, .int .i64 v66), (12, .slice A20 (((([] : List api_Item) ++ a_) ++ b_).length) c21), (13, .int .i64 (((([] : List api_Item) ++ a_) ++ b_).length : Int)), (14, .int .i64 i38), (39, undef), (40, undef), (41, undef), (42, undef), (43, undef), (44, undef), (45, undef), (46, undef), (47, .bool false)] (ac rfl (ac rfl (ac rfl (ac rfl (ac rfl (ac rfl (ac (hV412 5 rfl) (ac (hV412 6 rfl) (ac (hV412 7 rfl) (ac (hV412 8 rfl) (ac (hV412 9 rfl) (ac (hV412 10 rfl) (ac (hV412 11 rfl) (ac (hV412 12 rfl) (ac (hV412 13 rfl) an))))))))))))))) ?_
                refine n_cut ⟨false, upk (ac rfl (ac rfl (ac rfl (ac rfl (ac rfl (ac rfl (ac rfl an))))))), H413.u2.u2.u2, hm⟩
          · rintro ρ w ⟨q82, ⟨base, rfl⟩, H83, hm⟩
            unfold scutageref19_AddItems.j3 at hm
            rcases ite_some hm with ⟨hb84, hm⟩ | ⟨hb84, hm⟩
            · refine st_condt hb84 rfl ?_
              refine st_seq ?_
              obtain ⟨⟨h086, h187⟩, hm⟩ := gd_some hm
              have hj88 := rd_get h086 h187
              refine Flow.run' [[], [], [0, 1], [0, 1, 2], [0, 1, 2, 3], [], [5], [0, 1, 2, 3, 4, 5, 6], [0, 1, 2, 3, 4, 5, 6, 7], [0, 1, 2, 3, 4, 5, 6, 7, 8], [0, 1, 2, 3, 4, 5, 6, 7, 8, 9]] [(48, 0), (49, 1), (50, 2), (51, 3), (52, 4), (53, 5), (54, 6), (55, 7), (56, 8), (57, 9)] [(fun η85 v => v = .slice A30 xs33.length c32), (fun η85 v => v = .int .i64 v66), (fun η85 v => v = .pointer (some ((oA A30).add (Int.toNat v66 * 2)))), (fun η85 v => v = .pointer (some (((oA A30).add (Int.toNat v66 * 2)).add 1))), (fun η85 v => v = .int .i64 ((rd xs33 v66).Amount)), (fun η85 v => v = .pointer (some ⟨b60, 1, none⟩)), (fun η85 v => v = .int .i64 y43.Amount), (fun η85 v => v = .int .i64 (w64 ((rd xs33 v66).Amount + y43.Amount))), (fun η85 v => v = .pointer (some ((oA A30).add (Int.toNat v66 * 2)))), (fun η85 v => v = .pointer (some (((oA A30).add (Int.toNat v66 * 2)).add 1))), (fun _ _ => True)] [⟨none, (some 10), fun η85 => Row K24 (.slice A30 xs33.length c32) xs33⟩, ⟨(some 10), none, fun η85 => Row K24 (.slice A30 xs33.length c32) (xs33.set (Int.toNat v66) (⟨(rd xs33 v66).Kind, w64 ((rd xs33 v66).Amount + y43.Amount)⟩ : api_Item))⟩] rfl (by kernel_rfl) (by kernel_rfl) H83 ⟨?_, ?_, ?_, ?_, ?_, ?_, ?_, ?_, ?_, ?_, ?_, trivial⟩ ?_
              · intro η85 wd95 Δ96 hE92 hR93 H94
                have H94 : Hp w0 ((Δ96 ++ (Bx b60 24 [.int .i64 y43.Kind, .int .i64 y43.Amount] :: Row K24 (.slice A20 (((([] : List api_Item) ++ a_) ++ b_).length) c21) ((([] : List api_Item) ++ a_) ++ b_) :: Γ))) wd95 := H94
                refine sp_op [(5, .slice A30 xs33.length c32)] (ac rfl an) ?_
                refine r_pure (.slice A30 xs33.length c32) rfl ?_
                exact r_nil (n_lp ⟨_, rfl, rfl, H94⟩)
              · intro η85 wd100 Δ101 hE97 hR98 H99
                have H99 : Hp w0 ((Δ101 ++ (Bx b60 24 [.int .i64 y43.Kind, .int .i64 y43.Amount] :: Row K24 (.slice A20 (((([] : List api_Item) ++ a_) ++ b_).length) c21) ((([] : List api_Item) ++ a_) ++ b_) :: Γ))) wd100 := H99
                refine sp_op [(8, .int .i64 v66)] (ac rfl an) ?_
                refine r_pure (.int .i64 v66) rfl ?_
                exact r_nil (n_lp ⟨_, rfl, rfl, H99⟩)
              · intro η85 wd105 Δ106 hE102 hR103 H104
                have H104 : Hp w0 ((Δ106 ++ (Bx b60 24 [.int .i64 y43.Kind, .int .i64 y43.Amount] :: Row K24 (.slice A20 (((([] : List api_Item) ++ a_) ++ b_).length) c21) ((([] : List api_Item) ++ a_) ++ b_) :: Γ))) wd105 := H104
                refine sp_op [(48, .slice A30 xs33.length c32), (49, .int .i64 v66)] (ac (hE102 0 (by decide)) (ac (hE102 1 (by decide)) an)) ?_
                have hA110 := ((show (Row K24 (.slice A30 xs33.length c32) xs33) _ from (H104).memr (hR103 _ (List.mem_of_getElem? (i := 0) rfl) rfl)).rd).adO hj88
                refine r_ix IX25 rfl rfl hA110 h086 h187 ?_
                exact r_nil (n_lp ⟨_, rfl, rfl, H104⟩)
              · intro η85 wd114 Δ115 hE111 hR112 H113
                have H113 : Hp w0 ((Δ115 ++ (Bx b60 24 [.int .i64 y43.Kind, .int .i64 y43.Amount] :: Row K24 (.slice A20 (((([] : List api_Item) ++ a_) ++ b_).length) c21) ((([] : List api_Item) ++ a_) ++ b_) :: Γ))) wd114 := H113
                refine sp_op [(50, .pointer (some ((oA A30).add (Int.toNat v66 * 2))))] (ac (hE111 2 (by decide)) an) ?_
                refine r_fa FA24_1 (((oA A30).add (Int.toNat v66 * 2)).add 1) rfl rfl ?_
                exact r_nil (n_lp ⟨_, rfl, rfl, H113⟩)
              · intro η85 wd119 Δ120 hE116 hR117 H118
                have H118 : Hp w0 ((Δ120 ++ (Bx b60 24 [.int .i64 y43.Kind, .int .i64 y43.Amount] :: Row K24 (.slice A20 (((([] : List api_Item) ++ a_) ++ b_).length) c21) ((([] : List api_Item) ++ a_) ++ b_) :: Γ))) wd119 := H118
                refine sp_op [(51, .pointer (some (((oA A30).add (Int.toNat v66 * 2)).add 1)))] (ac (hE116 3 (by decide)) an) ?_
                have hA121 := ((show (Row K24 (.slice A30 xs33.length c32) xs33) _ from (H118).memr (hR117 _ (List.mem_of_getElem? (i := 0) rfl) rfl)).rd).adO hj88
                refine r_ld1 (.int .i64 ((rd xs33 v66).Amount)) LD3 rfl (((show (Row K24 (.slice A30 xs33.length c32) xs33) _ from (H118).memr (hR117 _ (List.mem_of_getElem? (i := 0) rfl) rfl)).rd).cA hA121 hj88 1 _ rfl) ?_
                exact r_nil (n_lp ⟨_, rfl, rfl, H118⟩)
              · intro η85 wd125 Δ126 hE122 hR123 H124
                have H124 : Hp w0 ((Δ126 ++ (Bx b60 24 [.int .i64 y43.Kind, .int .i64 y43.Amount] :: Row K24 (.slice A20 (((([] : List api_Item) ++ a_) ++ b_).length) c21) ((([] : List api_Item) ++ a_) ++ b_) :: Γ))) wd125 := H124
                refine sp_op [(7, .pointer (some ⟨b60, 0, none⟩))] (ac rfl an) ?_
                refine r_fa FA24_1 ⟨b60, 1, none⟩ rfl rfl ?_
                exact r_nil (n_lp ⟨_, rfl, rfl, H124⟩)
              · intro η85 wd130 Δ131 hE127 hR128 H129
                have H129 : Hp w0 ((Δ131 ++ (Bx b60 24 [.int .i64 y43.Kind, .int .i64 y43.Amount] :: Row K24 (.slice A20 (((([] : List api_Item) ++ a_) ++ b_).length) c21) ((([] : List api_Item) ++ a_) ++ b_) :: Γ))) wd130 := H129
                refine sp_op [(53, .pointer (some ⟨b60, 1, none⟩))] (ac (hE127 5 (by decide)) an) ?_
                refine r_ld1 (.int .i64 y43.Amount) LD3 rfl (((H129).tl.g0).cell _ rfl) ?_
                exact r_nil (n_lp ⟨_, rfl, rfl, H129⟩)
              · intro η85 wd135 Δ136 hE132 hR133 H134
                have H134 : Hp w0 ((Δ136 ++ (Bx b60 24 [.int .i64 y43.Kind, .int .i64 y43.Amount] :: Row K24 (.slice A20 (((([] : List api_Item) ++ a_) ++ b_).length) c21) ((([] : List api_Item) ++ a_) ++ b_) :: Γ))) wd135 := H134
                refine sp_op [(52, .int .i64 ((rd xs33 v66).Amount)), (54, .int .i64 y43.Amount)] (ac (hE132 4 (by decide)) (ac (hE132 6 (by decide)) an)) ?_
                refine r_pure (.int .i64 (w64 ((rd xs33 v66).Amount + y43.Amount))) rfl ?_
                exact r_nil (n_lp ⟨_, rfl, rfl, H134⟩)
              · intro η85 wd140 Δ141 hE137 hR138 H139
                have H139 : Hp w0 ((Δ141 ++ (Bx b60 24 [.int .i64 y43.Kind, .int .i64 y43.Amount] :: Row K24 (.slice A20 (((([] : List api_Item) ++ a_) ++ b_).length) c21) ((([] : List api_Item) ++ a_) ++ b_) :: Γ))) wd140 := H139
                refine sp_op [(48, .slice A30 xs33.length c32), (49, .int .i64 v66)] (ac (hE137 0 (by decide)) (ac (hE137 1 (by decide)) an)) ?_
                have hA142 := ((show (Row K24 (.slice A30 xs33.length c32) xs33) _ from (H139).memr (hR138 _ (List.mem_of_getElem? (i := 0) rfl) rfl)).rd).adO hj88
                refine r_ix IX25 rfl rfl hA142 h086 h187 ?_
                exact r_nil (n_lp ⟨_, rfl, rfl, H139⟩)
              · intro η85 wd146 Δ147 hE143 hR144 H145
                have H145 : Hp w0 ((Δ147 ++ (Bx b60 24 [.int .i64 y43.Kind, .int .i64 y43.Amount] :: Row K24 (.slice A20 (((([] : List api_Item) ++ a_) ++ b_).length) c21) ((([] : List api_Item) ++ a_) ++ b_) :: Γ))) wd146 := H145
                refine sp_op [(56, .pointer (some ((oA A30).add (Int.toNat v66 * 2))))] (ac (hE143 8 (by decide)) an) ?_
                refine r_fa FA24_1 (((oA A30).add (Int.toNat v66 * 2)).add 1) rfl rfl ?_
                exact r_nil (n_lp ⟨_, rfl, rfl, H145⟩)
              · intro η85 wd151 Δ152 hE148 hR149 H150
                have H150 : Hp w0 (Row K24 (.slice A30 xs33.length c32) xs33 :: (Δ152 ++ (Bx b60 24 [.int .i64 y43.Kind, .int .i64 y43.Amount] :: Row K24 (.slice A20 (((([] : List api_Item) ++ a_) ++ b_).length) c21) ((([] : List api_Item) ++ a_) ++ b_) :: Γ))) wd151 := H150
                refine sp_op [(55, .int .i64 (w64 ((rd xs33 v66).Amount + y43.Amount))), (57, .pointer (some (((oA A30).add (Int.toNat v66 * 2)).add 1)))] (ac (hE148 7 (by decide)) (ac (hE148 9 (by decide)) an)) ?_
                have hA155 := (H150.g0.rd).adO hj88
                refine r_stx1 (K := K24) ((⟨(rd xs33 v66).Kind, w64 ((rd xs33 v66).Amount + y43.Amount)⟩ : api_Item)) hA155 LD3 rfl rfl rfl H150 hj88 (by decide) rfl ?_
                intro wd154 H153
                exact r_nil (n_lp ⟨_, rfl, trivial, H153⟩)
              · intro η85 wd157 hV158 H156
                have H159 : Hp w0 (Row K24 (.slice A30 xs33.length c32) (xs33.set (Int.toNat v66) (⟨(rd xs33 v66).Kind, w64 ((rd xs33 v66).Amount + y43.Amount)⟩ : api_Item)) :: Bx b60 24 [.int .i64 y43.Kind, .int .i64 y43.Amount] :: Row K24 (.slice A20 (((([] : List api_Item) ++ a_) ++ b_).length) c21) ((([] : List api_Item) ++ a_) ++ b_) :: Γ) wd157 := H156
                refine n_frame [(5, .slice A30 xs33.length c32), (12, .slice A20 (((([] : List api_Item) ++ a_) ++ b_).length) c21), (13, .int .i64 (((([] : List api_Item) ++ a_) ++ b_).length : Int)), (14, .int .i64 i38)] (ac rfl (ac rfl (ac rfl (ac rfl an)))) ?_
                refine n_sq ?_
                refine st_exit rfl ?_
                refine n_cut ⟨A30, xs33.length, c32, xs33.set (Int.toNat v66) (⟨(rd xs33 v66).Kind, w64 ((rd xs33 v66).Amount + y43.Amount)⟩ : api_Item), upk (ac rfl (ac rfl (ac rfl (ac rfl an)))), H159.u1.d.u1.u1, hm⟩
            · refine st_condf hb84 rfl ?_
              refine st_skip ?_
              refine n_sq ?_
              obtain ⟨hs161, hm⟩ := gd_some hm
              obtain ⟨hs165, hm⟩ := gd_some hm
              obtain ⟨hf166, hm⟩ := gd_some hm
              obtain ⟨hf171, hm⟩ := gd_some hm
              refine Flow.run' [[], [], [], [0, 1, 2], [], [4], [], [], [6, 7], [4, 5, 6, 7, 8], [0, 1, 2, 3, 4, 5, 6, 7, 8, 9], [0, 1, 2, 3, 4, 5, 6, 7, 8, 9, 10]] [(58, 0), (59, 1), (60, 2), (61, 3), (62, 4), (63, 5), (64, 6), (65, 7), (66, 8), (67, 9), (68, 10), (5, 11)] [(fun η160 v => v = .slice A30 xs33.length c32), (fun η160 v => v = .int .i64 v66), (fun η160 v => v = .int .i64 v66), (fun η160 v => v = .slice (cutA A30 (0 : Int) v66 2) ((sb xs33 (0 : Int) v66).length) (Int.toNat v66 - Int.toNat (0 : Int))), (fun η160 v => v = .agg #[.int .i64 y43.Kind, .int .i64 y43.Amount]), (fun η160 v => v = .slice (some ⟨(oA (vA v)).block, 0, none⟩) 1 1), (fun η160 v => v = .slice A30 xs33.length c32), (fun η160 v => v = .int .i64 v66), (fun η160 v => v = .slice (cutA A30 v66 (c32 : Int) 2) ((sb xs33 v66 (xs33.length : Int)).length) (c32 - Int.toNat v66)), (fun η160 v => v = .slice (vA v) (([y43] ++ (sb xs33 v66 (xs33.length : Int))).length) (vC v)), (fun η160 v => v = .slice (vA v) (((sb xs33 (0 : Int) v66) ++ ([y43] ++ (sb xs33 v66 (xs33.length : Int)))).length) (vC v)), (fun η160 v => v = .slice (vA (η160 10)) (((sb xs33 (0 : Int) v66) ++ ([y43] ++ (sb xs33 v66 (xs33.length : Int)))).length) (vC (η160 10)))] [⟨(some 5), (some 9), fun η160 => Row K24 (.slice (some ⟨(oA (vA (η160 5))).block, 0, none⟩) 1 1) [y43]⟩, ⟨(some 9), none, fun η160 => Row K24 (.slice (vA (η160 9)) (([y43] ++ (sb xs33 v66 (xs33.length : Int))).length) (vC (η160 9))) ([y43] ++ (sb xs33 v66 (xs33.length : Int)))⟩, ⟨(some 10), none, fun η160 => Row K24 (.slice (vA (η160 10)) (((sb xs33 (0 : Int) v66) ++ ([y43] ++ (sb xs33 v66 (xs33.length : Int)))).length) (vC (η160 10))) ((sb xs33 (0 : Int) v66) ++ ([y43] ++ (sb xs33 v66 (xs33.length : Int))))⟩] rfl (by kernel_rfl) (by kernel_rfl) H83 ⟨?_, ?_, ?_, ?_, ?_, ?_, ?_, ?_, ?_, ?_, ?_, ?_, trivial⟩ ?_
              · intro η160 wd179 Δ180 hE176 hR177 H178
                have H178 : Hp w0 ((Δ180 ++ (Row K24 (.slice A30 xs33.length c32) xs33 :: Bx b60 24 [.int .i64 y43.Kind, .int .i64 y43.Amount] :: Row K24 (.slice A20 (((([] : List api_Item) ++ a_) ++ b_).length) c21) ((([] : List api_Item) ++ a_) ++ b_) :: Γ))) wd179 := H178
                refine sp_op [(5, .slice A30 xs33.length c32)] (ac rfl an) ?_
                refine r_pure (.slice A30 xs33.length c32) rfl ?_
                exact r_nil (n_lp ⟨_, rfl, rfl, H178⟩)
              · intro η160 wd184 Δ185 hE181 hR182 H183
                have H183 : Hp w0 ((Δ185 ++ (Row K24 (.slice A30 xs33.length c32) xs33 :: Bx b60 24 [.int .i64 y43.Kind, .int .i64 y43.Amount] :: Row K24 (.slice A20 (((([] : List api_Item) ++ a_) ++ b_).length) c21) ((([] : List api_Item) ++ a_) ++ b_) :: Γ))) wd184 := H183
                refine sp_op [(8, .int .i64 v66)] (ac rfl an) ?_
                refine r_pure (.int .i64 v66) rfl ?_
                exact r_nil (n_lp ⟨_, rfl, rfl, H183⟩)
              · intro η160 wd189 Δ190 hE186 hR187 H188
                have H188 : Hp w0 ((Δ190 ++ (Row K24 (.slice A30 xs33.length c32) xs33 :: Bx b60 24 [.int .i64 y43.Kind, .int .i64 y43.Amount] :: Row K24 (.slice A20 (((([] : List api_Item) ++ a_) ++ b_).length) c21) ((([] : List api_Item) ++ a_) ++ b_) :: Γ))) wd189 := H188
                refine sp_op [(8, .int .i64 v66)] (ac rfl an) ?_
                refine r_pure (.int .i64 v66) rfl ?_
                exact r_nil (n_lp ⟨_, rfl, rfl, H188⟩)
              · intro η160 wd194 Δ195 hE191 hR192 H193
                have H193 : Hp w0 ((Δ195 ++ (Row K24 (.slice A30 xs33.length c32) xs33 :: Bx b60 24 [.int .i64 y43.Kind, .int .i64 y43.Amount] :: Row K24 (.slice A20 (((([] : List api_Item) ++ a_) ++ b_).length) c21) ((([] : List api_Item) ++ a_) ++ b_) :: Γ))) wd194 := H193
                refine sp_op [(58, .slice A30 xs33.length c32), (59, .int .i64 v66), (60, .int .i64 v66)] (ac (hE191 0 (by decide)) (ac (hE191 1 (by decide)) (ac (hE191 2 (by decide)) an))) ?_
                refine r_cut3 (xs := xs33) (lo := (0 : Int)) (hi := v66) (mx := v66) IX25 rfl rfl ((H193).tl.g0.cap) ⟨_, rfl⟩ ⟨_, rfl⟩ rfl hs161 ?_
                exact r_nil (n_lp ⟨_, rfl, rfl, H193⟩)
              · intro η160 wd200 Δ201 hE197 hR198 H199
                have H199 : Hp w0 ((Δ201 ++ (Row K24 (.slice A30 xs33.length c32) xs33 :: Bx b60 24 [.int .i64 y43.Kind, .int .i64 y43.Amount] :: Row K24 (.slice A20 (((([] : List api_Item) ++ a_) ++ b_).length) c21) ((([] : List api_Item) ++ a_) ++ b_) :: Γ))) wd200 := H199
                refine sp_op [(7, .pointer (some ⟨b60, 0, none⟩))] (ac rfl an) ?_
                refine r_ldA [.int .i64 y43.Kind, .int .i64 y43.Amount] LD24 rfl rfl (((H199).tl.g1).cells rfl) ?_
                exact r_nil (n_lp ⟨_, rfl, rfl, H199⟩)
              · intro η160 wd205 Δ206 hE202 hR203 H204
                have H204 : Hp w0 ((Δ206 ++ (Row K24 (.slice A30 xs33.length c32) xs33 :: Bx b60 24 [.int .i64 y43.Kind, .int .i64 y43.Amount] :: Row K24 (.slice A20 (((([] : List api_Item) ++ a_) ++ b_).length) c21) ((([] : List api_Item) ++ a_) ++ b_) :: Γ))) wd205 := H204
                refine sp_op [(62, .agg #[.int .i64 y43.Kind, .int .i64 y43.Amount])] (ac (hE202 4 (by decide)) an) ?_
                refine r_buildSlice (K := K24) [y43] EL25 rfl rfl rfl (by decide) (by decide) rfl H204 ?_
                intro b207 wd209 H208
                exact r_nil (n_lp ⟨_, rfl, rfl, H208⟩)
              · intro η160 wd213 Δ214 hE210 hR211 H212
                have H212 : Hp w0 ((Δ214 ++ (Row K24 (.slice A30 xs33.length c32) xs33 :: Bx b60 24 [.int .i64 y43.Kind, .int .i64 y43.Amount] :: Row K24 (.slice A20 (((([] : List api_Item) ++ a_) ++ b_).length) c21) ((([] : List api_Item) ++ a_) ++ b_) :: Γ))) wd213 := H212
                refine sp_op [(5, .slice A30 xs33.length c32)] (ac rfl an) ?_
                refine r_pure (.slice A30 xs33.length c32) rfl ?_
                exact r_nil (n_lp ⟨_, rfl, rfl, H212⟩)
              · intro η160 wd218 Δ219 hE215 hR216 H217
                have H217 : Hp w0 ((Δ219 ++ (Row K24 (.slice A30 xs33.length c32) xs33 :: Bx b60 24 [.int .i64 y43.Kind, .int .i64 y43.Amount] :: Row K24 (.slice A20 (((([] : List api_Item) ++ a_) ++ b_).length) c21) ((([] : List api_Item) ++ a_) ++ b_) :: Γ))) wd218 := H217
                refine sp_op [(8, .int .i64 v66)] (ac rfl an) ?_
                refine r_pure (.int .i64 v66) rfl ?_
                exact r_nil (n_lp ⟨_, rfl, rfl, H217⟩)
              · intro η160 wd223 Δ224 hE220 hR221 H222
                have H222 : Hp w0 ((Δ224 ++ (Row K24 (.slice A30 xs33.length c32) xs33 :: Bx b60 24 [.int .i64 y43.Kind, .int .i64 y43.Amount] :: Row K24 (.slice A20 (((([] : List api_Item) ++ a_) ++ b_).length) c21) ((([] : List api_Item) ++ a_) ++ b_) :: Γ))) wd223 := H222
                refine sp_op [(64, .slice A30 xs33.length c32), (65, .int .i64 v66)] (ac (hE220 6 (by decide)) (ac (hE220 7 (by decide)) an)) ?_
                refine r_cut2 (xs := xs33) (lo := v66) (hi := (xs33.length : Int)) IX25 rfl rfl ((H222).tl.g0.cap) rfl ⟨_, rfl⟩ hs165 ?_
                exact r_nil (n_lp ⟨_, rfl, rfl, H222⟩)
              · intro η160 wd229 Δ230 hE226 hR227 H228
                have H228 : Hp w0 (Row K24 (.slice (some ⟨(oA (vA (η160 5))).block, 0, none⟩) 1 1) [y43] :: (Δ230 ++ (Row K24 (.slice A30 xs33.length c32) xs33 :: Bx b60 24 [.int .i64 y43.Kind, .int .i64 y43.Amount] :: Row K24 (.slice A20 (((([] : List api_Item) ++ a_) ++ b_).length) c21) ((([] : List api_Item) ++ a_) ++ b_) :: Γ))) wd229 := H228
                refine sp_op [(63, .slice (some ⟨(oA (vA (η160 5))).block, 0, none⟩) 1 1), (66, .slice (cutA A30 v66 (c32 : Int) 2) ((sb xs33 v66 (xs33.length : Int)).length) (c32 - Int.toNat v66))] (ac (hE226 5 (by decide)) (ac (hE226 8 (by decide)) an)) ?_
                refine r_append (K := K24) (ys := sb xs33 v66 (xs33.length : Int)) AP25 rfl rfl rfl rfl H228 ((((H228.d).tl.g0.rd).sb (K := K24) (lo := v66) (hi := (xs33.length : Int)) (mx := (c32 : Int)) hs165.2.1 (by have := ((H228.d).tl.g0.cap); have := hs165; omega)).src) (fit_le hf166 (by decide)) ?_
                intro A232 c233 wd234 H235
                exact r_nil (n_lp ⟨_, rfl, rfl, H235⟩)
              · intro η160 wd239 Δ240 hE236 hR237 H238
                have H238 : Hp w0 ((Δ240 ++ (Row K24 (.slice A30 xs33.length c32) xs33 :: Bx b60 24 [.int .i64 y43.Kind, .int .i64 y43.Amount] :: Row K24 (.slice A20 (((([] : List api_Item) ++ a_) ++ b_).length) c21) ((([] : List api_Item) ++ a_) ++ b_) :: Γ))) wd239 := H238
                refine sp_op [(61, .slice (cutA A30 (0 : Int) v66 2) ((sb xs33 (0 : Int) v66).length) (Int.toNat v66 - Int.toNat (0 : Int))), (67, .slice (vA (η160 9)) (([y43] ++ (sb xs33 v66 (xs33.length : Int))).length) (vC (η160 9)))] (ac (hE236 3 (by decide)) (ac (hE236 9 (by decide)) an)) ?_
                refine r_appendN (K := K24) (xs := sb xs33 (0 : Int) v66) (ys := [y43] ++ (sb xs33 v66 (xs33.length : Int))) AP25 rfl rfl rfl rfl H238 ((((H238).tl.g0.rd).sb (K := K24) (lo := (0 : Int)) (hi := v66) (mx := v66) hs161.2.1 hs161.2.2.1).src) (((show (Row K24 (.slice (vA (η160 9)) (([y43] ++ (sb xs33 v66 (xs33.length : Int))).length) (vC (η160 9))) ([y43] ++ (sb xs33 v66 (xs33.length : Int)))) _ from (H238).memr (hR237 _ (List.mem_of_getElem? (i := 1) rfl) rfl)).rd).src) (by rw [sb_len hs161.1 hs161.2.1 (Int.le_trans hs161.2.2.1 hs161.2.2.2)]; exact Nat.le_refl _) (by simp) (fit_le hf171 (by decide)) ?_
                intro A242 c243 wd244 H245
                exact r_nil (n_lp ⟨_, rfl, rfl, H245⟩)
              · intro η160 wd249 Δ250 hE246 hR247 H248
                have H248 : Hp w0 ((Δ250 ++ (Row K24 (.slice A30 xs33.length c32) xs33 :: Bx b60 24 [.int .i64 y43.Kind, .int .i64 y43.Amount] :: Row K24 (.slice A20 (((([] : List api_Item) ++ a_) ++ b_).length) c21) ((([] : List api_Item) ++ a_) ++ b_) :: Γ))) wd249 := H248
                refine sp_op [(68, .slice (vA (η160 10)) (((sb xs33 (0 : Int) v66) ++ ([y43] ++ (sb xs33 v66 (xs33.length : Int)))).length) (vC (η160 10)))] (ac (hE246 10 (by decide)) an) ?_
                refine r_pure (.slice (vA (η160 10)) (((sb xs33 (0 : Int) v66) ++ ([y43] ++ (sb xs33 v66 (xs33.length : Int)))).length) (vC (η160 10))) rfl ?_
                exact r_nil (n_lp ⟨_, rfl, rfl, H248⟩)
              · intro η160 wd252 hV253 H251
                have H254 : Hp w0 (Row K24 (.slice (vA (η160 9)) (([y43] ++ (sb xs33 v66 (xs33.length : Int))).length) (vC (η160 9))) ([y43] ++ (sb xs33 v66 (xs33.length : Int))) :: Row K24 (.slice (vA (η160 10)) (((sb xs33 (0 : Int) v66) ++ ([y43] ++ (sb xs33 v66 (xs33.length : Int)))).length) (vC (η160 10))) ((sb xs33 (0 : Int) v66) ++ ([y43] ++ (sb xs33 v66 (xs33.length : Int)))) :: Row K24 (.slice A30 xs33.length c32) xs33 :: Bx b60 24 [.int .i64 y43.Kind, .int .i64 y43.Amount] :: Row K24 (.slice A20 (((([] : List api_Item) ++ a_) ++ b_).length) c21) ((([] : List api_Item) ++ a_) ++ b_) :: Γ) wd252 := H251
                refine n_frame [(5, .slice (vA (η160 10)) (((sb xs33 (0 : Int) v66) ++ ([y43] ++ (sb xs33 v66 (xs33.length : Int)))).length) (vC (η160 10))), (12, .slice A20 (((([] : List api_Item) ++ a_) ++ b_).length) c21), (13, .int .i64 (((([] : List api_Item) ++ a_) ++ b_).length : Int)), (14, .int .i64 i38)] (ac (hV253 11 rfl) (ac rfl (ac rfl (ac rfl an)))) ?_
                refine n_bl ?_
                refine n_cut ⟨(vA (η160 10)), ((sb xs33 (0 : Int) v66) ++ ([y43] ++ (sb xs33 v66 (xs33.length : Int)))).length, (vC (η160 10)), (sb xs33 (0 : Int) v66) ++ ([y43] ++ (sb xs33 v66 (xs33.length : Int))), upk (ac rfl (ac rfl (ac rfl (ac rfl an)))), H254.d.u1.d.u1.d.u1.u1, hm⟩
    · rintro ρ w ⟨A54, n55, c56, xs57, ⟨base, rfl⟩, H58, hm⟩
      obtain rfl := (H58.g0).leneq
      unfold scutageref19_AddItems.j1 at hm
      refine st_region ?_
      refine r_pure (.int .i64 (w64 (i38 + 1))) rfl ?_
      refine r_pure (.int .i64 (w64 (i38 + 1))) rfl ?_
      refine r_nil ?_
      refine n_round (IH46 _ _ rfl _ _ _ ⟨i38 + 1, xs57, dn39 ++ [y43], A54, xs57.length, c56, rfl, range_more hxs40, range_len hi41, upk (ac rfl (ac rfl (ac rfl (ac hnx52 an)))), H58.u1.u1⟩ hm)

set_option maxHeartbeats 2000000 in
theorem scutagelaw25_wakes_ok {w0 w : World} {Γ : List (World → Prop)}  (r0_ : Bool) (H : Hp w0 (Γ) w) (hm : scutagelaw25_wakes = some r0_) : Calls Try.prog 9 #[] w (fun e w => e = .returned (.bool r0_) ∧ Hp w0 (Γ) w) := by
  unfold scutagelaw25_wakes at hm
  refine st_enter Try.func9 rfl Try.ntmps9 (Nat.le_of_ble_eq_true rfl) ?_
  refine st_seq ?_
  refine st_region ?_
  refine r_pure (.bool false) rfl ?_
  refine r_seq ?_
  refine st_seq ?_
  refine st_region ?_
  refine r_build [.int .i64 1, .int .i64 1] FL24 rfl ?_
  refine r_build [.int .i64 2, .int .i64 1] FL24 rfl ?_
  refine r_build [.int .i64 3, .int .i64 1] FL24 rfl ?_
  refine r_buildSlice (K := K24) [(⟨1, 1⟩ : api_Item), (⟨2, 1⟩ : api_Item), (⟨3, 1⟩ : api_Item)] EL25 rfl rfl rfl (by decide) (by decide) rfl H ?_
  intro b1 wd3 H2
  obtain ⟨⟨y4, y5, y6⟩, hy7, hm⟩ := bind_some hm
  refine r_callf Try.call7 (fx_Convert_ok [(⟨1, 1⟩ : api_Item), (⟨2, 1⟩ : api_Item), (⟨3, 1⟩ : api_Item)] (some ⟨b1, 0, none⟩) 3 3 rfl (((H2).g0).cap) (fun _ H => (H.g0.rd)) 500000 y4 y5 y6 H2 hy7) ?_
  rintro e13 wd12 ⟨A8, n9, c10, rfl, H11⟩
  obtain rfl := (H11.g0).leneq
  refine ⟨_, rfl, ?_⟩
  refine r_pure (.tuple #[.slice A8 y4.length c10, .int .i64 y5, .int .i64 y6]) rfl ?_
  refine r_pure (.slice A8 y4.length c10) rfl ?_
  refine r_pure (.int .i64 y5) rfl ?_
  refine r_pure (.int .i64 y6) rfl ?_
  refine r_pure (.slice A8 y4.length c10) rfl ?_
  refine r_pure (.int .i64 y5) rfl ?_
  refine r_pure (.int .i64 y6) rfl ?_
  refine r_seq ?_
  refine st_cut (fun ρ w => ∃ q14 : Bool, (∃ base, ρ = updl base [(0, .bool q14)]) ∧ Hp w0 (Γ) w ∧ scutagelaw25_wakes.j1 q14 = some r0_) ?_ ?_
  · refine st_region ?_
    refine r_pure (.int .i64 y6) rfl ?_
    refine r_pure (.bool (y6 == 0)) rfl ?_
    refine r_pure (.bool (y6 == 0)) rfl ?_
    rcases ite_some hm with ⟨hb16, hm⟩ | ⟨hb16, hm⟩
    · refine r_pure (.slice A8 y4.length c10) rfl ?_ (wn_t rfl rfl (by decide) rfl hb16)
      refine r_len Try.underlying25 rfl ?_ (wn_t rfl rfl (by decide) rfl hb16)
      refine r_pure (.bool ((y4.length : Int) == 3)) rfl ?_ (wn_t rfl rfl (by decide) rfl hb16)
      refine r_pick_t (.bool ((y4.length : Int) == 3)) hb16 rfl rfl ?_
      refine r_pure (.bool ((y4.length : Int) == 3)) rfl ?_
      rcases ite_some hm with ⟨hb17, hm⟩ | ⟨hb17, hm⟩
      · refine r_pure (.slice A8 y4.length c10) rfl ?_ (wn_t rfl rfl (by decide) rfl hb17)
        obtain ⟨⟨h018, h119⟩, hm⟩ := gd_some hm
        have hj20 := rd_get h018 h119
        have hA21 := (H11.g0.rd).adO hj20
        refine r_ix IX25 rfl rfl hA21 h018 h119 ?_ (wn_t rfl rfl (by decide) rfl hb17)
        refine r_fa FA24_1 (((oA A8).add (Int.toNat 0 * 2)).add 1) rfl rfl ?_ (wn_t rfl rfl (by decide) rfl hb17)
        refine r_ld1 (.int .i64 ((rd y4 0).Amount)) LD3 rfl ((H11.g0.rd).cA hA21 hj20 1 _ rfl) ?_ (wn_t rfl rfl (by decide) rfl hb17)
        refine r_pure (.bool ((rd y4 0).Amount == 1)) rfl ?_ (wn_t rfl rfl (by decide) rfl hb17)
        refine r_pick_t (.bool ((rd y4 0).Amount == 1)) hb17 rfl rfl ?_
        refine r_pure (.bool ((rd y4 0).Amount == 1)) rfl ?_
        rcases ite_some hm with ⟨hb22, hm⟩ | ⟨hb22, hm⟩
        · refine r_pure (.int .i64 y5) rfl ?_ (wn_t rfl rfl (by decide) rfl hb22)
          refine r_pure (.bool (y5 == (-1))) rfl ?_ (wn_t rfl rfl (by decide) rfl hb22)
          refine r_pick_t (.bool (y5 == (-1))) hb22 rfl rfl ?_
          refine r_pure (.bool (y5 == (-1))) rfl ?_
          refine r_nil ?_
          refine n_cut ⟨y5 == (-1), upk (ac rfl an), H11.d.d, hm⟩
        · refine r_not (wn_f rfl rfl (by decide) rfl hb22) ?_
          refine r_not (wn_f rfl rfl (by decide) rfl hb22) ?_
          refine r_pick_f (.bool false) hb22 rfl rfl ?_
          refine r_pure (.bool false) rfl ?_
          refine r_nil ?_
          refine n_cut ⟨false, upk (ac rfl an), H11.d.d, hm⟩
      · refine r_not (wn_f rfl rfl (by decide) rfl hb17) ?_
        refine r_not (wn_f rfl rfl (by decide) rfl hb17) ?_
        refine r_not (wn_f rfl rfl (by decide) rfl hb17) ?_
        refine r_not (wn_f rfl rfl (by decide) rfl hb17) ?_
        refine r_not (wn_f rfl rfl (by decide) rfl hb17) ?_
        refine r_pick_f (.bool false) hb17 rfl rfl ?_
        refine r_pure (.bool false) rfl ?_
        refine r_not (wn_f rfl rfl (by decide) rfl rfl) ?_
        refine r_not (wn_f rfl rfl (by decide) rfl rfl) ?_
        refine r_pick_f (.bool false) rfl rfl rfl ?_
        refine r_pure (.bool false) rfl ?_
        refine r_nil ?_
        refine n_cut ⟨false, upk (ac rfl an), H11.d.d, hm⟩
    · refine r_not (wn_f rfl rfl (by decide) rfl hb16) ?_
      refine r_not (wn_f rfl rfl (by decide) rfl hb16) ?_
      refine r_not (wn_f rfl rfl (by decide) rfl hb16) ?_
      refine r_pick_f (.bool false) hb16 rfl rfl ?_
      refine r_pure (.bool false) rfl ?_
      refine r_not (wn_f rfl rfl (by decide) rfl rfl) ?_
      refine r_not (wn_f rfl rfl (by decide) rfl rfl) ?_
      refine r_not (wn_f rfl rfl (by decide) rfl rfl) ?_
      refine r_not (wn_f rfl rfl (by decide) rfl rfl) ?_
      refine r_not (wn_f rfl rfl (by decide) rfl rfl) ?_
      refine r_pick_f (.bool false) rfl rfl rfl ?_
      refine r_pure (.bool false) rfl ?_
      refine r_not (wn_f rfl rfl (by decide) rfl rfl) ?_
      refine r_not (wn_f rfl rfl (by decide) rfl rfl) ?_
      refine r_pick_f (.bool false) rfl rfl rfl ?_
      refine r_pure (.bool false) rfl ?_
      refine r_nil ?_
      refine n_cut ⟨false, upk (ac rfl an), H11.d.d, hm⟩
  · rintro ρ w ⟨q14, ⟨base, rfl⟩, H15, hm⟩
    unfold scutagelaw25_wakes.j1 at hm
    have hq_ := Option.some.inj hm
    subst hq_
    refine st_ret1 rfl rfl (Nat.le_of_ble_eq_true rfl) rfl ?_
    exact ⟨rfl, H15⟩

set_option maxHeartbeats 2000000 in
theorem scutagelaw25_FxTells_ok {w0 w : World} {Γ : List (World → Prop)} (kinds : List Int) (A1 : Option Addr) (n6 c2 : Nat) (hn5 : n6 = kinds.length) (hc3 : kinds.length ≤ c2) (hv4 : ∀ u, Hp w0 Γ u → SlR K3 A1 kinds u) (amounts : List Int) (A7 : Option Addr) (n12 c8 : Nat) (hn11 : n12 = amounts.length) (hc9 : amounts.length ≤ c8) (hv10 : ∀ u, Hp w0 Γ u → SlR K3 A7 amounts u) (other : List Int) (A13 : Option Addr) (n18 c14 : Nat) (hn17 : n18 = other.length) (hc15 : other.length ≤ c14) (hv16 : ∀ u, Hp w0 Γ u → SlR K3 A13 other u) (rate_ : Int) (raw : Bool) (r0_ : Bool) (H : Hp w0 (Γ) w) (hm : scutagelaw25_FxTells kinds amounts other rate_ raw = some r0_) : Calls Try.prog 4 #[.slice A1 n6 c2, .slice A7 n12 c8, .slice A13 n18 c14, .int .i64 rate_, .bool raw] w (fun e w => e = .returned (.bool r0_) ∧ Hp w0 (Γ) w) := by
  subst hn5
  subst hn11
  subst hn17
  unfold scutagelaw25_FxTells at hm
  refine st_enter Try.func4 rfl Try.ntmps4 (Nat.le_of_ble_eq_true rfl) ?_
  refine st_seq ?_
  refine st_region ?_
  refine r_pure (.bool false) rfl ?_
  refine r_seq ?_
  refine st_seq ?_
  refine st_region ?_
  refine r_pure (.slice A1 kinds.length c2) rfl ?_
  refine r_pure (.slice A7 amounts.length c8) rfl ?_
  obtain ⟨y19, hy20, hm⟩ := bind_some hm
  refine r_callf Try.call10 (scutagelaw25_items_ok kinds A1 kinds.length c2 rfl hc3 (fun _ H => (hv4 _ H)) amounts A7 amounts.length c8 rfl hc9 (fun _ H => (hv10 _ H)) 22 y19 H hy20) ?_
  rintro e26 wd25 ⟨A21, n22, c23, rfl, H24⟩
  obtain rfl := (H24.g0).leneq
  refine ⟨_, rfl, ?_⟩
  refine r_pure (.slice A13 other.length c14) rfl ?_
  refine r_pure (.slice A7 amounts.length c8) rfl ?_
  obtain ⟨y27, hy28, hm⟩ := bind_some hm
  refine r_callf Try.call10 (scutagelaw25_items_ok other A13 other.length c14 rfl hc15 (fun _ H => (hv16 _ H.d)) amounts A7 amounts.length c8 rfl hc9 (fun _ H => (hv10 _ H.d)) 9 y27 H24 hy28) ?_
  rintro e34 wd33 ⟨A29, n30, c31, rfl, H32⟩
  obtain rfl := (H32.g0).leneq
  refine ⟨_, rfl, ?_⟩
  refine r_pure (.slice A21 y19.length c23) rfl ?_
  refine r_pure (.slice A29 y27.length c31) rfl ?_
  refine r_seq ?_
  refine st_cut (fun ρ w => ∃ v35 : Int, (∃ base, ρ = updl base [(3, .int .i64 v35), (11, .slice A21 y19.length c23), (12, .slice A29 y27.length c31)]) ∧ Hp w0 (Row K24 (.slice A21 y19.length c23) y19 :: Row K24 (.slice A29 y27.length c31) y27 :: Γ) w ∧ scutagelaw25_FxTells.j1 y19 y27 v35 = some r0_) ?_ ?_
  · refine st_seq ?_
    refine st_region ?_
    refine r_pure (.bool raw) rfl ?_
    refine r_pure (.bool (!raw)) rfl ?_
    refine r_seq ?_
    rcases ite_some hm with ⟨hb166, hm⟩ | ⟨hb166, hm⟩
    · refine st_condt hb166 rfl ?_
      refine st_region ?_
      refine r_pure (.int .i64 rate_) rfl ?_
      obtain ⟨y167, hy168, hm⟩ := bind_some hm
      refine r_callf Try.call6 (scutagekeep_Within_ok rate_ 20000000 y167 H32 hy168) ?_
      rintro e171 wd170 ⟨rfl, H169⟩
      refine ⟨_, rfl, ?_⟩
      refine r_pure (.int .i64 (w64 (1 + y167))) rfl ?_
      refine r_pure (.int .i64 (w64 (1 + y167))) rfl ?_
      refine r_nil ?_
      refine n_cut ⟨w64 (1 + y167), upk (ac rfl (ac rfl (ac rfl an))), H169.u1, hm⟩
    · refine st_condf hb166 rfl ?_
      refine st_skip ?_
      refine n_cut ⟨rate_, upk (ac rfl (ac rfl (ac rfl an))), H32.u1, hm⟩
  · rintro ρ w ⟨v35, ⟨base, rfl⟩, H36, hm⟩
    unfold scutagelaw25_FxTells.j1 at hm
    refine st_seq ?_
    refine st_region ?_
    refine r_pure (.slice A21 y19.length c23) rfl ?_
    obtain ⟨y37, hy38, hm⟩ := bind_some hm
    refine r_callf Try.call11 (scutagekeep_Copy_api_Item_ok y19 A21 y19.length c23 rfl (((H36).g0).cap) (fun _ H => (H.g0.rd)) y37 H36 hy38) ?_
    rintro e44 wd43 ⟨A39, n40, c41, rfl, H42⟩
    obtain rfl := (H42.g0).leneq
    refine ⟨_, rfl, ?_⟩
    refine r_pure (.slice A39 y37.length c41) rfl ?_
    refine r_seq ?_
    refine st_seq ?_
    refine st_region ?_
    refine r_pure (.slice A21 y19.length c23) rfl ?_
    refine r_pure (.int .i64 v35) rfl ?_
    obtain ⟨⟨y45, y46, y47⟩, hy48, hm⟩ := bind_some hm
    refine r_callf Try.call7 (fx_Convert_ok y19 A21 y19.length c23 rfl (((H42).g1).cap) (fun _ H => (H.g1.rd)) v35 y45 y46 y47 H42 hy48) ?_
    rintro e54 wd53 ⟨A49, n50, c51, rfl, H52⟩
    obtain rfl := (H52.g0).leneq
    refine ⟨_, rfl, ?_⟩
    refine r_pure (.tuple #[.slice A49 y45.length c51, .int .i64 y46, .int .i64 y47]) rfl ?_
    refine r_pure (.slice A49 y45.length c51) rfl ?_
    refine r_pure (.int .i64 y46) rfl ?_
    refine r_pure (.int .i64 y47) rfl ?_
    refine r_pure (.slice A49 y45.length c51) rfl ?_
    refine r_pure (.int .i64 y46) rfl ?_
    refine r_pure (.int .i64 y47) rfl ?_
    refine r_seq ?_
    refine st_seq ?_
    refine st_region ?_
    refine r_pure (.slice A21 y19.length c23) rfl ?_
    refine r_pure (.int .i64 v35) rfl ?_
    obtain ⟨⟨y55, y56, y57⟩, hy58, hm⟩ := bind_some hm
    refine r_callf Try.call12 (scutageref19_Convert_ok y19 A21 y19.length c23 rfl (((H52).g2).cap) (fun _ H => (H.g2.rd)) v35 y55 y56 y57 H52 hy58) ?_
    rintro e64 wd63 ⟨A59, n60, c61, rfl, H62⟩
    obtain rfl := (H62.g0).leneq
    refine ⟨_, rfl, ?_⟩
    refine r_pure (.tuple #[.slice A59 y55.length c61, .int .i64 y56, .int .i64 y57]) rfl ?_
    refine r_pure (.slice A59 y55.length c61) rfl ?_
    refine r_pure (.int .i64 y56) rfl ?_
    refine r_pure (.int .i64 y57) rfl ?_
    refine r_pure (.slice A59 y55.length c61) rfl ?_
    refine r_pure (.int .i64 y56) rfl ?_
    refine r_pure (.int .i64 y57) rfl ?_
    refine r_seq ?_
    refine st_seq ?_
    refine st_cut (fun ρ w => ∃ q65 : Bool, (∃ base, ρ = updl base [(11, .slice A21 y19.length c23), (12, .slice A29 y27.length c31), (68, .bool q65)]) ∧ Hp w0 (Row K24 (.slice A21 y19.length c23) y19 :: Row K24 (.slice A29 y27.length c31) y27 :: Γ) w ∧ scutagelaw25_FxTells.j2 y19 y27 q65 = some r0_) ?_ ?_
    · refine st_region ?_
      refine r_pure (.slice A49 y45.length c51) rfl ?_
      refine r_pure (.slice A59 y55.length c61) rfl ?_
      obtain ⟨y153, hy154, hm⟩ := bind_some hm
      refine r_callf Try.call13 (scutagekeep_Same_api_Item_ok y45 A49 y45.length c51 rfl (((H62).g1).cap) (fun _ H => (H.g1.rd)) y55 A59 y55.length c61 rfl (((H62).g0).cap) (fun _ H => (H.g0.rd)) y153 H62 hy154) ?_
      rintro e157 wd156 ⟨rfl, H155⟩
      refine ⟨_, rfl, ?_⟩
      refine r_pure (.bool (!y153)) rfl ?_
      refine r_pure (.bool (!y153)) rfl ?_
      rcases ite_some hm with ⟨hb158, hm⟩ | ⟨hb158, hm⟩
      · refine r_not (wn_f rfl rfl (by decide) rfl hb158) ?_
        refine r_not (wn_f rfl rfl (by decide) rfl hb158) ?_
        refine r_not (wn_f rfl rfl (by decide) rfl hb158) ?_
        refine r_pick_t (.bool true) hb158 rfl rfl ?_
        refine r_pure (.bool true) rfl ?_
        refine r_not (wn_f rfl rfl (by decide) rfl rfl) ?_
        refine r_not (wn_f rfl rfl (by decide) rfl rfl) ?_
        refine r_not (wn_f rfl rfl (by decide) rfl rfl) ?_
        refine r_pick_t (.bool true) rfl rfl rfl ?_
        refine r_pure (.bool true) rfl ?_
        refine r_not (wn_f rfl rfl (by decide) rfl rfl) ?_
        refine r_not (wn_f rfl rfl (by decide) rfl rfl) ?_
        refine r_not (wn_f rfl rfl (by decide) rfl rfl) ?_
        refine r_not (wn_f rfl rfl (by decide) rfl rfl) ?_
        refine r_pick_t (.bool true) rfl rfl rfl ?_
        refine r_nil ?_
        refine n_cut ⟨true, upk (ac rfl (ac rfl (ac rfl an))), H155.d.d.d.u1.u1, hm⟩
      · refine r_pure (.int .i64 y46) rfl ?_ (wn_t rfl rfl (by decide) rfl hb158)
        refine r_pure (.int .i64 y56) rfl ?_ (wn_t rfl rfl (by decide) rfl hb158)
        refine r_pure (.bool (y46 != y56)) rfl ?_ (wn_t rfl rfl (by decide) rfl hb158)
        refine r_pick_f (.bool (y46 != y56)) hb158 rfl rfl ?_
        refine r_pure (.bool (y46 != y56)) rfl ?_
        rcases ite_some hm with ⟨hb159, hm⟩ | ⟨hb159, hm⟩
        · refine r_not (wn_f rfl rfl (by decide) rfl hb159) ?_
          refine r_not (wn_f rfl rfl (by decide) rfl hb159) ?_
          refine r_not (wn_f rfl rfl (by decide) rfl hb159) ?_
          refine r_pick_t (.bool true) hb159 rfl rfl ?_
          refine r_pure (.bool true) rfl ?_
          refine r_not (wn_f rfl rfl (by decide) rfl rfl) ?_
          refine r_not (wn_f rfl rfl (by decide) rfl rfl) ?_
          refine r_not (wn_f rfl rfl (by decide) rfl rfl) ?_
          refine r_not (wn_f rfl rfl (by decide) rfl rfl) ?_
          refine r_pick_t (.bool true) rfl rfl rfl ?_
          refine r_nil ?_
          refine n_cut ⟨true, upk (ac rfl (ac rfl (ac rfl an))), H155.d.d.d.u1.u1, hm⟩
        · refine r_pure (.int .i64 y47) rfl ?_ (wn_t rfl rfl (by decide) rfl hb159)
          refine r_pure (.int .i64 y57) rfl ?_ (wn_t rfl rfl (by decide) rfl hb159)
          refine r_pure (.bool (y47 != y57)) rfl ?_ (wn_t rfl rfl (by decide) rfl hb159)
          refine r_pick_f (.bool (y47 != y57)) hb159 rfl rfl ?_
          refine r_pure (.bool (y47 != y57)) rfl ?_
          rcases ite_some hm with ⟨hb160, hm⟩ | ⟨hb160, hm⟩
          · refine r_not (wn_f rfl rfl (by decide) rfl hb160) ?_
            refine r_not (wn_f rfl rfl (by decide) rfl hb160) ?_
            refine r_not (wn_f rfl rfl (by decide) rfl hb160) ?_
            refine r_not (wn_f rfl rfl (by decide) rfl hb160) ?_
            refine r_pick_t (.bool true) hb160 rfl rfl ?_
            refine r_nil ?_
            refine n_cut ⟨true, upk (ac rfl (ac rfl (ac rfl an))), H155.d.d.d.u1.u1, hm⟩
          · refine r_pure (.slice A21 y19.length c23) rfl ?_ (wn_t rfl rfl (by decide) rfl hb160)
            refine r_pure (.slice A39 y37.length c41) rfl ?_ (wn_t rfl rfl (by decide) rfl hb160)
            obtain ⟨y161, hy162, hm⟩ := bind_some hm
            refine r_callf Try.call13 (scutagekeep_Same_api_Item_ok y19 A21 y19.length c23 rfl (((H155).g3).cap) (fun _ H => (H.g3.rd)) y37 A39 y37.length c41 rfl (((H155).g2).cap) (fun _ H => (H.g2.rd)) y161 H155 hy162) ?_ (wn_t rfl rfl (by decide) rfl hb160)
            rintro e165 wd164 ⟨rfl, H163⟩
            refine ⟨_, rfl, ?_⟩
            refine r_pure (.bool (!y161)) rfl ?_ (wn_t rfl rfl (by decide) rfl hb160)
            refine r_pick_f (.bool (!y161)) hb160 rfl rfl ?_
            refine r_nil ?_
            refine n_cut ⟨!y161, upk (ac rfl (ac rfl (ac rfl an))), H163.d.d.d.u1.u1, hm⟩
    · rintro ρ w ⟨q65, ⟨base, rfl⟩, H66, hm⟩
      unfold scutagelaw25_FxTells.j2 at hm
      rcases ite_some hm with ⟨hb67, hm⟩ | ⟨hb67, hm⟩
      · refine st_condt hb67 rfl ?_
        refine st_seq ?_
        refine st_region ?_
        refine r_pure (.bool false) rfl ?_
        refine r_seq ?_
        have hq_ := Option.some.inj hm
        subst hq_
        refine st_ret1 rfl rfl (Nat.le_of_ble_eq_true rfl) rfl ?_
        exact ⟨rfl, H66.d.d⟩
      · refine st_condf hb67 rfl ?_
        refine st_skip ?_
        refine n_sq ?_
        refine st_seq ?_
        refine st_seq ?_
        refine st_region ?_
        refine r_pure (.slice A21 y19.length c23) rfl ?_
        refine r_len Try.underlying25 rfl ?_
        refine r_pure (.int .i64 0) rfl ?_
        refine r_seq ?_
        refine st_block ?_
        have hlim89 := (H66.g0.rd).lim
        obtain ⟨tl72, hl73, hm71⟩ := bind_some hm
        refine st_loopL (scutagelaw25_FxTells.l1) (fun ys78 s ρ w => ∃ i74 : Int, ∃ xs69 : List api_Item, ∃ dn75 : List api_Item, (i74, xs69) = s ∧ y19 = dn75 ++ ys78 ∧ i74 = (dn75.length : Int) ∧ (∃ base, ρ = updl base [(11, .slice A21 y19.length c23), (12, .slice A29 y27.length c31), (70, .int .i64 (y19.length : Int)), (71, .int .i64 i74)]) ∧ Hp w0 (Row K24 (.slice A21 y19.length c23) xs69 :: Row K24 (.slice A29 y27.length c31) y27 :: Γ) w) hl73 ⟨0, y19, [], rfl, rfl, rfl, upk (ac rfl (ac rfl (ac rfl (ac rfl an)))), H66.u1.u1⟩ ?_
        rintro m ys78 IH82 s ρ w ⟨i74, xs69, dn75, rfl, hxs76, hi77, ⟨base, rfl⟩, H70⟩ hm
        rcases ys78 with _ | ⟨y79, ys78⟩
        · rw [scutagelaw25_FxTells.l1] at hm
          have hb83 := range_end hxs76 hi77
          refine st_seq ?_
          refine st_region ?_
          refine r_pure (.bool (decide (i74 < (y19.length : Int)))) rfl ?_
          refine r_seq ?_
          refine st_seq ?_
          refine st_condf hb83 rfl ?_
          have hq_ := Option.some.inj hm
          refine st_exit rfl ?_
          subst hq_
          refine n_sq ?_
          refine st_seq ?_
          refine st_seq ?_
          refine st_region ?_
          refine r_pure (.slice A29 y27.length c31) rfl ?_
          refine r_len Try.underlying25 rfl ?_
          refine r_pure (.int .i64 0) rfl ?_
          refine r_seq ?_
          refine st_block ?_
          have hlim111 := (H70.g1.rd).lim
          obtain ⟨tl94, hl95, hm93⟩ := bind_some hm71
          refine st_loopL (scutagelaw25_FxTells.l2) (fun ys100 s ρ w => ∃ i96 : Int, ∃ xs91 : List api_Item, ∃ dn97 : List api_Item, (i96, xs91) = s ∧ y27 = dn97 ++ ys100 ∧ i96 = (dn97.length : Int) ∧ (∃ base, ρ = updl base [(11, .slice A21 y19.length c23), (12, .slice A29 y27.length c31), (84, .int .i64 (y27.length : Int)), (85, .int .i64 i96)]) ∧ Hp w0 (Row K24 (.slice A21 y19.length c23) xs69 :: Row K24 (.slice A29 y27.length c31) xs91 :: Γ) w) hl95 ⟨0, y27, [], rfl, rfl, rfl, upk (ac rfl (ac rfl (ac rfl (ac rfl an)))), H70.u1.u1⟩ ?_
          rintro m ys100 IH104 s ρ w ⟨i96, xs91, dn97, rfl, hxs98, hi99, ⟨base, rfl⟩, H92⟩ hm
          rcases ys100 with _ | ⟨y101, ys100⟩
          · rw [scutagelaw25_FxTells.l2] at hm
            have hb105 := range_end hxs98 hi99
            refine st_seq ?_
            refine st_region ?_
            refine r_pure (.bool (decide (i96 < (y27.length : Int)))) rfl ?_
            refine r_seq ?_
            refine st_seq ?_
            refine st_condf hb105 rfl ?_
            have hq_ := Option.some.inj hm
            refine st_exit rfl ?_
            subst hq_
            refine n_sq ?_
            refine st_cut (fun ρ w => ∃ q112 : Bool, (∃ base, ρ = updl base [(10, .bool q112)]) ∧ Hp w0 (Γ) w ∧ scutagelaw25_FxTells.j3 q112 = some r0_) ?_ ?_
            · refine st_region ?_
              refine r_pure (.slice A21 y19.length c23) rfl ?_
              refine r_pure (.slice A29 y27.length c31) rfl ?_
              obtain ⟨y114, hy115, hm⟩ := bind_some hm93
              refine r_callf Try.call8 (fx_Add_ok xs69 A21 y19.length c23 (((H92).g0).leneq) (((H92).g0).cap) (fun _ H => (H.g0.rd)) xs91 A29 y27.length c31 (((H92).g1).leneq) (((H92).g1).cap) (fun _ H => (H.g1.rd)) y114 H92 hy115) ?_
              rintro e121 wd120 ⟨A116, n117, c118, rfl, H119⟩
              obtain rfl := (H119.g0).leneq
              refine ⟨_, rfl, ?_⟩
              refine r_pure (.slice A21 y19.length c23) rfl ?_
              refine r_pure (.slice A29 y27.length c31) rfl ?_
              obtain ⟨y122, hy123, hm⟩ := bind_some hm
              refine r_callf Try.call14 (scutageref19_AddItems_ok xs69 A21 y19.length c23 (((H119).g1).leneq) (((H119).g1).cap) (fun _ H => (H.g1.rd)) xs91 A29 y27.length c31 (((H119).g2).leneq) (((H119).g2).cap) (fun _ H => (H.g2.rd)) y122 H119 hy123) ?_
              rintro e129 wd128 ⟨A124, n125, c126, rfl, H127⟩
              obtain rfl := (H127.g0).leneq
              refine ⟨_, rfl, ?_⟩
              obtain ⟨y130, hy131, hm⟩ := bind_some hm
              refine r_callf Try.call13 (scutagekeep_Same_api_Item_ok y114 A116 y114.length c118 rfl (((H127).g1).cap) (fun _ H => (H.g1.rd)) y122 A124 y122.length c126 rfl (((H127).g0).cap) (fun _ H => (H.g0.rd)) y130 H127 hy131) ?_
              rintro e134 wd133 ⟨rfl, H132⟩
              refine ⟨_, rfl, ?_⟩
              refine r_pure (.bool y130) rfl ?_
              rcases ite_some hm with ⟨hb135, hm⟩ | ⟨hb135, hm⟩
              · obtain ⟨y136, hy137, hm⟩ := bind_some hm
                refine r_callf Try.call9 (scutagelaw25_wakes_ok  y136 H132 hy137) ?_ (wn_t rfl rfl (by decide) rfl hb135)
                rintro e140 wd139 ⟨rfl, H138⟩
                refine ⟨_, rfl, ?_⟩
                refine r_pick_t (.bool y136) hb135 rfl rfl ?_
                refine r_pure (.bool y136) rfl ?_
                refine r_nil ?_
                refine n_cut ⟨y136, upk (ac rfl an), H138.d.d.d.d, hm⟩
              · refine r_not (wn_f rfl rfl (by decide) rfl hb135) ?_
                refine r_pick_f (.bool false) hb135 rfl rfl ?_
                refine r_pure (.bool false) rfl ?_
                refine r_nil ?_
                refine n_cut ⟨false, upk (ac rfl an), H132.d.d.d.d, hm⟩
            · rintro ρ w ⟨q112, ⟨base, rfl⟩, H113, hm⟩
              unfold scutagelaw25_FxTells.j3 at hm
              have hq_ := Option.some.inj hm
              subst hq_
              refine st_ret1 rfl rfl (Nat.le_of_ble_eq_true rfl) rfl ?_
              exact ⟨rfl, H113⟩
          · rw [scutagelaw25_FxTells.l2] at hm
            have hb106 := range_in hxs98 hi99
            obtain ⟨h0107, h1108, hj109⟩ := range_ix hxs98 hi99
            have hnx110 := range_next hxs98 hi99 hlim111
            refine st_seq ?_
            refine st_region ?_
            refine r_pure (.bool (decide (i96 < (y27.length : Int)))) rfl ?_
            refine r_seq ?_
            refine st_seq ?_
            refine st_condt hb106 rfl ?_
            refine st_skip ?_
            refine n_sq ?_
            refine st_seq ?_
            refine st_block ?_
            refine st_seq ?_
            refine st_region ?_
            refine r_pure (.int .i64 i96) rfl ?_
            refine r_pure (.int .i64 i96) rfl ?_
            refine r_seq ?_
            refine st_region ?_
            refine r_pure (.slice A29 y27.length c31) rfl ?_
            refine r_pure (.int .i64 i96) rfl ?_
            obtain ⟨⟨h0141, h1142⟩, hm⟩ := gd_some hm
            have hj143 := rd_get h0141 h1142
            have hA144 := (H92.g1.rd).adO hj143
            refine r_ix IX25 rfl rfl hA144 h0141 (by have h1_ := (H92.g1).leneq; have h2_ := h1142; rw [← h1_] at h2_; exact h2_) ?_
            refine r_fa FA24_1 (((oA A29).add (Int.toNat i96 * 2)).add 1) rfl rfl ?_
            refine r_ld1 (.int .i64 ((rd xs91 i96).Amount)) LD3 rfl ((H92.g1.rd).cA hA144 hj143 1 _ rfl) ?_
            refine r_rem (by decide) rfl rfl ?_
            refine r_ix IX25 rfl rfl hA144 h0141 (by have h1_ := (H92.g1).leneq; have h2_ := h1142; rw [← h1_] at h2_; exact h2_) ?_
            refine r_fa FA24_1 (((oA A29).add (Int.toNat i96 * 2)).add 1) rfl rfl ?_
            refine r_stx1 (K := K24) ((⟨(rd xs91 i96).Kind, Int.tmod ((rd xs91 i96).Amount) 1000000⟩ : api_Item)) hA144 LD3 rfl rfl rfl H92.u1 hj143 (by decide) rfl ?_
            intro wd146 H145
            refine r_nil ?_
            refine n_bl ?_
            refine n_sq ?_
            refine st_region ?_
            refine r_pure (.int .i64 (w64 (i96 + 1))) rfl ?_
            refine r_pure (.int .i64 (w64 (i96 + 1))) rfl ?_
            refine r_nil ?_
            refine n_round (IH104 _ _ rfl _ _ _ ⟨i96 + 1, xs91.set (Int.toNat i96) (⟨(rd xs91 i96).Kind, Int.tmod ((rd xs91 i96).Amount) 1000000⟩ : api_Item), dn97 ++ [y101], rfl, range_more hxs98, range_len hi99, upk (ac rfl (ac rfl (ac rfl (ac hnx110 an)))), H145.u1⟩ hm)
        · rw [scutagelaw25_FxTells.l1] at hm
          have hb84 := range_in hxs76 hi77
          obtain ⟨h085, h186, hj87⟩ := range_ix hxs76 hi77
          have hnx88 := range_next hxs76 hi77 hlim89
          refine st_seq ?_
          refine st_region ?_
          refine r_pure (.bool (decide (i74 < (y19.length : Int)))) rfl ?_
          refine r_seq ?_
          refine st_seq ?_
          refine st_condt hb84 rfl ?_
          refine st_skip ?_
          refine n_sq ?_
          refine st_seq ?_
          refine st_block ?_
          refine st_seq ?_
          refine st_region ?_
          refine r_pure (.int .i64 i74) rfl ?_
          refine r_pure (.int .i64 i74) rfl ?_
          refine r_seq ?_
          refine st_region ?_
          refine r_pure (.slice A21 y19.length c23) rfl ?_
          refine r_pure (.int .i64 i74) rfl ?_
          obtain ⟨⟨h0147, h1148⟩, hm⟩ := gd_some hm
          have hj149 := rd_get h0147 h1148
          have hA150 := (H70.g0.rd).adO hj149
          refine r_ix IX25 rfl rfl hA150 h0147 (by have h1_ := (H70.g0).leneq; have h2_ := h1148; rw [← h1_] at h2_; exact h2_) ?_
          refine r_fa FA24_1 (((oA A21).add (Int.toNat i74 * 2)).add 1) rfl rfl ?_
          refine r_ld1 (.int .i64 ((rd xs69 i74).Amount)) LD3 rfl ((H70.g0.rd).cA hA150 hj149 1 _ rfl) ?_
          refine r_rem (by decide) rfl rfl ?_
          refine r_ix IX25 rfl rfl hA150 h0147 (by have h1_ := (H70.g0).leneq; have h2_ := h1148; rw [← h1_] at h2_; exact h2_) ?_
          refine r_fa FA24_1 (((oA A21).add (Int.toNat i74 * 2)).add 1) rfl rfl ?_
          refine r_stx1 (K := K24) ((⟨(rd xs69 i74).Kind, Int.tmod ((rd xs69 i74).Amount) 1000000⟩ : api_Item)) hA150 LD3 rfl rfl rfl H70 hj149 (by decide) rfl ?_
          intro wd152 H151
          refine r_nil ?_
          refine n_bl ?_
          refine n_sq ?_
          refine st_region ?_
          refine r_pure (.int .i64 (w64 (i74 + 1))) rfl ?_
          refine r_pure (.int .i64 (w64 (i74 + 1))) rfl ?_
          refine r_nil ?_
          refine n_round (IH82 _ _ rfl _ _ _ ⟨i74 + 1, xs69.set (Int.toNat i74) (⟨(rd xs69 i74).Kind, Int.tmod ((rd xs69 i74).Amount) 1000000⟩ : api_Item), dn75 ++ [y79], rfl, range_more hxs76, range_len hi77, upk (ac rfl (ac rfl (ac rfl (ac hnx88 an)))), H151.u1.u1⟩ hm)


end Go.Proofs.Ytfoefkihcnenaaa
