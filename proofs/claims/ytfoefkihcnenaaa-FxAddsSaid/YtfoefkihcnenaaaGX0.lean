/- The Go functions come to their models: printed by gen.py. -/
import Derived.Test.YtfoefkihcnenaaaGT
set_option linter.unusedVariables false
set_option linter.unusedSimpArgs false
set_option maxRecDepth 100000
namespace Go.Proofs.Ytfoefkihcnenaaa
open Go Go.RowKit
attribute [local irreducible] W R N L Hp Row SlR Bx

set_option maxHeartbeats 2000000 in
theorem scutagekeep_Within_ok {w0 w : World} {Γ : List (World → Prop)} (v_ : Int) (n_ : Int) (r0_ : Int) (H : Hp w0 (Γ) w) (hm : scutagekeep_Within v_ n_ = some r0_) : Calls Try.prog 6 #[.int .i64 v_, .int .i64 n_] w (fun e w => e = .returned (.int .i64 r0_) ∧ Hp w0 (Γ) w) := by
  unfold scutagekeep_Within at hm
  refine st_enter Try.func6 rfl Try.ntmps6 (Nat.le_of_ble_eq_true rfl) ?_
  refine st_seq ?_
  refine st_region ?_
  refine r_pure (.int .i64 0) rfl ?_
  refine r_seq ?_
  refine st_seq ?_
  refine st_seq ?_
  refine st_region ?_
  refine r_pure (.int .i64 n_) rfl ?_
  refine r_pure (.bool (decide (n_ < 1))) rfl ?_
  refine r_seq ?_
  rcases ite_some hm with ⟨hb1, hm⟩ | ⟨hb1, hm⟩
  · refine st_condt hb1 rfl ?_
    refine st_seq ?_
    refine st_region ?_
    refine r_pure (.int .i64 0) rfl ?_
    refine r_seq ?_
    have hq_ := Option.some.inj hm
    subst hq_
    refine st_ret1 rfl rfl (Nat.le_of_ble_eq_true rfl) rfl ?_
    exact ⟨rfl, H⟩
  · refine st_condf hb1 rfl ?_
    refine st_skip ?_
    refine n_sq ?_
    refine st_seq ?_
    refine st_region ?_
    refine r_pure (.int .i64 v_) rfl ?_
    refine r_pure (.int .i64 n_) rfl ?_
    obtain ⟨h2, hm⟩ := gd_some hm
    refine r_rem h2 rfl rfl ?_
    refine r_pure (.int .i64 (Int.tmod v_ n_)) rfl ?_
    refine r_seq ?_
    refine st_cut (fun ρ w => ∃ v3 : Int, (∃ base, ρ = updl base [(5, .int .i64 v3)]) ∧ Hp w0 (Γ) w ∧ scutagekeep_Within.j1 v3 = some r0_) ?_ ?_
    · refine st_seq ?_
      refine st_region ?_
      refine r_pure (.int .i64 (Int.tmod v_ n_)) rfl ?_
      refine r_pure (.bool (decide (Int.tmod v_ n_ < 0))) rfl ?_
      refine r_seq ?_
      rcases ite_some hm with ⟨hb5, hm⟩ | ⟨hb5, hm⟩
      · refine st_condt hb5 rfl ?_
        refine st_region ?_
        refine r_pure (.int .i64 (Int.tmod v_ n_)) rfl ?_
        refine r_pure (.int .i64 n_) rfl ?_
        refine r_pure (.int .i64 (w64 (Int.tmod v_ n_ + n_))) rfl ?_
        refine r_pure (.int .i64 (w64 (Int.tmod v_ n_ + n_))) rfl ?_
        refine r_nil ?_
        refine n_cut ⟨w64 (Int.tmod v_ n_ + n_), upk (ac rfl an), H, hm⟩
      · refine st_condf hb5 rfl ?_
        refine st_skip ?_
        refine n_cut ⟨Int.tmod v_ n_, upk (ac rfl an), H, hm⟩
    · rintro ρ w ⟨v3, ⟨base, rfl⟩, H4, hm⟩
      unfold scutagekeep_Within.j1 at hm
      refine st_seq ?_
      refine st_region ?_
      refine r_pure (.int .i64 v3) rfl ?_
      refine r_pure (.int .i64 v3) rfl ?_
      refine r_seq ?_
      have hq_ := Option.some.inj hm
      subst hq_
      refine st_ret1 rfl rfl (Nat.le_of_ble_eq_true rfl) rfl ?_
      exact ⟨rfl, H4⟩

set_option maxHeartbeats 2000000 in
theorem scutageplay_Amount_ok {w0 w : World} {Γ : List (World → Prop)} (n_ : Int) (r0_ : Int) (H : Hp w0 (Γ) w) (hm : scutageplay_Amount n_ = some r0_) : Calls Try.prog 23 #[.int .i64 n_] w (fun e w => e = .returned (.int .i64 r0_) ∧ Hp w0 (Γ) w) := by
  unfold scutageplay_Amount at hm
  refine st_enter Try.func23 rfl Try.ntmps23 (Nat.le_of_ble_eq_true rfl) ?_
  refine st_seq ?_
  refine st_region ?_
  refine r_pure (.int .i64 0) rfl ?_
  refine r_seq ?_
  refine st_seq ?_
  refine st_seq ?_
  refine st_region ?_
  refine r_pure (.int .i64 n_) rfl ?_
  refine r_rem (by decide) rfl rfl ?_
  refine r_seq ?_
  refine st_block ?_
  refine st_seq ?_
  refine st_region ?_
  refine r_pure (.bool (Int.tmod n_ 23 == 20)) rfl ?_
  refine r_pure (.bool (Int.tmod n_ 23 == 20)) rfl ?_
  refine r_seq ?_
  rcases ite_some hm with ⟨hb1, hm⟩ | ⟨hb1, hm⟩
  · refine st_condt hb1 rfl ?_
    refine st_seq ?_
    refine st_region ?_
    refine r_pure (.int .i64 n_) rfl ?_
    refine r_quo (by decide) rfl rfl ?_
    obtain ⟨y2, hy3, hm⟩ := bind_some hm
    refine r_callf Try.call6 (scutagekeep_Within_ok (w64 (Int.tdiv n_ 23)) 5 y2 H hy3) ?_
    rintro e5 wd4 ⟨rfl, H7⟩
    refine ⟨_, rfl, ?_⟩
    refine r_pure (.int .i64 (w64 (100000000000 - y2))) rfl ?_
    refine r_pure (.int .i64 (w64 (w64 (100000000000 - y2) + 2))) rfl ?_
    refine r_pure (.int .i64 (w64 (w64 (100000000000 - y2) + 2))) rfl ?_
    refine r_seq ?_
    have hq_ := Option.some.inj hm
    subst hq_
    refine st_ret1 rfl rfl (Nat.le_of_ble_eq_true rfl) rfl ?_
    exact ⟨rfl, H7⟩
  · refine st_condf hb1 rfl ?_
    refine st_seq ?_
    refine st_region ?_
    refine r_pure (.bool (Int.tmod n_ 23 == 21)) rfl ?_
    refine r_pure (.bool (Int.tmod n_ 23 == 21)) rfl ?_
    refine r_seq ?_
    rcases ite_some hm with ⟨hb8, hm⟩ | ⟨hb8, hm⟩
    · refine st_condt hb8 rfl ?_
      refine st_seq ?_
      refine st_region ?_
      refine r_pure (.int .i64 n_) rfl ?_
      refine r_quo (by decide) rfl rfl ?_
      obtain ⟨y9, hy10, hm⟩ := bind_some hm
      refine r_callf Try.call6 (scutagekeep_Within_ok (w64 (Int.tdiv n_ 23)) 5 y9 H hy10) ?_
      rintro e12 wd11 ⟨rfl, H14⟩
      refine ⟨_, rfl, ?_⟩
      refine r_pure (.int .i64 (w64 ((-100000000000) + y9))) rfl ?_
      refine r_pure (.int .i64 (w64 (w64 ((-100000000000) + y9) - 2))) rfl ?_
      refine r_pure (.int .i64 (w64 (w64 ((-100000000000) + y9) - 2))) rfl ?_
      refine r_seq ?_
      have hq_ := Option.some.inj hm
      subst hq_
      refine st_ret1 rfl rfl (Nat.le_of_ble_eq_true rfl) rfl ?_
      exact ⟨rfl, H14⟩
    · refine st_condf hb8 rfl ?_
      refine st_seq ?_
      refine st_region ?_
      refine r_pure (.bool (Int.tmod n_ 23 == 22)) rfl ?_
      refine r_pure (.bool (Int.tmod n_ 23 == 22)) rfl ?_
      refine r_seq ?_
      rcases ite_some hm with ⟨hb15, hm⟩ | ⟨hb15, hm⟩
      · refine st_condt hb15 rfl ?_
        refine st_seq ?_
        refine st_region ?_
        refine r_pure (.int .i64 n_) rfl ?_
        refine r_pure (.int .i64 n_) rfl ?_
        refine r_seq ?_
        have hq_ := Option.some.inj hm
        subst hq_
        refine st_ret1 rfl rfl (Nat.le_of_ble_eq_true rfl) rfl ?_
        exact ⟨rfl, H⟩
      · refine st_condf hb15 rfl ?_
        refine st_seq ?_
        refine st_region ?_
        refine r_pure (.bool (Int.tmod n_ 23 == 19)) rfl ?_
        refine r_pure (.bool (Int.tmod n_ 23 == 19)) rfl ?_
        refine r_seq ?_
        rcases ite_some hm with ⟨hb16, hm⟩ | ⟨hb16, hm⟩
        · refine st_condt hb16 rfl ?_
          refine st_seq ?_
          refine st_region ?_
          refine r_pure (.int .i64 n_) rfl ?_
          refine r_quo (by decide) rfl rfl ?_
          obtain ⟨y17, hy18, hm⟩ := bind_some hm
          refine r_callf Try.call6 (scutagekeep_Within_ok (w64 (Int.tdiv n_ 23)) 200000000001 y17 H hy18) ?_
          rintro e20 wd19 ⟨rfl, H22⟩
          refine ⟨_, rfl, ?_⟩
          refine r_pure (.int .i64 (w64 (y17 - 100000000000))) rfl ?_
          refine r_pure (.int .i64 (w64 (y17 - 100000000000))) rfl ?_
          refine r_seq ?_
          have hq_ := Option.some.inj hm
          subst hq_
          refine st_ret1 rfl rfl (Nat.le_of_ble_eq_true rfl) rfl ?_
          exact ⟨rfl, H22⟩
        · refine st_condf hb16 rfl ?_
          refine st_skip ?_
          refine n_bl ?_
          refine n_sq ?_
          refine st_seq ?_
          refine st_region ?_
          refine r_pure (.int .i64 n_) rfl ?_
          obtain ⟨y23, hy24, hm⟩ := bind_some hm
          refine r_callf Try.call6 (scutagekeep_Within_ok n_ 4001 y23 H hy24) ?_
          rintro e26 wd25 ⟨rfl, H28⟩
          refine ⟨_, rfl, ?_⟩
          refine r_pure (.int .i64 (w64 (y23 - 2000))) rfl ?_
          refine r_pure (.int .i64 (w64 (y23 - 2000))) rfl ?_
          refine r_seq ?_
          have hq_ := Option.some.inj hm
          subst hq_
          refine st_ret1 rfl rfl (Nat.le_of_ble_eq_true rfl) rfl ?_
          exact ⟨rfl, H28⟩

set_option maxHeartbeats 2000000 in
theorem scutagelaw25_items_ok {w0 w : World} {Γ : List (World → Prop)} (kinds : List Int) (A1 : Option Addr) (n6 c2 : Nat) (hn5 : n6 = kinds.length) (hc3 : kinds.length ≤ c2) (hv4 : ∀ u, Hp w0 Γ u → SlR K3 A1 kinds u) (amounts : List Int) (A7 : Option Addr) (n12 c8 : Nat) (hn11 : n12 = amounts.length) (hc9 : amounts.length ≤ c8) (hv10 : ∀ u, Hp w0 Γ u → SlR K3 A7 amounts u) (most : Int) (r0_ : List api_Item) (H : Hp w0 (Γ) w) (hm : scutagelaw25_items kinds amounts most = some r0_) : Calls Try.prog 10 #[.slice A1 n6 c2, .slice A7 n12 c8, .int .i64 most] w (fun e w => ∃ (Ax1 : Option Addr) (nx2 cx3 : Nat), e = .returned (.slice Ax1 nx2 cx3) ∧ Hp w0 (Row K24 (.slice Ax1 nx2 cx3) r0_ :: Γ) w) := by
  subst hn5
  subst hn11
  unfold scutagelaw25_items at hm
  refine st_enter Try.func10 rfl Try.ntmps10 (Nat.le_of_ble_eq_true rfl) ?_
  refine st_seq ?_
  refine st_region ?_
  refine r_pure (.slice none 0 0) rfl ?_
  refine r_seq ?_
  refine st_seq ?_
  refine st_region ?_
  refine r_pure (.slice none 0 0) rfl ?_
  refine r_seq ?_
  refine st_seq ?_
  refine st_seq ?_
  refine st_region ?_
  refine r_pure (.int .i64 0) rfl ?_
  refine r_seq ?_
  refine st_block ?_
  have H19 := H.add (A := Row K24 (.slice none 0 0) []) Row.nil
  obtain ⟨tl27, hl28, hm26⟩ := bind_some hm
  refine st_loopF (scutagelaw25_items.l1 kinds amounts most) (fun s ρ w => ∃ xs23 : List api_Item, ∃ v24 : Int, ∃ A20 : Option Addr, ∃ n21 : Nat, ∃ c22 : Nat, (xs23, v24) = s ∧ (∃ base, ρ = updl base [(0, .slice A1 kinds.length c2), (1, .slice A7 amounts.length c8), (2, .int .i64 most), (7, .slice A20 n21 c22), (8, .int .i64 v24)]) ∧ Hp w0 (Row K24 (.slice A20 n21 c22) xs23 :: Γ) w) hl28 (fun _ => rfl) ⟨([] : List api_Item), 0, none, 0, 0, rfl, upk (ac rfl (ac rfl (ac rfl (ac rfl (ac rfl an))))), H19⟩ ?_
  rintro fuel34 IH36 s ρ w ⟨xs23, v24, A20, n21, c22, rfl, ⟨base, rfl⟩, H25⟩ hm
  obtain rfl := (H25.g0).leneq
  rw [scutagelaw25_items.l1] at hm
  refine st_seq ?_
  refine st_cut (fun ρ w => ∃ q37 : Bool, (∃ base, ρ = updl base [(0, .slice A1 kinds.length c2), (1, .slice A7 amounts.length c8), (2, .int .i64 most), (7, .slice A20 xs23.length c22), (8, .int .i64 v24), (23, .bool q37)]) ∧ Hp w0 (Row K24 (.slice A20 xs23.length c22) xs23 :: Γ) w ∧ scutagelaw25_items.j1 v24 kinds amounts xs23 (scutagelaw25_items.l1 kinds amounts most fuel34) q37 = some tl27) ?_ ?_
  · refine st_region ?_
    refine r_pure (.int .i64 v24) rfl ?_
    refine r_pure (.slice A1 kinds.length c2) rfl ?_
    refine r_len Try.underlying34 rfl ?_
    refine r_pure (.bool (decide (v24 < (kinds.length : Int)))) rfl ?_
    refine r_pure (.bool (decide (v24 < (kinds.length : Int)))) rfl ?_
    rcases ite_some hm with ⟨hb178, hm⟩ | ⟨hb178, hm⟩
    · refine r_pure (.int .i64 v24) rfl ?_ (wn_t rfl rfl (by decide) rfl hb178)
      refine r_pure (.slice A7 amounts.length c8) rfl ?_ (wn_t rfl rfl (by decide) rfl hb178)
      refine r_len Try.underlying34 rfl ?_ (wn_t rfl rfl (by decide) rfl hb178)
      refine r_pure (.bool (decide (v24 < (amounts.length : Int)))) rfl ?_ (wn_t rfl rfl (by decide) rfl hb178)
      refine r_pick_t (.bool (decide (v24 < (amounts.length : Int)))) hb178 rfl rfl ?_
      refine r_pure (.bool (decide (v24 < (amounts.length : Int)))) rfl ?_
      rcases ite_some hm with ⟨hb179, hm⟩ | ⟨hb179, hm⟩
      · refine r_pure (.int .i64 v24) rfl ?_ (wn_t rfl rfl (by decide) rfl hb179)
        refine r_pure (.int .i64 most) rfl ?_ (wn_t rfl rfl (by decide) rfl hb179)
        refine r_pure (.bool (decide (v24 < most))) rfl ?_ (wn_t rfl rfl (by decide) rfl hb179)
        refine r_pick_t (.bool (decide (v24 < most))) hb179 rfl rfl ?_
        refine r_nil ?_
        refine n_cut ⟨decide (v24 < most), upk (ac rfl (ac rfl (ac rfl (ac rfl (ac rfl (ac rfl an)))))), H25, hm⟩
      · refine r_not (wn_f rfl rfl (by decide) rfl hb179) ?_
        refine r_not (wn_f rfl rfl (by decide) rfl hb179) ?_
        refine r_not (wn_f rfl rfl (by decide) rfl hb179) ?_
        refine r_pick_f (.bool false) hb179 rfl rfl ?_
        refine r_nil ?_
        refine n_cut ⟨false, upk (ac rfl (ac rfl (ac rfl (ac rfl (ac rfl (ac rfl an)))))), H25, hm⟩
    · refine r_not (wn_f rfl rfl (by decide) rfl hb178) ?_
      refine r_not (wn_f rfl rfl (by decide) rfl hb178) ?_
      refine r_not (wn_f rfl rfl (by decide) rfl hb178) ?_
      refine r_not (wn_f rfl rfl (by decide) rfl hb178) ?_
      refine r_pick_f (.bool false) hb178 rfl rfl ?_
      refine r_pure (.bool false) rfl ?_
      refine r_not (wn_f rfl rfl (by decide) rfl rfl) ?_
      refine r_not (wn_f rfl rfl (by decide) rfl rfl) ?_
      refine r_not (wn_f rfl rfl (by decide) rfl rfl) ?_
      refine r_pick_f (.bool false) rfl rfl rfl ?_
      refine r_nil ?_
      refine n_cut ⟨false, upk (ac rfl (ac rfl (ac rfl (ac rfl (ac rfl (ac rfl an)))))), H25, hm⟩
  · rintro ρ w ⟨q37, ⟨base, rfl⟩, H38, hm⟩
    unfold scutagelaw25_items.j1 at hm
    rcases ite_some hm with ⟨hb39, hm⟩ | ⟨hb39, hm⟩
    · refine st_condt hb39 rfl ?_
      refine st_skip ?_
      refine n_sq ?_
      refine st_seq ?_
      refine st_block ?_
      obtain ⟨⟨h041, h142⟩, hm⟩ := gd_some hm
      have hj43 := rd_get h041 h142
      obtain ⟨y45, hy46, hm⟩ := bind_some hm
      obtain ⟨⟨h051, h152⟩, hm⟩ := gd_some hm
      have hj53 := rd_get h051 h152
      obtain ⟨y55, hy56, hm⟩ := bind_some hm
      obtain ⟨hf64, hm⟩ := gd_some hm
      refine Flow.run' [[], [], [], [1, 2], [1, 2, 3], [1, 2, 3, 4], [], [], [6, 7], [6, 7, 8], [1, 2, 3, 4, 5, 6, 7, 8, 9], [1, 2, 3, 4, 5, 6, 7, 8, 9, 10], [1, 2, 3, 4, 5, 6, 7, 8, 9, 10, 11], [0, 1, 2, 3, 4, 5, 6, 7, 8, 9, 10, 11, 12], [0, 1, 2, 3, 4, 5, 6, 7, 8, 9, 10, 11, 12, 13]] [(26, 0), (27, 1), (28, 2), (29, 3), (30, 4), (31, 5), (32, 6), (33, 7), (34, 8), (35, 9), (36, 10), (37, 11), (38, 12), (39, 13), (7, 14)] [(fun η40 v => v.1 = .slice A20 xs23.length c22), (fun η40 v => v.1 = .slice A1 kinds.length c2), (fun η40 v => v.1 = .int .i64 v24), (fun η40 v => v.1 = .pointer (some ((oA A1).add (Int.toNat v24 * 1)))), (fun η40 v => v.1 = .int .i64 (rd kinds v24)), (fun η40 v => v.1 = .int .i64 y45), (fun η40 v => v.1 = .slice A7 amounts.length c8), (fun η40 v => v.1 = .int .i64 v24), (fun η40 v => v.1 = .pointer (some ((oA A7).add (Int.toNat v24 * 1)))), (fun η40 v => v.1 = .int .i64 (rd amounts v24)), (fun η40 v => v.1 = .int .i64 y55), (fun η40 v => v.1 = .agg #[.int .i64 y45, .int .i64 y55]), (fun η40 v => v.1 = .slice (some ⟨(oA (vA (v.1))).block, 0, none⟩) 1 1), (fun η40 v => v.1 = .slice (vA (v.1)) ((xs23 ++ [(⟨y45, y55⟩ : api_Item)]).length) (vC (v.1))), (fun η40 v => v.1 = .slice (vA ((η40 13).1)) ((xs23 ++ [(⟨y45, y55⟩ : api_Item)]).length) (vC ((η40 13).1)))] [⟨none, (some 13), fun η40 => Row K24 (.slice A20 xs23.length c22) xs23⟩, ⟨(some 12), none, fun η40 => Row K24 (.slice (some ⟨(oA (vA ((η40 12).1))).block, 0, none⟩) 1 1) [(⟨y45, y55⟩ : api_Item)]⟩, ⟨(some 13), none, fun η40 => Row K24 (.slice (vA ((η40 13).1)) ((xs23 ++ [(⟨y45, y55⟩ : api_Item)]).length) (vC ((η40 13).1))) (xs23 ++ [(⟨y45, y55⟩ : api_Item)])⟩] rfl (by kernel_rfl) (by kernel_rfl) H38 ⟨?_, ?_, ?_, ?_, ?_, ?_, ?_, ?_, ?_, ?_, ?_, ?_, ?_, ?_, ?_, trivial⟩ ?_
      · intro η40 wd72 Δ73 hE69 hR70 H71
        have H71 : Hp w0 ((Δ73 ++ Γ)) wd72 := H71
        refine sp_op [(7, .slice A20 xs23.length c22)] (ac rfl an) ?_
        refine r_pure (.slice A20 xs23.length c22) rfl ?_
        exact r_nil (n_lp ⟨_, rfl, undef, rfl, H71⟩)
      · intro η40 wd77 Δ78 hE74 hR75 H76
        have H76 : Hp w0 ((Δ78 ++ Γ)) wd77 := H76
        refine sp_op [(0, .slice A1 kinds.length c2)] (ac rfl an) ?_
        refine r_pure (.slice A1 kinds.length c2) rfl ?_
        exact r_nil (n_lp ⟨_, rfl, undef, rfl, H76⟩)
      · intro η40 wd82 Δ83 hE79 hR80 H81
        have H81 : Hp w0 ((Δ83 ++ Γ)) wd82 := H81
        refine sp_op [(8, .int .i64 v24)] (ac rfl an) ?_
        refine r_pure (.int .i64 v24) rfl ?_
        exact r_nil (n_lp ⟨_, rfl, undef, rfl, H81⟩)
      · intro η40 wd87 Δ88 hE84 hR85 H86
        have H86 : Hp w0 ((Δ88 ++ Γ)) wd87 := H86
        refine sp_op [(27, .slice A1 kinds.length c2), (28, .int .i64 v24)] (ac (hE84 1 (by decide)) (ac (hE84 2 (by decide)) an)) ?_
        have hA92 := (hv4 _ (H86).tl).adO hj43
        refine r_ix IX34 rfl rfl hA92 h041 h142 ?_
        exact r_nil (n_lp ⟨_, rfl, undef, rfl, H86⟩)
      · intro η40 wd96 Δ97 hE93 hR94 H95
        have H95 : Hp w0 ((Δ97 ++ Γ)) wd96 := H95
        refine sp_op [(29, .pointer (some ((oA A1).add (Int.toNat v24 * 1))))] (ac (hE93 3 (by decide)) an) ?_
        have hA98 := (hv4 _ (H95).tl).adO hj43
        refine r_ld1 (.int .i64 (rd kinds v24)) LD3 rfl ((hv4 _ (H95).tl).c0A hA98 hj43 _ rfl) ?_
        exact r_nil (n_lp ⟨_, rfl, undef, rfl, H95⟩)
      · intro η40 wd102 Δ103 hE99 hR100 H101
        have H101 : Hp w0 ((Δ103 ++ Γ)) wd102 := H101
        refine sp_op [(30, .int .i64 (rd kinds v24))] (ac (hE99 4 (by decide)) an) ?_
        refine r_callf Try.call6 (scutagekeep_Within_ok (rd kinds v24) 9 y45 H101 hy46) ?_
        rintro e107 wd106 ⟨rfl, H109⟩
        refine ⟨_, rfl, ?_⟩
        exact r_nil (n_lp ⟨_, rfl, undef, rfl, H109⟩)
      · intro η40 wd113 Δ114 hE110 hR111 H112
        have H112 : Hp w0 ((Δ114 ++ Γ)) wd113 := H112
        refine sp_op [(1, .slice A7 amounts.length c8)] (ac rfl an) ?_
        refine r_pure (.slice A7 amounts.length c8) rfl ?_
        exact r_nil (n_lp ⟨_, rfl, undef, rfl, H112⟩)
      · intro η40 wd118 Δ119 hE115 hR116 H117
        have H117 : Hp w0 ((Δ119 ++ Γ)) wd118 := H117
        refine sp_op [(8, .int .i64 v24)] (ac rfl an) ?_
        refine r_pure (.int .i64 v24) rfl ?_
        exact r_nil (n_lp ⟨_, rfl, undef, rfl, H117⟩)
      · intro η40 wd123 Δ124 hE120 hR121 H122
        have H122 : Hp w0 ((Δ124 ++ Γ)) wd123 := H122
        refine sp_op [(32, .slice A7 amounts.length c8), (33, .int .i64 v24)] (ac (hE120 6 (by decide)) (ac (hE120 7 (by decide)) an)) ?_
        have hA128 := (hv10 _ (H122).tl).adO hj53
        refine r_ix IX34 rfl rfl hA128 h051 h152 ?_
        exact r_nil (n_lp ⟨_, rfl, undef, rfl, H122⟩)
      · intro η40 wd132 Δ133 hE129 hR130 H131
        have H131 : Hp w0 ((Δ133 ++ Γ)) wd132 := H131
        refine sp_op [(34, .pointer (some ((oA A7).add (Int.toNat v24 * 1))))] (ac (hE129 8 (by decide)) an) ?_
        have hA134 := (hv10 _ (H131).tl).adO hj53
        refine r_ld1 (.int .i64 (rd amounts v24)) LD3 rfl ((hv10 _ (H131).tl).c0A hA134 hj53 _ rfl) ?_
        exact r_nil (n_lp ⟨_, rfl, undef, rfl, H131⟩)
      · intro η40 wd138 Δ139 hE135 hR136 H137
        have H137 : Hp w0 ((Δ139 ++ Γ)) wd138 := H137
        refine sp_op [(35, .int .i64 (rd amounts v24))] (ac (hE135 9 (by decide)) an) ?_
        refine r_callf Try.call23 (scutageplay_Amount_ok (rd amounts v24) y55 H137 hy56) ?_
        rintro e143 wd142 ⟨rfl, H145⟩
        refine ⟨_, rfl, ?_⟩
        exact r_nil (n_lp ⟨_, rfl, undef, rfl, H145⟩)
      · intro η40 wd149 Δ150 hE146 hR147 H148
        have H148 : Hp w0 ((Δ150 ++ Γ)) wd149 := H148
        refine sp_op [(31, .int .i64 y45), (36, .int .i64 y55)] (ac (hE146 5 (by decide)) (ac (hE146 10 (by decide)) an)) ?_
        refine r_build [.int .i64 y45, .int .i64 y55] FL24 rfl ?_
        exact r_nil (n_lp ⟨_, rfl, undef, rfl, H148⟩)
      · intro η40 wd154 Δ155 hE151 hR152 H153
        have H153 : Hp w0 ((Δ155 ++ Γ)) wd154 := H153
        refine sp_op [(37, .agg #[.int .i64 y45, .int .i64 y55])] (ac (hE151 11 (by decide)) an) ?_
        refine r_buildSlice (K := K24) [(⟨y45, y55⟩ : api_Item)] EL25 rfl rfl rfl (by decide) (by decide) rfl H153 ?_
        intro b156 wd158 H157
        exact r_nil (n_lp ⟨_, rfl, (.tuple #[.slice (some ⟨b156, 0, none⟩) 1 1]), rfl, H157⟩)
      · intro η40 wd162 Δ163 hE159 hR160 H161
        have H161 : Hp w0 (Row K24 (.slice A20 xs23.length c22) xs23 :: (Δ163 ++ Γ)) wd162 := H161
        refine sp_op [(26, .slice A20 xs23.length c22), (38, .slice (some ⟨(oA (vA ((η40 12).1))).block, 0, none⟩) 1 1)] (ac (hE159 0 (by decide)) (ac (hE159 12 (by decide)) an)) ?_
        refine r_append (K := K24) (ys := [(⟨y45, y55⟩ : api_Item)]) AP25 rfl rfl rfl rfl H161 ((show (Row K24 (.slice (some ⟨(oA (vA ((η40 12).1))).block, 0, none⟩) 1 1) [(⟨y45, y55⟩ : api_Item)]) _ from (H161.d).memr (hR160 _ (List.mem_of_getElem? (i := 1) rfl) rfl)).src) (fit_le hf64 (by decide)) ?_
        intro A165 c166 wd167 H168
        exact r_nil (n_lp ⟨_, rfl, (.tuple #[.slice A165 ((xs23 ++ [(⟨y45, y55⟩ : api_Item)]).length) c166]), rfl, H168⟩)
      · intro η40 wd172 Δ173 hE169 hR170 H171
        have H171 : Hp w0 ((Δ173 ++ Γ)) wd172 := H171
        refine sp_op [(39, .slice (vA ((η40 13).1)) ((xs23 ++ [(⟨y45, y55⟩ : api_Item)]).length) (vC ((η40 13).1)))] (ac (hE169 13 (by decide)) an) ?_
        refine r_pure (.slice (vA ((η40 13).1)) ((xs23 ++ [(⟨y45, y55⟩ : api_Item)]).length) (vC ((η40 13).1))) rfl ?_
        exact r_nil (n_lp ⟨_, rfl, undef, rfl, H171⟩)
      · intro η40 wd175 hV176 H174
        have H177 : Hp w0 (Row K24 (.slice (some ⟨(oA (vA ((η40 12).1))).block, 0, none⟩) 1 1) [(⟨y45, y55⟩ : api_Item)] :: Row K24 (.slice (vA ((η40 13).1)) ((xs23 ++ [(⟨y45, y55⟩ : api_Item)]).length) (vC ((η40 13).1))) (xs23 ++ [(⟨y45, y55⟩ : api_Item)]) :: Γ) wd175 := H174
        refine n_frame [(0, .slice A1 kinds.length c2), (1, .slice A7 amounts.length c8), (2, .int .i64 most), (7, .slice (vA ((η40 13).1)) ((xs23 ++ [(⟨y45, y55⟩ : api_Item)]).length) (vC ((η40 13).1))), (8, .int .i64 v24)] (ac rfl (ac rfl (ac rfl (ac (hV176 14 rfl) (ac rfl an))))) ?_
        refine n_bl ?_
        refine n_sq ?_
        refine st_region ?_
        refine r_pure (.int .i64 v24) rfl ?_
        refine r_pure (.int .i64 (w64 (v24 + 1))) rfl ?_
        refine r_pure (.int .i64 (w64 (v24 + 1))) rfl ?_
        refine r_nil ?_
        refine n_round (IH36 _ _ _ ⟨xs23 ++ [(⟨y45, y55⟩ : api_Item)], w64 (v24 + 1), (vA ((η40 13).1)), (xs23 ++ [(⟨y45, y55⟩ : api_Item)]).length, (vC ((η40 13).1)), rfl, upk (ac rfl (ac rfl (ac rfl (ac rfl (ac rfl an))))), H177.d⟩ hm)
    · refine st_condf hb39 rfl ?_
      have hq_ := Option.some.inj hm
      refine st_exit rfl ?_
      subst hq_
      refine n_sq ?_
      refine st_seq ?_
      refine st_region ?_
      refine r_pure (.slice A20 xs23.length c22) rfl ?_
      refine r_pure (.slice A20 xs23.length c22) rfl ?_
      refine r_seq ?_
      have hq_ := Option.some.inj hm26
      subst hq_
      refine st_ret1 rfl rfl (Nat.le_of_ble_eq_true rfl) rfl ?_
      exact ⟨A20, xs23.length, c22, rfl, H38⟩

set_option maxHeartbeats 2000000 in
theorem slices_Grow_api_Item_nil0_ok {w0 w : World} {Γ : List (World → Prop)} (n_ : Int) (r0_ : List api_Item) (H : Hp w0 (Γ) w) (hm : slices_Grow_api_Item_nil0 n_ = some r0_) : Calls Try.prog 26 #[.slice none 0 0, .int .i64 n_] w (fun e w => ∃ (Ax1 : Option Addr) (nx2 cx3 : Nat), e = .returned (.slice Ax1 nx2 cx3) ∧ Hp w0 (Row K24 (.slice Ax1 nx2 cx3) r0_ :: Γ) w) := by
  unfold slices_Grow_api_Item_nil0 at hm
  refine st_enter Try.func26 rfl Try.ntmps26 (Nat.le_of_ble_eq_true rfl) ?_
  refine st_seq ?_
  refine st_region ?_
  refine r_pure (.slice none 0 0) rfl ?_
  refine r_seq ?_
  refine st_seq ?_
  refine st_seq ?_
  refine st_region ?_
  refine r_pure (.int .i64 n_) rfl ?_
  refine r_pure (.bool (decide (n_ < 0))) rfl ?_
  refine r_seq ?_
  rcases ite_some hm with ⟨hb1, hm⟩ | ⟨hb1, hm⟩
  · refine st_condt hb1 rfl ?_
    refine st_region ?_
    cases hm
  · refine st_condf hb1 rfl ?_
    refine st_skip ?_
    refine n_sq ?_
    refine st_cut (fun ρ w => ∃ A4 : Option Addr, ∃ n5 : Nat, ∃ c6 : Nat, ∃ xs7 : List api_Item, (∃ base, ρ = updl base [(0, .slice A4 n5 c6)]) ∧ Hp w0 (Row K24 (.slice A4 n5 c6) xs7 :: Γ) w ∧ slices_Grow_api_Item_nil0.j1 xs7 = some r0_) ?_ ?_
    · refine st_seq ?_
      refine st_region ?_
      refine r_pure (.int .i64 n_) rfl ?_
      refine r_pure (.slice none 0 0) rfl ?_
      refine r_cap Try.underlying25 rfl ?_
      refine r_pure (.slice none 0 0) rfl ?_
      refine r_len Try.underlying25 rfl ?_
      refine r_pure (.int .i64 0) rfl ?_
      refine r_pure (.int .i64 (w64 (n_ - 0))) rfl ?_
      refine r_pure (.int .i64 (w64 (n_ - 0))) rfl ?_
      refine r_seq ?_
      refine st_seq ?_
      refine st_region ?_
      refine r_pure (.int .i64 (w64 (n_ - 0))) rfl ?_
      refine r_pure (.bool (decide (w64 (n_ - 0) > 0))) rfl ?_
      refine r_seq ?_
      rcases ite_some hm with ⟨hb9, hm⟩ | ⟨hb9, hm⟩
      · refine st_condt hb9 rfl ?_
        refine st_region ?_
        refine r_pure (.slice none 0 0) rfl ?_
        refine r_pure (.slice none 0 0) rfl ?_
        refine r_cap Try.underlying25 rfl ?_
        refine r_cut2 (xs := ([] : List api_Item)) (lo := 0) (hi := 0) IX25 rfl rfl (Nat.le_refl _) ⟨_, rfl⟩ rfl (by decide) ?_
        refine r_pure (.int .i64 (w64 (n_ - 0))) rfl ?_
        obtain ⟨⟨h10, hf11⟩, hm⟩ := gd_some hm
        refine r_appendZ (K := K24) (zc := (⟨0, 0⟩ : api_Item)) AP25 Try.underlying3 rfl rfl ZV24 rfl rfl h10 H (by have := fit_le hf11 (b := 0) (by_ := 16) (by decide); simpa using this) ?_
        intro A12 c13 wd14 H15
        refine r_pure (.slice none 0 0) rfl ?_
        refine r_len Try.underlying25 rfl ?_
        obtain ⟨hs16, hm⟩ := gd_some hm
        refine r_cut2 (xs := List.replicate (Int.toNat (w64 (n_ - 0))) (⟨0, 0⟩ : api_Item)) (lo := (0 : Int)) (hi := 0) IX25 rfl rfl (H15.g0.cap) ⟨_, rfl⟩ rfl hs16 ?_
        refine r_pure (.slice (cutA A12 (0 : Int) (c13 : Int) 2) ((sb (List.replicate (Int.toNat (w64 (n_ - 0))) (⟨0, 0⟩ : api_Item)) (0 : Int) 0).length) (c13 - Int.toNat (0 : Int))) rfl ?_
        refine r_nil ?_
        have H17 : Hp w0 (Row K24 (.slice (cutA A12 (0 : Int) (c13 : Int) 2) ((sb (List.replicate (Int.toNat (w64 (n_ - 0))) (⟨0, 0⟩ : api_Item)) (0 : Int) 0).length) (c13 - Int.toNat (0 : Int))) (sb (List.replicate (Int.toNat (w64 (n_ - 0))) (⟨0, 0⟩ : api_Item)) (0 : Int) 0) :: _) _ := H15.imp fun _ h_ => h_.sb hs16.1 hs16.2.1 (by have := (H15.g0.cap); have := hs16; omega) (Int.le_refl _) hs16.2.2
        refine n_cut ⟨(cutA A12 (0 : Int) (c13 : Int) 2), (sb (List.replicate (Int.toNat (w64 (n_ - 0))) (⟨0, 0⟩ : api_Item)) (0 : Int) 0).length, (c13 - Int.toNat (0 : Int)), sb (List.replicate (Int.toNat (w64 (n_ - 0))) (⟨0, 0⟩ : api_Item)) (0 : Int) 0, upk (ac rfl an), H17, hm⟩
      · refine st_condf hb9 rfl ?_
        refine st_skip ?_
        have H18 := H.add (A := Row K24 (.slice none 0 0) []) Row.nil
        refine n_cut ⟨none, 0, 0, ([] : List api_Item), upk (ac rfl an), H18, hm⟩
    · rintro ρ w ⟨A4, n5, c6, xs7, ⟨base, rfl⟩, H8, hm⟩
      obtain rfl := (H8.g0).leneq
      unfold slices_Grow_api_Item_nil0.j1 at hm
      refine st_seq ?_
      refine st_region ?_
      refine r_pure (.slice A4 xs7.length c6) rfl ?_
      refine r_pure (.slice A4 xs7.length c6) rfl ?_
      refine r_seq ?_
      have hq_ := Option.some.inj hm
      subst hq_
      refine st_ret1 rfl rfl (Nat.le_of_ble_eq_true rfl) rfl ?_
      exact ⟨A4, xs7.length, c6, rfl, H8⟩

set_option maxHeartbeats 2000000 in
theorem slices_Concat_api_Item_elems0_ok {w0 w : World} {Γ : List (World → Prop)} (slices0 : List api_Item) (A1 : Option Addr) (n6 c2 : Nat) (hn5 : n6 = slices0.length) (hc3 : slices0.length ≤ c2) (hv4 : ∀ u, Hp w0 Γ u → SlR K24 A1 slices0 u) (slices1 : List api_Item) (A7 : Option Addr) (n12 c8 : Nat) (hn11 : n12 = slices1.length) (hc9 : slices1.length ≤ c8) (hv10 : ∀ u, Hp w0 Γ u → SlR K24 A7 slices1 u) (A13 : Option Addr) (c14 : Nat) (hc15 : 2 ≤ c14) (hv16 : ∀ u, Hp w0 Γ u → SlR (Kr 25 1 (by decide)) A13 [(⟨[.slice A1 n6 c2], rfl, rfl⟩ : Raw 1), (⟨[.slice A7 n12 c8], rfl, rfl⟩ : Raw 1)] u) (r0_ : List api_Item) (H : Hp w0 (Γ) w) (hm : slices_Concat_api_Item_elems0 slices0 slices1 = some r0_) : Calls Try.prog 17 #[.slice A13 2 c14] w (fun e w => ∃ (Ax1 : Option Addr) (nx2 cx3 : Nat), e = .returned (.slice Ax1 nx2 cx3) ∧ Hp w0 (Row K24 (.slice Ax1 nx2 cx3) r0_ :: Γ) w) := by
  subst hn5
  subst hn11
  unfold slices_Concat_api_Item_elems0 at hm
  refine st_enter Try.func17 rfl Try.ntmps17 (Nat.le_of_ble_eq_true rfl) ?_
  refine st_seq ?_
  refine st_region ?_
  refine r_pure (.slice none 0 0) rfl ?_
  refine r_seq ?_
  refine st_seq ?_
  refine st_region ?_
  refine r_pure (.int .i64 0) rfl ?_
  refine r_seq ?_
  refine st_seq ?_
  refine st_seq ?_
  refine st_region ?_
  refine r_pure (.slice A13 2 c14) rfl ?_
  refine r_len Try.underlying49 rfl ?_
  refine r_pure (.int .i64 0) rfl ?_
  refine r_seq ?_
  refine st_block ?_
  refine st_loop 3 ?_
  refine l_round ?_
  refine st_seq ?_
  refine st_region ?_
  refine r_pure (.bool (decide (0 < 2))) rfl ?_
  refine r_seq ?_
  refine st_seq ?_
  refine st_condt (by decide) rfl ?_
  refine st_skip ?_
  refine n_sq ?_
  refine st_seq ?_
  refine st_block ?_
  refine st_seq ?_
  refine st_region ?_
  have hA17 := (hv16 _ H).adO (show ([(⟨[.slice A1 slices0.length c2], rfl, rfl⟩ : Raw 1), (⟨[.slice A7 slices1.length c8], rfl, rfl⟩ : Raw 1)])[Int.toNat 0]? = some _ from rfl)
  refine r_ix IX49 rfl rfl hA17 (by decide) (by decide) ?_
  refine r_ld1 (.slice A1 slices0.length c2) LD25 rfl ((hv16 _ H).c0A hA17 (show ([(⟨[.slice A1 slices0.length c2], rfl, rfl⟩ : Raw 1), (⟨[.slice A7 slices1.length c8], rfl, rfl⟩ : Raw 1)])[Int.toNat 0]? = some _ from rfl) _ rfl) ?_
  refine r_pure (.slice A1 slices0.length c2) rfl ?_
  refine r_seq ?_
  refine st_seq ?_
  refine st_region ?_
  refine r_pure (.int .i64 0) rfl ?_
  refine r_pure (.slice A1 slices0.length c2) rfl ?_
  refine r_len Try.underlying25 rfl ?_
  refine r_pure (.int .i64 (w64 (0 + (slices0.length : Int)))) rfl ?_
  refine r_pure (.int .i64 (w64 (0 + (slices0.length : Int)))) rfl ?_
  refine r_seq ?_
  refine st_seq ?_
  refine st_region ?_
  refine r_pure (.int .i64 (w64 (0 + (slices0.length : Int)))) rfl ?_
  refine r_pure (.bool (decide (w64 (0 + (slices0.length : Int)) < 0))) rfl ?_
  refine r_seq ?_
  rcases ite_some hm with ⟨hb18, hm⟩ | ⟨hb18, hm⟩
  · refine st_condt hb18 rfl ?_
    refine st_region ?_
    cases hm
  · refine st_condf hb18 rfl ?_
    refine st_skip ?_
    refine n_bl ?_
    refine n_sq ?_
    refine st_region ?_
    refine r_pure (.int .i64 1) rfl ?_
    refine r_pure (.int .i64 1) rfl ?_
    refine r_nil ?_
    refine n_round ?_
    refine l_round ?_
    refine st_seq ?_
    refine st_region ?_
    refine r_pure (.bool (decide (1 < 2))) rfl ?_
    refine r_seq ?_
    refine st_seq ?_
    refine st_condt (by decide) rfl ?_
    refine st_skip ?_
    refine n_sq ?_
    refine st_seq ?_
    refine st_block ?_
    refine st_seq ?_
    refine st_region ?_
    refine r_ix IX49 rfl rfl hA17 (by decide) (by decide) ?_
    refine r_ld1 (.slice A7 slices1.length c8) LD25 rfl ((hv16 _ H).c0A hA17 (show ([(⟨[.slice A1 slices0.length c2], rfl, rfl⟩ : Raw 1), (⟨[.slice A7 slices1.length c8], rfl, rfl⟩ : Raw 1)])[Int.toNat 1]? = some _ from rfl) _ rfl) ?_
    refine r_pure (.slice A7 slices1.length c8) rfl ?_
    refine r_seq ?_
    refine st_seq ?_
    refine st_region ?_
    refine r_pure (.int .i64 (w64 (0 + (slices0.length : Int)))) rfl ?_
    refine r_pure (.slice A7 slices1.length c8) rfl ?_
    refine r_len Try.underlying25 rfl ?_
    refine r_pure (.int .i64 (w64 (w64 (0 + (slices0.length : Int)) + (slices1.length : Int)))) rfl ?_
    refine r_pure (.int .i64 (w64 (w64 (0 + (slices0.length : Int)) + (slices1.length : Int)))) rfl ?_
    refine r_seq ?_
    refine st_seq ?_
    refine st_region ?_
    refine r_pure (.int .i64 (w64 (w64 (0 + (slices0.length : Int)) + (slices1.length : Int)))) rfl ?_
    refine r_pure (.bool (decide (w64 (w64 (0 + (slices0.length : Int)) + (slices1.length : Int)) < 0))) rfl ?_
    refine r_seq ?_
    rcases ite_some hm with ⟨hb19, hm⟩ | ⟨hb19, hm⟩
    · refine st_condt hb19 rfl ?_
      refine st_region ?_
      cases hm
    · refine st_condf hb19 rfl ?_
      refine st_skip ?_
      refine n_bl ?_
      refine n_sq ?_
      refine st_region ?_
      refine r_pure (.int .i64 2) rfl ?_
      refine r_pure (.int .i64 2) rfl ?_
      refine r_nil ?_
      refine n_round ?_
      refine l_round ?_
      refine st_seq ?_
      refine st_region ?_
      refine r_pure (.bool (decide (2 < 2))) rfl ?_
      refine r_seq ?_
      refine st_seq ?_
      refine st_condf (by decide) rfl ?_
      refine st_exit rfl ?_
      refine n_sq ?_
      refine st_seq ?_
      refine st_region ?_
      refine r_pure (.int .i64 (w64 (w64 (0 + (slices0.length : Int)) + (slices1.length : Int)))) rfl ?_
      obtain ⟨y20, hy21, hm⟩ := bind_some hm
      refine r_callf Try.call26 (slices_Grow_api_Item_nil0_ok (w64 (w64 (0 + (slices0.length : Int)) + (slices1.length : Int))) y20 H hy21) ?_
      rintro e23 wd22 ⟨A26, n27, c28, rfl, H25⟩
      obtain rfl := (H25.g0).leneq
      refine ⟨_, rfl, ?_⟩
      refine r_pure (.slice A26 y20.length c28) rfl ?_
      refine r_seq ?_
      refine st_seq ?_
      refine st_seq ?_
      refine st_region ?_
      refine r_pure (.slice A13 2 c14) rfl ?_
      refine r_len Try.underlying49 rfl ?_
      refine r_pure (.int .i64 0) rfl ?_
      refine r_seq ?_
      refine st_block ?_
      refine st_loop 3 ?_
      refine l_round ?_
      refine st_seq ?_
      refine st_region ?_
      refine r_pure (.bool (decide (0 < 2))) rfl ?_
      refine r_seq ?_
      refine st_seq ?_
      refine st_condt (by decide) rfl ?_
      refine st_skip ?_
      refine n_sq ?_
      refine st_seq ?_
      refine st_block ?_
      refine st_seq ?_
      refine st_region ?_
      refine r_ix IX49 rfl rfl hA17 (by decide) (by decide) ?_
      refine r_ld1 (.slice A1 slices0.length c2) LD25 rfl ((hv16 _ H25.d).c0A hA17 (show ([(⟨[.slice A1 slices0.length c2], rfl, rfl⟩ : Raw 1), (⟨[.slice A7 slices1.length c8], rfl, rfl⟩ : Raw 1)])[Int.toNat 0]? = some _ from rfl) _ rfl) ?_
      refine r_pure (.slice A1 slices0.length c2) rfl ?_
      refine r_seq ?_
      refine st_region ?_
      refine r_pure (.slice A26 y20.length c28) rfl ?_
      refine r_pure (.slice A1 slices0.length c2) rfl ?_
      obtain ⟨hf29, hm⟩ := gd_some hm
      refine r_append (K := K24) (ys := slices0) AP25 rfl rfl rfl rfl H25 ((hv4 _ H25.d).src) (fit_le hf29 (by decide)) ?_
      intro A30 c31 wd32 H33
      refine r_pure (.slice A30 ((y20 ++ slices0).length) c31) rfl ?_
      refine r_nil ?_
      refine n_bl ?_
      refine n_sq ?_
      refine st_region ?_
      refine r_pure (.int .i64 1) rfl ?_
      refine r_pure (.int .i64 1) rfl ?_
      refine r_nil ?_
      refine n_round ?_
      refine l_round ?_
      refine st_seq ?_
      refine st_region ?_
      refine r_pure (.bool (decide (1 < 2))) rfl ?_
      refine r_seq ?_
      refine st_seq ?_
      refine st_condt (by decide) rfl ?_
      refine st_skip ?_
      refine n_sq ?_
      refine st_seq ?_
      refine st_block ?_
      refine st_seq ?_
      refine st_region ?_
      refine r_ix IX49 rfl rfl hA17 (by decide) (by decide) ?_
      refine r_ld1 (.slice A7 slices1.length c8) LD25 rfl ((hv16 _ H33.d).c0A hA17 (show ([(⟨[.slice A1 slices0.length c2], rfl, rfl⟩ : Raw 1), (⟨[.slice A7 slices1.length c8], rfl, rfl⟩ : Raw 1)])[Int.toNat 1]? = some _ from rfl) _ rfl) ?_
      refine r_pure (.slice A7 slices1.length c8) rfl ?_
      refine r_seq ?_
      refine st_region ?_
      refine r_pure (.slice A30 ((y20 ++ slices0).length) c31) rfl ?_
      refine r_pure (.slice A7 slices1.length c8) rfl ?_
      obtain ⟨hf34, hm⟩ := gd_some hm
      refine r_append (K := K24) (ys := slices1) AP25 rfl rfl rfl rfl H33 ((hv10 _ H33.d).src) (fit_le hf34 (by decide)) ?_
      intro A35 c36 wd37 H38
      refine r_pure (.slice A35 (((y20 ++ slices0) ++ slices1).length) c36) rfl ?_
      refine r_nil ?_
      refine n_bl ?_
      refine n_sq ?_
      refine st_region ?_
      refine r_pure (.int .i64 2) rfl ?_
      refine r_pure (.int .i64 2) rfl ?_
      refine r_nil ?_
      refine n_round ?_
      refine l_round ?_
      refine st_seq ?_
      refine st_region ?_
      refine r_pure (.bool (decide (2 < 2))) rfl ?_
      refine r_seq ?_
      refine st_seq ?_
      refine st_condf (by decide) rfl ?_
      refine st_exit rfl ?_
      refine n_sq ?_
      refine st_seq ?_
      refine st_region ?_
      refine r_pure (.slice A35 (((y20 ++ slices0) ++ slices1).length) c36) rfl ?_
      refine r_pure (.slice A35 (((y20 ++ slices0) ++ slices1).length) c36) rfl ?_
      refine r_seq ?_
      have hq_ := Option.some.inj hm
      subst hq_
      refine st_ret1 rfl rfl (Nat.le_of_ble_eq_true rfl) rfl ?_
      exact ⟨A35, ((y20 ++ slices0) ++ slices1).length, c36, rfl, H38⟩

set_option maxHeartbeats 2000000 in
theorem slices_IndexFunc_api_Item_ok {w0 w : World} {Γ : List (World → Prop)} (s_ : List api_Item) (A1 : Option Addr) (n6 c2 : Nat) (hn5 : n6 = s_.length) (hc3 : s_.length ≤ c2) (hv4 : ∀ u, Hp w0 Γ u → SlR K24 A1 s_ u) (fv7 : Value) (f_ : api_Item → Option Bool) (hp8 : FnOk Try.prog w0 Γ fv7 (fun x => [.agg #[.int .i64 x.Kind, .int .i64 x.Amount]]) (fun r => .bool r) f_) (r0_ : Int) (H : Hp w0 (Γ) w) (hm : slices_IndexFunc_api_Item s_ f_ = some r0_) : Calls Try.prog 18 #[.slice A1 n6 c2, fv7] w (fun e w => e = .returned (.int .i64 r0_) ∧ Hp w0 (Γ) w) := by
  subst hn5
  obtain ⟨gf9, gcap10, rfl, ge11, gp12⟩ := hp8
  unfold slices_IndexFunc_api_Item at hm
  refine st_enter Try.func18 rfl Try.ntmps18 (Nat.le_of_ble_eq_true rfl) ?_
  refine st_seq ?_
  refine st_region ?_
  refine r_pure (.int .i64 0) rfl ?_
  refine r_seq ?_
  refine st_seq ?_
  refine st_seq ?_
  refine st_region ?_
  refine r_pure (.slice A1 s_.length c2) rfl ?_
  refine r_len Try.underlying25 rfl ?_
  refine r_pure (.int .i64 0) rfl ?_
  refine r_seq ?_
  refine st_block ?_
  have hlim32 := (hv4 _ H).lim
  obtain ⟨tl15, hl16, hm14⟩ := bind_some hm
  refine st_loopL (slices_IndexFunc_api_Item.l1 f_) (fun ys21 s ρ w => ∃ i17 : Int, ∃ dn18 : List api_Item, i17 = s ∧ s_ = dn18 ++ ys21 ∧ i17 = (dn18.length : Int) ∧ (∃ base, ρ = updl base [(0, .slice A1 s_.length c2), (1, .func (.func gf9) #[] (List.toArray gcap10)), (7, .int .i64 (s_.length : Int)), (8, .int .i64 i17)]) ∧ Hp w0 (Γ) w) hl16 ⟨0, [], rfl, rfl, rfl, upk (ac rfl (ac rfl (ac rfl (ac rfl an)))), H⟩ ?_
  rintro m ys21 IH25 s ρ w ⟨i17, dn18, rfl, hxs19, hi20, ⟨base, rfl⟩, H13⟩ hm
  rcases ys21 with _ | ⟨y22, ys21⟩
  · rw [slices_IndexFunc_api_Item.l1] at hm
    have hb26 := range_end hxs19 hi20
    refine st_seq ?_
    refine st_region ?_
    refine r_pure (.bool (decide (i17 < (s_.length : Int)))) rfl ?_
    refine r_seq ?_
    refine st_seq ?_
    refine st_condf hb26 rfl ?_
    have hq_ := Option.some.inj hm
    refine st_exit rfl ?_
    subst hq_
    refine n_sq ?_
    refine st_seq ?_
    refine st_region ?_
    refine r_pure (.int .i64 (-1)) rfl ?_
    refine r_seq ?_
    have hq_ := Option.some.inj hm14
    subst hq_
    refine st_ret1 rfl rfl (Nat.le_of_ble_eq_true rfl) rfl ?_
    exact ⟨rfl, H13⟩
  · rw [slices_IndexFunc_api_Item.l1] at hm
    have hb27 := range_in hxs19 hi20
    obtain ⟨h028, h129, hj30⟩ := range_ix hxs19 hi20
    have hnx31 := range_next hxs19 hi20 hlim32
    refine st_seq ?_
    refine st_region ?_
    refine r_pure (.bool (decide (i17 < (s_.length : Int)))) rfl ?_
    refine r_seq ?_
    refine st_seq ?_
    refine st_condt hb27 rfl ?_
    refine st_skip ?_
    refine n_sq ?_
    refine st_seq ?_
    refine st_block ?_
    refine st_seq ?_
    refine st_region ?_
    refine r_pure (.int .i64 i17) rfl ?_
    refine r_pure (.int .i64 i17) rfl ?_
    refine r_seq ?_
    refine st_seq ?_
    refine st_region ?_
    refine r_pure (.func (.func gf9) #[] (List.toArray gcap10)) rfl ?_
    refine r_pure (.slice A1 s_.length c2) rfl ?_
    refine r_pure (.int .i64 i17) rfl ?_
    have hA33 := (hv4 _ H13).adO hj30
    refine r_ix IX25 rfl rfl hA33 h028 h129 ?_
    refine r_ldA [.int .i64 y22.Kind, .int .i64 y22.Amount] LD24 rfl rfl ((hv4 _ H13).csA hA33 hj30) ?_
    obtain ⟨y34, hy35, hm⟩ := bind_some hm
    refine r_callv rfl ge11 (gp12 _ _ hy35 _ _ H13 (fun _ H => H)) ?_
    rintro e38 wd37 ⟨rfl, H36⟩
    refine ⟨_, rfl, ?_⟩
    refine r_seq ?_
    rcases ite_some hm with ⟨hb39, hm⟩ | ⟨hb39, hm⟩
    · refine st_condt hb39 rfl ?_
      refine st_seq ?_
      refine st_region ?_
      refine r_pure (.int .i64 i17) rfl ?_
      refine r_pure (.int .i64 i17) rfl ?_
      refine r_seq ?_
      have hq_ := Option.some.inj hm
      subst hq_
      have hq_ := Option.some.inj (show some (i17 : Int) = some r0_ from hm14)
      subst hq_
      refine st_ret1 rfl rfl (Nat.le_of_ble_eq_true rfl) rfl ?_
      exact ⟨rfl, H36⟩
    · refine st_condf hb39 rfl ?_
      refine st_skip ?_
      refine n_bl ?_
      refine n_sq ?_
      refine st_region ?_
      refine r_pure (.int .i64 (w64 (i17 + 1))) rfl ?_
      refine r_pure (.int .i64 (w64 (i17 + 1))) rfl ?_
      refine r_nil ?_
      refine n_round (IH25 _ _ rfl _ _ _ ⟨i17 + 1, dn18 ++ [y22], rfl, range_more hxs19, range_len hi20, upk (ac rfl (ac rfl (ac rfl (ac hnx31 an)))), H36⟩ hm)

set_option maxHeartbeats 2000000 in
theorem fx_Add_c1_ok {w0 w : World} {Γ : List (World → Prop)} (y_ : api_Item) (b2 : Nat) (cap1 : api_Item) (hv3 : ∀ u, Hp w0 Γ u → Bx b2 24 [.int .i64 cap1.Kind, .int .i64 cap1.Amount] u) (r0_ : Bool) (H : Hp w0 (Γ) w) (hm : fx_Add_c1 y_ cap1 = some r0_) : Calls Try.prog 19 #[.agg #[.int .i64 y_.Kind, .int .i64 y_.Amount], .pointer (some ⟨b2, 0, none⟩)] w (fun e w => e = .returned (.bool r0_) ∧ Hp w0 (Γ) w) := by
  unfold fx_Add_c1 at hm
  refine st_enter Try.func19 rfl Try.ntmps19 (Nat.le_of_ble_eq_true rfl) ?_
  refine st_seq ?_
  refine st_region ?_
  refine r_box [.int .i64 y_.Kind, .int .i64 y_.Amount] H rfl ?_
  intro b4 wd6 H5
  refine r_pure (.bool false) rfl ?_
  refine r_seq ?_
  refine st_seq ?_
  refine st_region ?_
  refine r_fa FA24_0 ⟨b4, 0, none⟩ rfl rfl ?_
  refine r_ld1 (.int .i64 y_.Kind) LD3 rfl ((H5.g0).cell _ rfl) ?_
  refine r_fa FA24_0 ⟨b2, 0, none⟩ rfl rfl ?_
  refine r_ld1 (.int .i64 cap1.Kind) LD3 rfl ((hv3 _ H5.d).cell _ rfl) ?_
  refine r_pure (.bool (y_.Kind == cap1.Kind)) rfl ?_
  refine r_pure (.bool (y_.Kind == cap1.Kind)) rfl ?_
  refine r_seq ?_
  have hq_ := Option.some.inj hm
  subst hq_
  refine st_ret1 rfl rfl (Nat.le_of_ble_eq_true rfl) rfl ?_
  exact ⟨rfl, H5.d⟩

set_option maxHeartbeats 2000000 in
theorem math_bits_Len64_ok {w0 w : World} {Γ : List (World → Prop)} (x_ : Int) (r0_ : Int) (H : Hp w0 (Γ) w) (hm : math_bits_Len64 x_ = some r0_) : Calls Try.prog 40 #[.int .u64 x_] w (fun e w => e = .returned (.int .i64 r0_) ∧ Hp w0 (Γ) w) := by
  unfold math_bits_Len64 at hm
  refine st_enter Try.func40 rfl Try.ntmps40 (Nat.le_of_ble_eq_true rfl) ?_
  refine st_seq ?_
  refine st_region ?_
  refine r_pure (.int .i64 0) rfl ?_
  refine r_seq ?_
  refine st_seq ?_
  refine st_seq ?_
  refine st_region ?_
  refine r_pure (.int .u64 x_) rfl ?_
  refine r_pure (.bool (decide (x_ ≥ 4294967296))) rfl ?_
  refine r_seq ?_
  rcases ite_some hm with ⟨hb1, hm⟩ | ⟨hb1, hm⟩
  · cases hm
  · refine st_condf hb1 rfl ?_
    refine st_skip ?_
    refine n_sq ?_
    refine st_seq ?_
    refine st_seq ?_
    refine st_region ?_
    refine r_pure (.int .u64 x_) rfl ?_
    refine r_pure (.bool (decide (x_ ≥ 65536))) rfl ?_
    refine r_seq ?_
    rcases ite_some hm with ⟨hb2, hm⟩ | ⟨hb2, hm⟩
    · cases hm
    · refine st_condf hb2 rfl ?_
      refine st_skip ?_
      refine n_sq ?_
      refine st_seq ?_
      refine st_seq ?_
      refine st_region ?_
      refine r_pure (.int .u64 x_) rfl ?_
      refine r_pure (.bool (decide (x_ ≥ 256))) rfl ?_
      refine r_seq ?_
      rcases ite_some hm with ⟨hb3, hm⟩ | ⟨hb3, hm⟩
      · cases hm
      · refine st_condf hb3 rfl ?_
        refine st_skip ?_
        refine n_sq ?_
        refine st_seq ?_
        refine st_region ?_
        refine r_pure (.int .i64 0) rfl ?_
        refine r_pure (.int .u64 x_) rfl ?_
        refine r_conv Try.underlying64 Try.underlying5 rfl ?_
        obtain ⟨h4, hm⟩ := gd_some hm
        refine r_byte Try.underlying9 rfl rfl h4 ?_
        refine r_conv Try.underlying5 Try.underlying3 rfl ?_
        refine r_pure (.int .i64 (w64 (0 + w64 (byteAt (⟨#[0, 1, 2, 2, 3, 3, 3, 3, 4, 4, 4, 4, 4, 4, 4, 4, 5, 5, 5, 5, 5, 5, 5, 5, 5, 5, 5, 5, 5, 5, 5, 5, 6, 6, 6, 6, 6, 6, 6, 6, 6, 6, 6, 6, 6, 6, 6, 6, 6, 6, 6, 6, 6, 6, 6, 6, 6, 6, 6, 6, 6, 6, 6, 6, 7, 7, 7, 7, 7, 7, 7, 7, 7, 7, 7, 7, 7, 7, 7, 7, 7, 7, 7, 7, 7, 7, 7, 7, 7, 7, 7, 7, 7, 7, 7, 7, 7, 7, 7, 7, 7, 7, 7, 7, 7, 7, 7, 7, 7, 7, 7, 7, 7, 7, 7, 7, 7, 7, 7, 7, 7, 7, 7, 7, 7, 7, 7, 7, 8, 8, 8, 8, 8, 8, 8, 8, 8, 8, 8, 8, 8, 8, 8, 8, 8, 8, 8, 8, 8, 8, 8, 8, 8, 8, 8, 8, 8, 8, 8, 8, 8, 8, 8, 8, 8, 8, 8, 8, 8, 8, 8, 8, 8, 8, 8, 8, 8, 8, 8, 8, 8, 8, 8, 8, 8, 8, 8, 8, 8, 8, 8, 8, 8, 8, 8, 8, 8, 8, 8, 8, 8, 8, 8, 8, 8, 8, 8, 8, 8, 8, 8, 8, 8, 8, 8, 8, 8, 8, 8, 8, 8, 8, 8, 8, 8, 8, 8, 8, 8, 8, 8, 8, 8, 8, 8, 8, 8, 8, 8, 8, 8, 8, 8, 8, 8, 8, 8, 8, 8, 8, 8, 8, 8, 8, 8, 8]⟩ : ByteArray) (IntKind.u8.wrap x_))))) rfl ?_
        refine r_pure (.int .i64 (w64 (0 + w64 (byteAt (⟨#[0, 1, 2, 2, 3, 3, 3, 3, 4, 4, 4, 4, 4, 4, 4, 4, 5, 5, 5, 5, 5, 5, 5, 5, 5, 5, 5, 5, 5, 5, 5, 5, 6, 6, 6, 6, 6, 6, 6, 6, 6, 6, 6, 6, 6, 6, 6, 6, 6, 6, 6, 6, 6, 6, 6, 6, 6, 6, 6, 6, 6, 6, 6, 6, 7, 7, 7, 7, 7, 7, 7, 7, 7, 7, 7, 7, 7, 7, 7, 7, 7, 7, 7, 7, 7, 7, 7, 7, 7, 7, 7, 7, 7, 7, 7, 7, 7, 7, 7, 7, 7, 7, 7, 7, 7, 7, 7, 7, 7, 7, 7, 7, 7, 7, 7, 7, 7, 7, 7, 7, 7, 7, 7, 7, 7, 7, 7, 7, 8, 8, 8, 8, 8, 8, 8, 8, 8, 8, 8, 8, 8, 8, 8, 8, 8, 8, 8, 8, 8, 8, 8, 8, 8, 8, 8, 8, 8, 8, 8, 8, 8, 8, 8, 8, 8, 8, 8, 8, 8, 8, 8, 8, 8, 8, 8, 8, 8, 8, 8, 8, 8, 8, 8, 8, 8, 8, 8, 8, 8, 8, 8, 8, 8, 8, 8, 8, 8, 8, 8, 8, 8, 8, 8, 8, 8, 8, 8, 8, 8, 8, 8, 8, 8, 8, 8, 8, 8, 8, 8, 8, 8, 8, 8, 8, 8, 8, 8, 8, 8, 8, 8, 8, 8, 8, 8, 8, 8, 8, 8, 8, 8, 8, 8, 8, 8, 8, 8, 8, 8, 8, 8, 8, 8, 8, 8, 8]⟩ : ByteArray) (IntKind.u8.wrap x_))))) rfl ?_
        refine r_seq ?_
        have hq_ := Option.some.inj hm
        subst hq_
        refine st_ret1 rfl rfl (Nat.le_of_ble_eq_true rfl) rfl ?_
        exact ⟨rfl, H⟩

set_option maxHeartbeats 2000000 in
theorem math_bits_Len_ok {w0 w : World} {Γ : List (World → Prop)} (x_ : Int) (r0_ : Int) (H : Hp w0 (Γ) w) (hm : math_bits_Len x_ = some r0_) : Calls Try.prog 28 #[.int .u64 x_] w (fun e w => e = .returned (.int .i64 r0_) ∧ Hp w0 (Γ) w) := by
  unfold math_bits_Len at hm
  refine st_enter Try.func28 rfl Try.ntmps28 (Nat.le_of_ble_eq_true rfl) ?_
  refine st_seq ?_
  refine st_region ?_
  refine r_pure (.int .i64 0) rfl ?_
  refine r_seq ?_
  refine st_seq ?_
  refine st_condf rfl rfl ?_
  refine st_skip ?_
  refine n_sq ?_
  refine st_seq ?_
  refine st_region ?_
  refine r_pure (.int .u64 x_) rfl ?_
  obtain ⟨y1, hy2, hm⟩ := bind_some hm
  refine r_callf Try.call40 (math_bits_Len64_ok x_ y1 H hy2) ?_
  rintro e4 wd3 ⟨rfl, H6⟩
  refine ⟨_, rfl, ?_⟩
  refine r_pure (.int .i64 y1) rfl ?_
  refine r_seq ?_
  have hq_ := Option.some.inj hm
  subst hq_
  refine st_ret1 rfl rfl (Nat.le_of_ble_eq_true rfl) rfl ?_
  exact ⟨rfl, H6⟩

set_option maxHeartbeats 2000000 in
theorem slices_insertionSortCmpFunc_api_Item_ok {w0 w : World} {Γ : List (World → Prop)} (data : List api_Item) (A1 : Option Addr) (n3 c2 : Nat) (a_ : Int) (b_ : Int) (fv4 : Value) (cmp : (api_Item × api_Item) → Option Int) (hp5 : FnOk Try.prog w0 Γ fv4 (fun x => [.agg #[.int .i64 x.1.Kind, .int .i64 x.1.Amount], .agg #[.int .i64 x.2.Kind, .int .i64 x.2.Amount]]) (fun r => .int .i64 r) cmp) (r0_ : List api_Item) (H : Hp w0 (Row K24 (.slice A1 n3 c2) data :: Γ) w) (hm : slices_insertionSortCmpFunc_api_Item data a_ b_ cmp = some r0_) : Calls Try.prog 31 #[.slice A1 n3 c2, .int .i64 a_, .int .i64 b_, fv4] w (fun e w => e = .returned (.tuple #[]) ∧ Hp w0 (Row K24 (.slice A1 n3 c2) r0_ :: Γ) w) := by
  obtain ⟨gf6, gcap7, rfl, ge8, gp9⟩ := hp5
  obtain rfl := (H.g0).leneq
  unfold slices_insertionSortCmpFunc_api_Item at hm
  refine st_enter Try.func31 rfl Try.ntmps31 (Nat.le_of_ble_eq_true rfl) ?_
  refine st_seq ?_
  refine st_region ?_
  refine r_pure (.int .i64 a_) rfl ?_
  refine r_pure (.int .i64 (w64 (a_ + 1))) rfl ?_
  refine r_pure (.int .i64 (w64 (a_ + 1))) rfl ?_
  refine r_seq ?_
  refine st_block ?_
  obtain ⟨tl16, hl17, hm15⟩ := bind_some hm
  refine st_loopF (slices_insertionSortCmpFunc_api_Item.l1 b_ a_ cmp) (fun s ρ w => ∃ xs12 : List api_Item, ∃ v13 : Int, (xs12, v13) = s ∧ (∃ base, ρ = updl base [(0, .slice A1 data.length c2), (1, .int .i64 a_), (2, .int .i64 b_), (3, .func (.func gf6) #[] (List.toArray gcap7)), (8, .int .i64 v13)]) ∧ Hp w0 (Row K24 (.slice A1 data.length c2) xs12 :: Γ) w) hl17 (fun _ => rfl) ⟨data, w64 (a_ + 1), rfl, upk (ac rfl (ac rfl (ac rfl (ac rfl (ac rfl an))))), H⟩ ?_
  rintro fuel23 IH25 s ρ w ⟨xs12, v13, rfl, ⟨base, rfl⟩, H14⟩ hm
  rw [slices_insertionSortCmpFunc_api_Item.l1] at hm
  refine st_seq ?_
  refine st_seq ?_
  refine st_region ?_
  refine r_pure (.int .i64 v13) rfl ?_
  refine r_pure (.int .i64 b_) rfl ?_
  refine r_pure (.bool (decide (v13 < b_))) rfl ?_
  refine r_seq ?_
  rcases ite_some hm with ⟨hb26, hm⟩ | ⟨hb26, hm⟩
  · refine st_condt hb26 rfl ?_
    refine st_skip ?_
    refine n_sq ?_
    refine st_seq ?_
    refine st_block ?_
    refine st_seq ?_
    refine st_region ?_
    refine r_pure (.int .i64 v13) rfl ?_
    refine r_pure (.int .i64 v13) rfl ?_
    refine r_seq ?_
    refine st_block ?_
    obtain ⟨tl33, hl34, hm32⟩ := bind_some hm
    refine st_loopF (slices_insertionSortCmpFunc_api_Item.l2 a_ cmp) (fun s ρ w => ∃ xs29 : List api_Item, ∃ v30 : Int, (xs29, v30) = s ∧ (∃ base, ρ = updl base [(0, .slice A1 data.length c2), (1, .int .i64 a_), (2, .int .i64 b_), (3, .func (.func gf6) #[] (List.toArray gcap7)), (8, .int .i64 v13), (9, .int .i64 v30)]) ∧ Hp w0 (Row K24 (.slice A1 data.length c2) xs29 :: Γ) w) hl34 (fun _ => rfl) ⟨xs12, v13, rfl, upk (ac rfl (ac rfl (ac rfl (ac rfl (ac rfl (ac rfl an)))))), H14⟩ ?_
    rintro fuel40 IH42 s ρ w ⟨xs29, v30, rfl, ⟨base, rfl⟩, H31⟩ hm
    rw [slices_insertionSortCmpFunc_api_Item.l2] at hm
    refine st_seq ?_
    refine st_cut (fun ρ w => ∃ q43 : Bool, (∃ base, ρ = updl base [(0, .slice A1 data.length c2), (1, .int .i64 a_), (2, .int .i64 b_), (3, .func (.func gf6) #[] (List.toArray gcap7)), (8, .int .i64 v13), (9, .int .i64 v30), (34, .bool q43)]) ∧ Hp w0 (Row K24 (.slice A1 data.length c2) xs29 :: Γ) w ∧ slices_insertionSortCmpFunc_api_Item.j1 v30 xs29 (slices_insertionSortCmpFunc_api_Item.l2 a_ cmp fuel40) q43 = some tl33) ?_ ?_
    · rcases ite_some hm with ⟨hb177, hm⟩ | ⟨hb177, hm⟩
      · obtain ⟨⟨h0178, h1179⟩, hm⟩ := gd_some hm
        have hj180 := rd_get h0178 h1179
        obtain ⟨⟨h0182, h1183⟩, hm⟩ := gd_some hm
        have hj184 := rd_get h0182 h1183
        obtain ⟨y185, hy186, hm⟩ := bind_some hm
        refine Flow.run' [[], [], [0, 1], [0, 1, 2], [0, 1, 2, 3], [0, 1, 2, 3], [0, 1, 2, 3], [0, 1, 2, 3, 5, 6], [0, 1, 2, 3, 5, 6, 7], [0, 1, 2, 3], [0, 1, 2, 3], [0, 1, 2, 3, 10], [0, 1, 2, 3, 9, 10, 11], [0, 1, 2, 3, 9, 10, 11, 12], [0, 1, 2, 3, 4, 5, 6, 7, 8, 9, 10, 11, 12, 13], [0, 1, 2, 3, 4, 5, 6, 7, 8, 9, 10, 11, 12, 13, 14], [0, 1, 2, 3, 4, 5, 6, 7, 8, 9, 10, 11, 12, 13, 14, 15]] [(18, 0), (19, 1), (20, 2), (21, 3), (22, 4), (23, 5), (24, 6), (25, 7), (26, 8), (27, 9), (28, 10), (29, 11), (30, 12), (31, 13), (32, 14), (33, 15), (34, 16)] [(fun η176 v => v.1 = .int .i64 v30), (fun η176 v => v.1 = .int .i64 a_), (fun η176 v => v.1 = .bool (decide (v30 > a_))), (fun η176 v => v.1 = .bool (decide (v30 > a_))), (fun η176 v => v.1 = .func (.func gf6) #[] (List.toArray gcap7)), (fun η176 v => v.1 = .slice A1 data.length c2), (fun η176 v => v.1 = .int .i64 v30), (fun η176 v => v.1 = .pointer (some ((oA A1).add (Int.toNat v30 * 2)))), (fun η176 v => v.1 = .agg #[.int .i64 ((rd xs29 v30).Kind), .int .i64 ((rd xs29 v30).Amount)]), (fun η176 v => v.1 = .slice A1 data.length c2), (fun η176 v => v.1 = .int .i64 v30), (fun η176 v => v.1 = .int .i64 (w64 (v30 - 1))), (fun η176 v => v.1 = .pointer (some ((oA A1).add (Int.toNat (w64 (v30 - 1)) * 2)))), (fun η176 v => v.1 = .agg #[.int .i64 ((rd xs29 (w64 (v30 - 1))).Kind), .int .i64 ((rd xs29 (w64 (v30 - 1))).Amount)]), (fun η176 v => v.1 = .int .i64 y185), (fun η176 v => v.1 = .bool (decide (y185 < 0))), (fun η176 v => v.1 = .bool (decide (y185 < 0)))] [] rfl (by kernel_rfl) (by kernel_rfl) H31 ⟨?_, ?_, ?_, ?_, ?_, ?_, ?_, ?_, ?_, ?_, ?_, ?_, ?_, ?_, ?_, ?_, ?_, trivial⟩ ?_
        · intro η176 wd193 Δ194 hE190 hR191 H192
          have H192 : Hp w0 ((Δ194 ++ (Row K24 (.slice A1 data.length c2) xs29 :: Γ))) wd193 := H192
          refine sp_op [(9, .int .i64 v30)] (ac rfl an) ?_
          refine r_pure (.int .i64 v30) rfl ?_
          exact r_nil (n_lp ⟨_, rfl, undef, rfl, H192⟩)
        · intro η176 wd198 Δ199 hE195 hR196 H197
          have H197 : Hp w0 ((Δ199 ++ (Row K24 (.slice A1 data.length c2) xs29 :: Γ))) wd198 := H197
          refine sp_op [(1, .int .i64 a_)] (ac rfl an) ?_
          refine r_pure (.int .i64 a_) rfl ?_
          exact r_nil (n_lp ⟨_, rfl, undef, rfl, H197⟩)
        · intro η176 wd203 Δ204 hE200 hR201 H202
          have H202 : Hp w0 ((Δ204 ++ (Row K24 (.slice A1 data.length c2) xs29 :: Γ))) wd203 := H202
          refine sp_op [(18, .int .i64 v30), (19, .int .i64 a_)] (ac (hE200 0 (by decide)) (ac (hE200 1 (by decide)) an)) ?_
          refine r_pure (.bool (decide (v30 > a_))) rfl ?_
          exact r_nil (n_lp ⟨_, rfl, undef, rfl, H202⟩)
        · intro η176 wd208 Δ209 hE205 hR206 H207
          have H207 : Hp w0 ((Δ209 ++ (Row K24 (.slice A1 data.length c2) xs29 :: Γ))) wd208 := H207
          refine sp_op [(20, .bool (decide (v30 > a_)))] (ac (hE205 2 (by decide)) an) ?_
          refine r_pure (.bool (decide (v30 > a_))) rfl ?_
          exact r_nil (n_lp ⟨_, rfl, undef, rfl, H207⟩)
        · intro η176 wd213 Δ214 hE210 hR211 H212
          have H212 : Hp w0 ((Δ214 ++ (Row K24 (.slice A1 data.length c2) xs29 :: Γ))) wd213 := H212
          refine sp_op [(3, .func (.func gf6) #[] (List.toArray gcap7)), (21, .bool (decide (v30 > a_)))] (ac rfl (ac (hE210 3 (by decide)) an)) ?_
          refine r_pure (.func (.func gf6) #[] (List.toArray gcap7)) rfl ?_ (wn_t rfl rfl (by decide) rfl hb177)
          exact r_nil (n_lp ⟨_, rfl, undef, rfl, H212⟩)
        · intro η176 wd218 Δ219 hE215 hR216 H217
          have H217 : Hp w0 ((Δ219 ++ (Row K24 (.slice A1 data.length c2) xs29 :: Γ))) wd218 := H217
          refine sp_op [(0, .slice A1 data.length c2), (21, .bool (decide (v30 > a_)))] (ac rfl (ac (hE215 3 (by decide)) an)) ?_
          refine r_pure (.slice A1 data.length c2) rfl ?_ (wn_t rfl rfl (by decide) rfl hb177)
          exact r_nil (n_lp ⟨_, rfl, undef, rfl, H217⟩)
        · intro η176 wd223 Δ224 hE220 hR221 H222
          have H222 : Hp w0 ((Δ224 ++ (Row K24 (.slice A1 data.length c2) xs29 :: Γ))) wd223 := H222
          refine sp_op [(9, .int .i64 v30), (21, .bool (decide (v30 > a_)))] (ac rfl (ac (hE220 3 (by decide)) an)) ?_
          refine r_pure (.int .i64 v30) rfl ?_ (wn_t rfl rfl (by decide) rfl hb177)
          exact r_nil (n_lp ⟨_, rfl, undef, rfl, H222⟩)
        · intro η176 wd228 Δ229 hE225 hR226 H227
          have H227 : Hp w0 ((Δ229 ++ (Row K24 (.slice A1 data.length c2) xs29 :: Γ))) wd228 := H227
          refine sp_op [(21, .bool (decide (v30 > a_))), (23, .slice A1 data.length c2), (24, .int .i64 v30)] (ac (hE225 3 (by decide)) (ac (hE225 5 (by decide)) (ac (hE225 6 (by decide)) an))) ?_
          have hA233 := ((H227).tl.g0.rd).adO hj180
          refine r_ix IX25 rfl rfl hA233 h0178 (by have h1_ := ((H227).tl.g0).leneq; have h2_ := h1179; rw [← h1_] at h2_; exact h2_) ?_ (wn_t rfl rfl (by decide) rfl hb177)
          exact r_nil (n_lp ⟨_, rfl, undef, rfl, H227⟩)
        · intro η176 wd237 Δ238 hE234 hR235 H236
          have H236 : Hp w0 ((Δ238 ++ (Row K24 (.slice A1 data.length c2) xs29 :: Γ))) wd237 := H236
          refine sp_op [(21, .bool (decide (v30 > a_))), (25, .pointer (some ((oA A1).add (Int.toNat v30 * 2))))] (ac (hE234 3 (by decide)) (ac (hE234 7 (by decide)) an)) ?_
          have hA239 := ((H236).tl.g0.rd).adO hj180
          refine r_ldA [.int .i64 ((rd xs29 v30).Kind), .int .i64 ((rd xs29 v30).Amount)] LD24 rfl rfl (((H236).tl.g0.rd).csA hA239 hj180) ?_ (wn_t rfl rfl (by decide) rfl hb177)
          exact r_nil (n_lp ⟨_, rfl, undef, rfl, H236⟩)
        · intro η176 wd243 Δ244 hE240 hR241 H242
          have H242 : Hp w0 ((Δ244 ++ (Row K24 (.slice A1 data.length c2) xs29 :: Γ))) wd243 := H242
          refine sp_op [(0, .slice A1 data.length c2), (21, .bool (decide (v30 > a_)))] (ac rfl (ac (hE240 3 (by decide)) an)) ?_
          refine r_pure (.slice A1 data.length c2) rfl ?_ (wn_t rfl rfl (by decide) rfl hb177)
          exact r_nil (n_lp ⟨_, rfl, undef, rfl, H242⟩)
        · intro η176 wd248 Δ249 hE245 hR246 H247
          have H247 : Hp w0 ((Δ249 ++ (Row K24 (.slice A1 data.length c2) xs29 :: Γ))) wd248 := H247
          refine sp_op [(9, .int .i64 v30), (21, .bool (decide (v30 > a_)))] (ac rfl (ac (hE245 3 (by decide)) an)) ?_
          refine r_pure (.int .i64 v30) rfl ?_ (wn_t rfl rfl (by decide) rfl hb177)
          exact r_nil (n_lp ⟨_, rfl, undef, rfl, H247⟩)
        · intro η176 wd253 Δ254 hE250 hR251 H252
          have H252 : Hp w0 ((Δ254 ++ (Row K24 (.slice A1 data.length c2) xs29 :: Γ))) wd253 := H252
          refine sp_op [(21, .bool (decide (v30 > a_))), (28, .int .i64 v30)] (ac (hE250 3 (by decide)) (ac (hE250 10 (by decide)) an)) ?_
          refine r_pure (.int .i64 (w64 (v30 - 1))) rfl ?_ (wn_t rfl rfl (by decide) rfl hb177)
          exact r_nil (n_lp ⟨_, rfl, undef, rfl, H252⟩)
        · intro η176 wd258 Δ259 hE255 hR256 H257
          have H257 : Hp w0 ((Δ259 ++ (Row K24 (.slice A1 data.length c2) xs29 :: Γ))) wd258 := H257
          refine sp_op [(21, .bool (decide (v30 > a_))), (27, .slice A1 data.length c2), (29, .int .i64 (w64 (v30 - 1)))] (ac (hE255 3 (by decide)) (ac (hE255 9 (by decide)) (ac (hE255 11 (by decide)) an))) ?_
          have hA263 := ((H257).tl.g0.rd).adO hj184
          refine r_ix IX25 rfl rfl hA263 h0182 (by have h1_ := ((H257).tl.g0).leneq; have h2_ := h1183; rw [← h1_] at h2_; exact h2_) ?_ (wn_t rfl rfl (by decide) rfl hb177)
          exact r_nil (n_lp ⟨_, rfl, undef, rfl, H257⟩)
        · intro η176 wd267 Δ268 hE264 hR265 H266
          have H266 : Hp w0 ((Δ268 ++ (Row K24 (.slice A1 data.length c2) xs29 :: Γ))) wd267 := H266
          refine sp_op [(21, .bool (decide (v30 > a_))), (30, .pointer (some ((oA A1).add (Int.toNat (w64 (v30 - 1)) * 2))))] (ac (hE264 3 (by decide)) (ac (hE264 12 (by decide)) an)) ?_
          have hA269 := ((H266).tl.g0.rd).adO hj184
          refine r_ldA [.int .i64 ((rd xs29 (w64 (v30 - 1))).Kind), .int .i64 ((rd xs29 (w64 (v30 - 1))).Amount)] LD24 rfl rfl (((H266).tl.g0.rd).csA hA269 hj184) ?_ (wn_t rfl rfl (by decide) rfl hb177)
          exact r_nil (n_lp ⟨_, rfl, undef, rfl, H266⟩)
        · intro η176 wd273 Δ274 hE270 hR271 H272
          have H272 : Hp w0 ((Δ274 ++ (Row K24 (.slice A1 data.length c2) xs29 :: Γ))) wd273 := H272
          refine sp_op [(21, .bool (decide (v30 > a_))), (22, .func (.func gf6) #[] (List.toArray gcap7)), (26, .agg #[.int .i64 ((rd xs29 v30).Kind), .int .i64 ((rd xs29 v30).Amount)]), (31, .agg #[.int .i64 ((rd xs29 (w64 (v30 - 1))).Kind), .int .i64 ((rd xs29 (w64 (v30 - 1))).Amount)])] (ac (hE270 3 (by decide)) (ac (hE270 4 (by decide)) (ac (hE270 8 (by decide)) (ac (hE270 13 (by decide)) an)))) ?_
          refine r_callv rfl ge8 (gp9 _ _ hy186 _ _ H272 (fun _ H => (H).tl.d)) ?_ (wn_t rfl rfl (by decide) rfl hb177)
          rintro e279 wd278 ⟨rfl, H277⟩
          refine ⟨_, rfl, ?_⟩
          exact r_nil (n_lp ⟨_, rfl, undef, rfl, H277⟩)
        · intro η176 wd283 Δ284 hE280 hR281 H282
          have H282 : Hp w0 ((Δ284 ++ (Row K24 (.slice A1 data.length c2) xs29 :: Γ))) wd283 := H282
          refine sp_op [(21, .bool (decide (v30 > a_))), (32, .int .i64 y185)] (ac (hE280 3 (by decide)) (ac (hE280 14 (by decide)) an)) ?_
          refine r_pure (.bool (decide (y185 < 0))) rfl ?_ (wn_t rfl rfl (by decide) rfl hb177)
          exact r_nil (n_lp ⟨_, rfl, undef, rfl, H282⟩)
        · intro η176 wd288 Δ289 hE285 hR286 H287
          have H287 : Hp w0 ((Δ289 ++ (Row K24 (.slice A1 data.length c2) xs29 :: Γ))) wd288 := H287
          refine sp_op [(21, .bool (decide (v30 > a_))), (33, .bool (decide (y185 < 0)))] (ac (hE285 3 (by decide)) (ac (hE285 15 (by decide)) an)) ?_
          refine r_pick_t (.bool (decide (y185 < 0))) hb177 rfl rfl ?_
          exact r_nil (n_lp ⟨_, rfl, undef, rfl, H287⟩)
        · intro η176 wd291 hV292 H290
          have H293 : Hp w0 (Row K24 (.slice A1 data.length c2) xs29 :: Γ) wd291 := H290
          refine n_frame [(0, .slice A1 data.length c2), (1, .int .i64 a_), (2, .int .i64 b_), (3, .func (.func gf6) #[] (List.toArray gcap7)), (8, .int .i64 v13), (9, .int .i64 v30), (22, .func (.func gf6) #[] (List.toArray gcap7)), (23, .slice A1 data.length c2), (24, .int .i64 v30), (25, .pointer (some ((oA A1).add (Int.toNat v30 * 2)))), (26, .agg #[.int .i64 ((rd xs29 v30).Kind), .int .i64 ((rd xs29 v30).Amount)]), (27, .slice A1 data.length c2), (28, .int .i64 v30), (29, .int .i64 (w64 (v30 - 1))), (30, .pointer (some ((oA A1).add (Int.toNat (w64 (v30 - 1)) * 2)))), (31, .agg #[.int .i64 ((rd xs29 (w64 (v30 - 1))).Kind), .int .i64 ((rd xs29 (w64 (v30 - 1))).Amount)]), (32, .int .i64 y185), (33, .bool (decide (y185 < 0))), (34, .bool (decide (y185 < 0)))] (ac rfl (ac rfl (ac rfl (ac rfl (ac rfl (ac rfl (ac (hV292 4 rfl) (ac (hV292 5 rfl) (ac (hV292 6 rfl) (ac (hV292 7 rfl) (ac (hV292 8 rfl) (ac (hV292 9 rfl) (ac (hV292 10 rfl) (ac (hV292 11 rfl) (ac (hV292 12 rfl) (ac (hV292 13 rfl) (ac (hV292 14 rfl) (ac (hV292 15 rfl) (ac (hV292 16 rfl) an))))))))))))))))))) ?_
          refine n_cut ⟨decide (y185 < 0), upk (ac rfl (ac rfl (ac rfl (ac rfl (ac rfl (ac rfl (ac rfl an))))))), H293, hm⟩
      · refine Flow.run' [[], [], [0, 1], [0, 1, 2], [0, 1, 2, 3], [0, 1, 2, 3], [0, 1, 2, 3], [0, 1, 2, 3, 5, 6], [0, 1, 2, 3, 5, 6, 7], [0, 1, 2, 3], [0, 1, 2, 3], [0, 1, 2, 3, 10], [0, 1, 2, 3, 9, 10, 11], [0, 1, 2, 3, 9, 10, 11, 12], [0, 1, 2, 3, 4, 5, 6, 7, 8, 9, 10, 11, 12, 13], [0, 1, 2, 3, 4, 5, 6, 7, 8, 9, 10, 11, 12, 13, 14], [0, 1, 2, 3, 4, 5, 6, 7, 8, 9, 10, 11, 12, 13, 14, 15]] [(18, 0), (19, 1), (20, 2), (21, 3), (22, 4), (23, 5), (24, 6), (25, 7), (26, 8), (27, 9), (28, 10), (29, 11), (30, 12), (31, 13), (32, 14), (33, 15), (34, 16)] [(fun η176 v => v.1 = .int .i64 v30), (fun η176 v => v.1 = .int .i64 a_), (fun η176 v => v.1 = .bool (decide (v30 > a_))), (fun η176 v => v.1 = .bool (decide (v30 > a_))), (fun η176 v => v.1 = undef), (fun η176 v => v.1 = undef), (fun η176 v => v.1 = undef), (fun η176 v => v.1 = undef), (fun η176 v => v.1 = undef), (fun η176 v => v.1 = undef), (fun η176 v => v.1 = undef), (fun η176 v => v.1 = undef), (fun η176 v => v.1 = undef), (fun η176 v => v.1 = undef), (fun η176 v => v.1 = undef), (fun η176 v => v.1 = undef), (fun η176 v => v.1 = .bool false)] [] rfl (by kernel_rfl) (by kernel_rfl) H31 ⟨?_, ?_, ?_, ?_, ?_, ?_, ?_, ?_, ?_, ?_, ?_, ?_, ?_, ?_, ?_, ?_, ?_, trivial⟩ ?_
        · intro η176 wd297 Δ298 hE294 hR295 H296
          have H296 : Hp w0 ((Δ298 ++ (Row K24 (.slice A1 data.length c2) xs29 :: Γ))) wd297 := H296
          refine sp_op [(9, .int .i64 v30)] (ac rfl an) ?_
          refine r_pure (.int .i64 v30) rfl ?_
          exact r_nil (n_lp ⟨_, rfl, undef, rfl, H296⟩)
        · intro η176 wd302 Δ303 hE299 hR300 H301
          have H301 : Hp w0 ((Δ303 ++ (Row K24 (.slice A1 data.length c2) xs29 :: Γ))) wd302 := H301
          refine sp_op [(1, .int .i64 a_)] (ac rfl an) ?_
          refine r_pure (.int .i64 a_) rfl ?_
          exact r_nil (n_lp ⟨_, rfl, undef, rfl, H301⟩)
        · intro η176 wd307 Δ308 hE304 hR305 H306
          have H306 : Hp w0 ((Δ308 ++ (Row K24 (.slice A1 data.length c2) xs29 :: Γ))) wd307 := H306
          refine sp_op [(18, .int .i64 v30), (19, .int .i64 a_)] (ac (hE304 0 (by decide)) (ac (hE304 1 (by decide)) an)) ?_
          refine r_pure (.bool (decide (v30 > a_))) rfl ?_
          exact r_nil (n_lp ⟨_, rfl, undef, rfl, H306⟩)
        · intro η176 wd312 Δ313 hE309 hR310 H311
          have H311 : Hp w0 ((Δ313 ++ (Row K24 (.slice A1 data.length c2) xs29 :: Γ))) wd312 := H311
          refine sp_op [(20, .bool (decide (v30 > a_)))] (ac (hE309 2 (by decide)) an) ?_
          refine r_pure (.bool (decide (v30 > a_))) rfl ?_
          exact r_nil (n_lp ⟨_, rfl, undef, rfl, H311⟩)
        · intro η176 wd317 Δ318 hE314 hR315 H316
          have H316 : Hp w0 ((Δ318 ++ (Row K24 (.slice A1 data.length c2) xs29 :: Γ))) wd317 := H316
          refine sp_op [(3, .func (.func gf6) #[] (List.toArray gcap7)), (21, .bool (decide (v30 > a_)))] (ac rfl (ac (hE314 3 (by decide)) an)) ?_
          refine r_not (wn_f rfl rfl (by decide) rfl hb177) ?_
          exact r_nil (n_lp ⟨_, rfl, undef, rfl, H316⟩)
        · intro η176 wd322 Δ323 hE319 hR320 H321
          have H321 : Hp w0 ((Δ323 ++ (Row K24 (.slice A1 data.length c2) xs29 :: Γ))) wd322 := H321
          refine sp_op [(0, .slice A1 data.length c2), (21, .bool (decide (v30 > a_)))] (ac rfl (ac (hE319 3 (by decide)) an)) ?_
          refine r_not (wn_f rfl rfl (by decide) rfl hb177) ?_
          exact r_nil (n_lp ⟨_, rfl, undef, rfl, H321⟩)
        · intro η176 wd327 Δ328 hE324 hR325 H326
          have H326 : Hp w0 ((Δ328 ++ (Row K24 (.slice A1 data.length c2) xs29 :: Γ))) wd327 := H326
          refine sp_op [(9, .int .i64 v30), (21, .bool (decide (v30 > a_)))] (ac rfl (ac (hE324 3 (by decide)) an)) ?_
          refine r_not (wn_f rfl rfl (by decide) rfl hb177) ?_
          exact r_nil (n_lp ⟨_, rfl, undef, rfl, H326⟩)
        · intro η176 wd332 Δ333 hE329 hR330 H331
          have H331 : Hp w0 ((Δ333 ++ (Row K24 (.slice A1 data.length c2) xs29 :: Γ))) wd332 := H331
          refine sp_op [(21, .bool (decide (v30 > a_))), (23, undef), (24, undef)] (ac (hE329 3 (by decide)) (ac (hE329 5 (by decide)) (ac (hE329 6 (by decide)) an))) ?_
          refine r_not (wn_f rfl rfl (by decide) rfl hb177) ?_
          exact r_nil (n_lp ⟨_, rfl, undef, rfl, H331⟩)
        · intro η176 wd337 Δ338 hE334 hR335 H336
          have H336 : Hp w0 ((Δ338 ++ (Row K24 (.slice A1 data.length c2) xs29 :: Γ))) wd337 := H336
          refine sp_op [(21, .bool (decide (v30 > a_))), (25, undef)] (ac (hE334 3 (by decide)) (ac (hE334 7 (by decide)) an)) ?_
          refine r_not (wn_f rfl rfl (by decide) rfl hb177) ?_
          exact r_nil (n_lp ⟨_, rfl, undef, rfl, H336⟩)
        · intro η176 wd342 Δ343 hE339 hR340 H341
          have H341 : Hp w0 ((Δ343 ++ (Row K24 (.slice A1 data.length c2) xs29 :: Γ))) wd342 := H341
          refine sp_op [(0, .slice A1 data.length c2), (21, .bool (decide (v30 > a_)))] (ac rfl (ac (hE339 3 (by decide)) an)) ?_
          refine r_not (wn_f rfl rfl (by decide) rfl hb177) ?_
          exact r_nil (n_lp ⟨_, rfl, undef, rfl, H341⟩)
        · intro η176 wd347 Δ348 hE344 hR345 H346
          have H346 : Hp w0 ((Δ348 ++ (Row K24 (.slice A1 data.length c2) xs29 :: Γ))) wd347 := H346
          refine sp_op [(9, .int .i64 v30), (21, .bool (decide (v30 > a_)))] (ac rfl (ac (hE344 3 (by decide)) an)) ?_
          refine r_not (wn_f rfl rfl (by decide) rfl hb177) ?_
          exact r_nil (n_lp ⟨_, rfl, undef, rfl, H346⟩)
        · intro η176 wd352 Δ353 hE349 hR350 H351
          have H351 : Hp w0 ((Δ353 ++ (Row K24 (.slice A1 data.length c2) xs29 :: Γ))) wd352 := H351
          refine sp_op [(21, .bool (decide (v30 > a_))), (28, undef)] (ac (hE349 3 (by decide)) (ac (hE349 10 (by decide)) an)) ?_
          refine r_not (wn_f rfl rfl (by decide) rfl hb177) ?_
          exact r_nil (n_lp ⟨_, rfl, undef, rfl, H351⟩)
        · intro η176 wd357 Δ358 hE354 hR355 H356
          have H356 : Hp w0 ((Δ358 ++ (Row K24 (.slice A1 data.length c2) xs29 :: Γ))) wd357 := H356
          refine sp_op [(21, .bool (decide (v30 > a_))), (27, undef), (29, undef)] (ac (hE354 3 (by decide)) (ac (hE354 9 (by decide)) (ac (hE354 11 (by decide)) an))) ?_
          refine r_not (wn_f rfl rfl (by decide) rfl hb177) ?_
          exact r_nil (n_lp ⟨_, rfl, undef, rfl, H356⟩)
        · intro η176 wd362 Δ363 hE359 hR360 H361
          have H361 : Hp w0 ((Δ363 ++ (Row K24 (.slice A1 data.length c2) xs29 :: Γ))) wd362 := H361
          refine sp_op [(21, .bool (decide (v30 > a_))), (30, undef)] (ac (hE359 3 (by decide)) (ac (hE359 12 (by decide)) an)) ?_
          refine r_not (wn_f rfl rfl (by decide) rfl hb177) ?_
          exact r_nil (n_lp ⟨_, rfl, undef, rfl, H361⟩)
        · intro η176 wd367 Δ368 hE364 hR365 H366
          have H366 : Hp w0 ((Δ368 ++ (Row K24 (.slice A1 data.length c2) xs29 :: Γ))) wd367 := H366
          refine sp_op [(21, .bool (decide (v30 > a_))), (22, undef), (26, undef), (31, undef)] (ac (hE364 3 (by decide)) (ac (hE364 4 (by decide)) (ac (hE364 8 (by decide)) (ac (hE364 13 (by decide)) an)))) ?_
          refine r_not (wn_f rfl rfl (by decide) rfl hb177) ?_
          exact r_nil (n_lp ⟨_, rfl, undef, rfl, H366⟩)
        · intro η176 wd372 Δ373 hE369 hR370 H371
          have H371 : Hp w0 ((Δ373 ++ (Row K24 (.slice A1 data.length c2) xs29 :: Γ))) wd372 := H371
          refine sp_op [(21, .bool (decide (v30 > a_))), (32, undef)] (ac (hE369 3 (by decide)) (ac (hE369 14 (by decide)) an)) ?_
          refine r_not (wn_f rfl rfl (by decide) rfl hb177) ?_
          exact r_nil (n_lp ⟨_, rfl, undef, rfl, H371⟩)
        · intro η176 wd377 Δ378 hE374 hR375 H376
          have H376 : Hp w0 ((Δ378 ++ (Row K24 (.slice A1 data.length c2) xs29 :: Γ))) wd377 := H376
          refine sp_op [(21, .bool (decide (v30 > a_))), (33, undef)] (ac (hE374 3 (by decide)) (ac (hE374 15 (by decide)) an)) ?_
          refine r_pick_f (.bool false) hb177 rfl rfl ?_
          exact r_nil (n_lp ⟨_, rfl, undef, rfl, H376⟩)
        · intro η176 wd380 hV381 H379
          have H382 : Hp w0 (Row K24 (.slice A1 data.length c2) xs29 :: Γ) wd380 := H379
          refine n_frame [(0, .slice A1 data.length c2), (1, .int .i64 a_), (2, .int .i64 b_), (3, .func (.func gf6) #[] (List.toArray gcap7)), (8, .int .i64 v13), (9, .int .i64 v30), (22, undef), (23, undef), (24, undef), (25, undef), (26, undef), (27, undef), (28, undef), (29, undef), (30, undef), (31, undef), (32, undef), (33, undef), (34, .bool false)] (ac rfl (ac rfl (ac rfl (ac rfl (ac rfl (ac rfl (ac (hV381 4 rfl) (ac (hV381 5 rfl) (ac (hV381 6 rfl) (ac (hV381 7 rfl) (ac (hV381 8 rfl) (ac (hV381 9 rfl) (ac (hV381 10 rfl) (ac (hV381 11 rfl) (ac (hV381 12 rfl) (ac (hV381 13 rfl) (ac (hV381 14 rfl) (ac (hV381 15 rfl) (ac (hV381 16 rfl) an))))))))))))))))))) ?_
          refine n_cut ⟨false, upk (ac rfl (ac rfl (ac rfl (ac rfl (ac rfl (ac rfl (ac rfl an))))))), H382, hm⟩
    · rintro ρ w ⟨q43, ⟨base, rfl⟩, H44, hm⟩
      unfold slices_insertionSortCmpFunc_api_Item.j1 at hm
      rcases ite_some hm with ⟨hb45, hm⟩ | ⟨hb45, hm⟩
      · refine st_condt hb45 rfl ?_
        refine st_skip ?_
        refine n_sq ?_
        refine st_seq ?_
        refine st_block ?_
        obtain ⟨⟨h047, h148⟩, hm⟩ := gd_some hm
        have hj49 := rd_get h047 h148
        obtain ⟨⟨h051, h152⟩, hm⟩ := gd_some hm
        have hj53 := rd_get h051 h152
        obtain ⟨⟨h056, h157⟩, hm⟩ := gd_some hm
        have hj58 := rd_get h056 h157
        refine Flow.run' [[], [], [], [], [3], [], [], [6], [5, 6, 7], [5, 6, 7, 8], [], [], [10, 11], [10, 11, 12], [0, 1, 5, 6, 7, 8, 9, 10, 11, 12, 13], [0, 1, 5, 6, 7, 8, 9, 10, 11, 12, 13, 14], [0, 1, 2, 3, 4, 5, 6, 7, 8, 9, 10, 11, 12, 13, 14, 15], [0, 1, 2, 3, 4, 5, 6, 7, 8, 9, 10, 11, 12, 13, 14, 15, 16]] [(37, 0), (38, 1), (39, 2), (40, 3), (41, 4), (42, 5), (43, 6), (44, 7), (45, 8), (46, 9), (47, 10), (48, 11), (49, 12), (50, 13), (51, 14), (52, 16)] [(fun η46 v => v.1 = .slice A1 data.length c2), (fun η46 v => v.1 = .int .i64 v30), (fun η46 v => v.1 = .slice A1 data.length c2), (fun η46 v => v.1 = .int .i64 v30), (fun η46 v => v.1 = .int .i64 (w64 (v30 - 1))), (fun η46 v => v.1 = .slice A1 data.length c2), (fun η46 v => v.1 = .int .i64 v30), (fun η46 v => v.1 = .int .i64 (w64 (v30 - 1))), (fun η46 v => v.1 = .pointer (some ((oA A1).add (Int.toNat (w64 (v30 - 1)) * 2)))), (fun η46 v => v.1 = .agg #[.int .i64 ((rd xs29 (w64 (v30 - 1))).Kind), .int .i64 ((rd xs29 (w64 (v30 - 1))).Amount)]), (fun η46 v => v.1 = .slice A1 data.length c2), (fun η46 v => v.1 = .int .i64 v30), (fun η46 v => v.1 = .pointer (some ((oA A1).add (Int.toNat v30 * 2)))), (fun η46 v => v.1 = .agg #[.int .i64 ((rd xs29 v30).Kind), .int .i64 ((rd xs29 v30).Amount)]), (fun η46 v => v.1 = .pointer (some ((oA A1).add (Int.toNat v30 * 2)))), (fun _ _ => True), (fun η46 v => v.1 = .pointer (some ((oA A1).add (Int.toNat (w64 (v30 - 1)) * 2)))), (fun _ _ => True)] [⟨none, (some 15), fun η46 => Row K24 (.slice A1 data.length c2) xs29⟩, ⟨(some 15), (some 17), fun η46 => Row K24 (.slice A1 data.length c2) (xs29.set (Int.toNat v30) (rd xs29 (w64 (v30 - 1))))⟩, ⟨(some 17), none, fun η46 => Row K24 (.slice A1 data.length c2) ((xs29.set (Int.toNat v30) (rd xs29 (w64 (v30 - 1)))).set (Int.toNat (w64 (v30 - 1))) (rd xs29 v30))⟩] rfl (by kernel_rfl) (by kernel_rfl) H44 ⟨?_, ?_, ?_, ?_, ?_, ?_, ?_, ?_, ?_, ?_, ?_, ?_, ?_, ?_, ?_, ?_, ?_, ?_, trivial⟩ ?_
        · intro η46 wd64 Δ65 hE61 hR62 H63
          have H63 : Hp w0 ((Δ65 ++ Γ)) wd64 := H63
          refine sp_op [(0, .slice A1 data.length c2)] (ac rfl an) ?_
          refine r_pure (.slice A1 data.length c2) rfl ?_
          exact r_nil (n_lp ⟨_, rfl, undef, rfl, H63⟩)
        · intro η46 wd69 Δ70 hE66 hR67 H68
          have H68 : Hp w0 ((Δ70 ++ Γ)) wd69 := H68
          refine sp_op [(9, .int .i64 v30)] (ac rfl an) ?_
          refine r_pure (.int .i64 v30) rfl ?_
          exact r_nil (n_lp ⟨_, rfl, undef, rfl, H68⟩)
        · intro η46 wd74 Δ75 hE71 hR72 H73
          have H73 : Hp w0 ((Δ75 ++ Γ)) wd74 := H73
          refine sp_op [(0, .slice A1 data.length c2)] (ac rfl an) ?_
          refine r_pure (.slice A1 data.length c2) rfl ?_
          exact r_nil (n_lp ⟨_, rfl, undef, rfl, H73⟩)
        · intro η46 wd79 Δ80 hE76 hR77 H78
          have H78 : Hp w0 ((Δ80 ++ Γ)) wd79 := H78
          refine sp_op [(9, .int .i64 v30)] (ac rfl an) ?_
          refine r_pure (.int .i64 v30) rfl ?_
          exact r_nil (n_lp ⟨_, rfl, undef, rfl, H78⟩)
        · intro η46 wd84 Δ85 hE81 hR82 H83
          have H83 : Hp w0 ((Δ85 ++ Γ)) wd84 := H83
          refine sp_op [(40, .int .i64 v30)] (ac (hE81 3 (by decide)) an) ?_
          refine r_pure (.int .i64 (w64 (v30 - 1))) rfl ?_
          exact r_nil (n_lp ⟨_, rfl, undef, rfl, H83⟩)
        · intro η46 wd89 Δ90 hE86 hR87 H88
          have H88 : Hp w0 ((Δ90 ++ Γ)) wd89 := H88
          refine sp_op [(0, .slice A1 data.length c2)] (ac rfl an) ?_
          refine r_pure (.slice A1 data.length c2) rfl ?_
          exact r_nil (n_lp ⟨_, rfl, undef, rfl, H88⟩)
        · intro η46 wd94 Δ95 hE91 hR92 H93
          have H93 : Hp w0 ((Δ95 ++ Γ)) wd94 := H93
          refine sp_op [(9, .int .i64 v30)] (ac rfl an) ?_
          refine r_pure (.int .i64 v30) rfl ?_
          exact r_nil (n_lp ⟨_, rfl, undef, rfl, H93⟩)
        · intro η46 wd99 Δ100 hE96 hR97 H98
          have H98 : Hp w0 ((Δ100 ++ Γ)) wd99 := H98
          refine sp_op [(43, .int .i64 v30)] (ac (hE96 6 (by decide)) an) ?_
          refine r_pure (.int .i64 (w64 (v30 - 1))) rfl ?_
          exact r_nil (n_lp ⟨_, rfl, undef, rfl, H98⟩)
        · intro η46 wd104 Δ105 hE101 hR102 H103
          have H103 : Hp w0 ((Δ105 ++ Γ)) wd104 := H103
          refine sp_op [(42, .slice A1 data.length c2), (44, .int .i64 (w64 (v30 - 1)))] (ac (hE101 5 (by decide)) (ac (hE101 7 (by decide)) an)) ?_
          have hA109 := ((show (Row K24 (.slice A1 data.length c2) xs29) _ from (H103).memr (hR102 _ (List.mem_of_getElem? (i := 0) rfl) rfl)).rd).adO hj49
          refine r_ix IX25 rfl rfl hA109 h047 (by have h1_ := ((show (Row K24 (.slice A1 data.length c2) xs29) _ from (H103).memr (hR102 _ (List.mem_of_getElem? (i := 0) rfl) rfl))).leneq; have h2_ := h148; rw [← h1_] at h2_; exact h2_) ?_
          exact r_nil (n_lp ⟨_, rfl, undef, rfl, H103⟩)
        · intro η46 wd113 Δ114 hE110 hR111 H112
          have H112 : Hp w0 ((Δ114 ++ Γ)) wd113 := H112
          refine sp_op [(45, .pointer (some ((oA A1).add (Int.toNat (w64 (v30 - 1)) * 2))))] (ac (hE110 8 (by decide)) an) ?_
          have hA115 := ((show (Row K24 (.slice A1 data.length c2) xs29) _ from (H112).memr (hR111 _ (List.mem_of_getElem? (i := 0) rfl) rfl)).rd).adO hj49
          refine r_ldA [.int .i64 ((rd xs29 (w64 (v30 - 1))).Kind), .int .i64 ((rd xs29 (w64 (v30 - 1))).Amount)] LD24 rfl rfl (((show (Row K24 (.slice A1 data.length c2) xs29) _ from (H112).memr (hR111 _ (List.mem_of_getElem? (i := 0) rfl) rfl)).rd).csA hA115 hj49) ?_
          exact r_nil (n_lp ⟨_, rfl, undef, rfl, H112⟩)
        · intro η46 wd119 Δ120 hE116 hR117 H118
          have H118 : Hp w0 ((Δ120 ++ Γ)) wd119 := H118
          refine sp_op [(0, .slice A1 data.length c2)] (ac rfl an) ?_
          refine r_pure (.slice A1 data.length c2) rfl ?_
          exact r_nil (n_lp ⟨_, rfl, undef, rfl, H118⟩)
        · intro η46 wd124 Δ125 hE121 hR122 H123
          have H123 : Hp w0 ((Δ125 ++ Γ)) wd124 := H123
          refine sp_op [(9, .int .i64 v30)] (ac rfl an) ?_
          refine r_pure (.int .i64 v30) rfl ?_
          exact r_nil (n_lp ⟨_, rfl, undef, rfl, H123⟩)
        · intro η46 wd129 Δ130 hE126 hR127 H128
          have H128 : Hp w0 ((Δ130 ++ Γ)) wd129 := H128
          refine sp_op [(47, .slice A1 data.length c2), (48, .int .i64 v30)] (ac (hE126 10 (by decide)) (ac (hE126 11 (by decide)) an)) ?_
          have hA134 := ((show (Row K24 (.slice A1 data.length c2) xs29) _ from (H128).memr (hR127 _ (List.mem_of_getElem? (i := 0) rfl) rfl)).rd).adO hj53
          refine r_ix IX25 rfl rfl hA134 h051 (by have h1_ := ((show (Row K24 (.slice A1 data.length c2) xs29) _ from (H128).memr (hR127 _ (List.mem_of_getElem? (i := 0) rfl) rfl))).leneq; have h2_ := h152; rw [← h1_] at h2_; exact h2_) ?_
          exact r_nil (n_lp ⟨_, rfl, undef, rfl, H128⟩)
        · intro η46 wd138 Δ139 hE135 hR136 H137
          have H137 : Hp w0 ((Δ139 ++ Γ)) wd138 := H137
          refine sp_op [(49, .pointer (some ((oA A1).add (Int.toNat v30 * 2))))] (ac (hE135 12 (by decide)) an) ?_
          have hA140 := ((show (Row K24 (.slice A1 data.length c2) xs29) _ from (H137).memr (hR136 _ (List.mem_of_getElem? (i := 0) rfl) rfl)).rd).adO hj53
          refine r_ldA [.int .i64 ((rd xs29 v30).Kind), .int .i64 ((rd xs29 v30).Amount)] LD24 rfl rfl (((show (Row K24 (.slice A1 data.length c2) xs29) _ from (H137).memr (hR136 _ (List.mem_of_getElem? (i := 0) rfl) rfl)).rd).csA hA140 hj53) ?_
          exact r_nil (n_lp ⟨_, rfl, undef, rfl, H137⟩)
        · intro η46 wd144 Δ145 hE141 hR142 H143
          have H143 : Hp w0 ((Δ145 ++ Γ)) wd144 := H143
          refine sp_op [(37, .slice A1 data.length c2), (38, .int .i64 v30)] (ac (hE141 0 (by decide)) (ac (hE141 1 (by decide)) an)) ?_
          have hA146 := ((show (Row K24 (.slice A1 data.length c2) xs29) _ from (H143).memr (hR142 _ (List.mem_of_getElem? (i := 0) rfl) rfl)).rd).adO hj53
          refine r_ix IX25 rfl rfl hA146 h051 (by have h1_ := ((show (Row K24 (.slice A1 data.length c2) xs29) _ from (H143).memr (hR142 _ (List.mem_of_getElem? (i := 0) rfl) rfl))).leneq; have h2_ := h152; rw [← h1_] at h2_; exact h2_) ?_
          exact r_nil (n_lp ⟨_, rfl, undef, rfl, H143⟩)
        · intro η46 wd150 Δ151 hE147 hR148 H149
          have H149 : Hp w0 (Row K24 (.slice A1 data.length c2) xs29 :: (Δ151 ++ Γ)) wd150 := H149
          refine sp_op [(46, .agg #[.int .i64 ((rd xs29 (w64 (v30 - 1))).Kind), .int .i64 ((rd xs29 (w64 (v30 - 1))).Amount)]), (51, .pointer (some ((oA A1).add (Int.toNat v30 * 2))))] (ac (hE147 9 (by decide)) (ac (hE147 14 (by decide)) an)) ?_
          have hA154 := (H149.g0.rd).adO hj53
          refine r_stxA (K := K24) ((rd xs29 (w64 (v30 - 1)))) hA154 LD24 rfl rfl rfl rfl H149 (by have h1_ := h051; have h2_ := h152; first | omega | (simp only [List.length_set] at h1_ h2_ ⊢; omega)) ?_
          intro wd153 H152
          exact r_nil (n_lp ⟨_, rfl, (.tuple #[.slice A1 data.length c2]), trivial, H152⟩)
        · intro η46 wd158 Δ159 hE155 hR156 H157
          have H157 : Hp w0 ((Δ159 ++ Γ)) wd158 := H157
          refine sp_op [(39, .slice A1 data.length c2), (41, .int .i64 (w64 (v30 - 1)))] (ac (hE155 2 (by decide)) (ac (hE155 4 (by decide)) an)) ?_
          have hA163 := ((show (Row K24 (.slice A1 data.length c2) (xs29.set (Int.toNat v30) (rd xs29 (w64 (v30 - 1))))) _ from (H157).memr (hR156 _ (List.mem_of_getElem? (i := 1) rfl) rfl)).rd).adO hj58
          refine r_ix IX25 rfl rfl hA163 h056 (by have h1_ := ((show (Row K24 (.slice A1 data.length c2) (xs29.set (Int.toNat v30) (rd xs29 (w64 (v30 - 1))))) _ from (H157).memr (hR156 _ (List.mem_of_getElem? (i := 1) rfl) rfl))).leneq; have h2_ := h157; rw [← h1_] at h2_; exact h2_) ?_
          exact r_nil (n_lp ⟨_, rfl, undef, rfl, H157⟩)
        · intro η46 wd167 Δ168 hE164 hR165 H166
          have H166 : Hp w0 (Row K24 (.slice A1 data.length c2) (xs29.set (Int.toNat v30) (rd xs29 (w64 (v30 - 1)))) :: (Δ168 ++ Γ)) wd167 := H166
          refine sp_op [(50, .agg #[.int .i64 ((rd xs29 v30).Kind), .int .i64 ((rd xs29 v30).Amount)]), (52, .pointer (some ((oA A1).add (Int.toNat (w64 (v30 - 1)) * 2))))] (ac (hE164 13 (by decide)) (ac (hE164 16 (by decide)) an)) ?_
          have hA171 := (H166.g0.rd).adO hj58
          refine r_stxA (K := K24) ((rd xs29 v30)) hA171 LD24 rfl rfl rfl rfl H166 (by have h1_ := h056; have h2_ := h157; first | omega | (simp only [List.length_set] at h1_ h2_ ⊢; omega)) ?_
          intro wd170 H169
          exact r_nil (n_lp ⟨_, rfl, (.tuple #[.slice A1 data.length c2]), trivial, H169⟩)
        · intro η46 wd173 hV174 H172
          have H175 : Hp w0 (Row K24 (.slice A1 data.length c2) ((xs29.set (Int.toNat v30) (rd xs29 (w64 (v30 - 1)))).set (Int.toNat (w64 (v30 - 1))) (rd xs29 v30)) :: Γ) wd173 := H172
          refine n_frame [(0, .slice A1 data.length c2), (1, .int .i64 a_), (2, .int .i64 b_), (3, .func (.func gf6) #[] (List.toArray gcap7)), (8, .int .i64 v13), (9, .int .i64 v30)] (ac rfl (ac rfl (ac rfl (ac rfl (ac rfl (ac rfl an)))))) ?_
          refine n_bl ?_
          refine n_sq ?_
          refine st_region ?_
          refine r_pure (.int .i64 v30) rfl ?_
          refine r_pure (.int .i64 (w64 (v30 - 1))) rfl ?_
          refine r_pure (.int .i64 (w64 (v30 - 1))) rfl ?_
          refine r_nil ?_
          refine n_round (IH42 _ _ _ ⟨(xs29.set (Int.toNat v30) (rd xs29 (w64 (v30 - 1)))).set (Int.toNat (w64 (v30 - 1))) (rd xs29 v30), w64 (v30 - 1), rfl, upk (ac rfl (ac rfl (ac rfl (ac rfl (ac rfl (ac rfl an)))))), H175⟩ hm)
      · refine st_condf hb45 rfl ?_
        have hq_ := Option.some.inj hm
        refine st_exit rfl ?_
        subst hq_
        refine n_bl ?_
        refine n_sq ?_
        refine st_region ?_
        refine r_pure (.int .i64 v13) rfl ?_
        refine r_pure (.int .i64 (w64 (v13 + 1))) rfl ?_
        refine r_pure (.int .i64 (w64 (v13 + 1))) rfl ?_
        refine r_nil ?_
        refine n_round (IH25 _ _ _ ⟨xs29, w64 (v13 + 1), rfl, upk (ac rfl (ac rfl (ac rfl (ac rfl (ac rfl an))))), H44⟩ hm32)
  · refine st_condf hb26 rfl ?_
    have hq_ := Option.some.inj hm
    refine st_exit rfl ?_
    subst hq_
    have hq_ := Option.some.inj hm15
    subst hq_
    refine n_fin0 rfl ?_
    exact ⟨rfl, H14⟩

set_option maxHeartbeats 2000000 in
theorem slices_pdqsortCmpFunc_api_Item_ok {w0 w : World} {Γ : List (World → Prop)} (data : List api_Item) (A1 : Option Addr) (n3 c2 : Nat) (a_ : Int) (b_ : Int) (limit : Int) (fv4 : Value) (cmp : (api_Item × api_Item) → Option Int) (hp5 : FnOk Try.prog w0 Γ fv4 (fun x => [.agg #[.int .i64 x.1.Kind, .int .i64 x.1.Amount], .agg #[.int .i64 x.2.Kind, .int .i64 x.2.Amount]]) (fun r => .int .i64 r) cmp) (r0_ : List api_Item) (H : Hp w0 (Row K24 (.slice A1 n3 c2) data :: Γ) w) (hm : slices_pdqsortCmpFunc_api_Item data a_ b_ limit cmp = some r0_) : Calls Try.prog 27 #[.slice A1 n3 c2, .int .i64 a_, .int .i64 b_, .int .i64 limit, fv4] w (fun e w => e = .returned (.tuple #[]) ∧ Hp w0 (Row K24 (.slice A1 n3 c2) r0_ :: Γ) w) := by
  obtain ⟨gf6, gcap7, rfl, ge8, gp9⟩ := hp5
  obtain rfl := (H.g0).leneq
  unfold slices_pdqsortCmpFunc_api_Item at hm
  refine st_enter Try.func27 rfl Try.ntmps27 (Nat.le_of_ble_eq_true rfl) ?_
  refine st_seq ?_
  refine st_region ?_
  refine r_pure (.bool true) rfl ?_
  refine r_seq ?_
  refine st_seq ?_
  refine st_region ?_
  refine r_pure (.bool true) rfl ?_
  refine r_seq ?_
  refine st_block ?_
  obtain ⟨tl12, hl13, hm11⟩ := bind_some hm
  refine st_loopF (slices_pdqsortCmpFunc_api_Item.l1 b_ a_ data cmp) (fun s ρ w => () = s ∧ (∃ base, ρ = updl base [(0, .slice A1 data.length c2), (1, .int .i64 a_), (2, .int .i64 b_), (3, .int .i64 limit), (4, .func (.func gf6) #[] (List.toArray gcap7)), (10, .bool true), (11, .bool true)]) ∧ Hp w0 (Row K24 (.slice A1 data.length c2) data :: Γ) w) hl13 (fun _ => rfl) ⟨rfl, upk (ac rfl (ac rfl (ac rfl (ac rfl (ac rfl (ac rfl (ac rfl an))))))), H⟩ ?_
  rintro fuel19 IH21 s ρ w ⟨rfl, ⟨base, rfl⟩, H10⟩ hm
  rw [slices_pdqsortCmpFunc_api_Item.l1] at hm
  refine st_block ?_
  refine st_seq ?_
  refine st_region ?_
  refine r_pure (.int .i64 b_) rfl ?_
  refine r_pure (.int .i64 a_) rfl ?_
  refine r_pure (.int .i64 (w64 (b_ - a_))) rfl ?_
  refine r_pure (.int .i64 (w64 (b_ - a_))) rfl ?_
  refine r_seq ?_
  refine st_seq ?_
  refine st_seq ?_
  refine st_region ?_
  refine r_pure (.int .i64 (w64 (b_ - a_))) rfl ?_
  refine r_pure (.bool (decide (w64 (b_ - a_) ≤ 12))) rfl ?_
  refine r_seq ?_
  rcases ite_some hm with ⟨hb22, hm⟩ | ⟨hb22, hm⟩
  · refine st_condt hb22 rfl ?_
    refine st_seq ?_
    refine st_region ?_
    refine r_pure (.slice A1 data.length c2) rfl ?_
    refine r_pure (.int .i64 a_) rfl ?_
    refine r_pure (.int .i64 b_) rfl ?_
    refine r_pure (.func (.func gf6) #[] (List.toArray gcap7)) rfl ?_
    obtain ⟨y23, hy24, hm⟩ := bind_some hm
    refine r_callf Try.call31 (slices_insertionSortCmpFunc_api_Item_ok data A1 data.length c2 a_ b_ (.func (.func gf6) #[] (List.toArray gcap7)) cmp ⟨gf6, gcap7, rfl, ge8, fun x y hy Δ w H hΔ => gp9 x y hy Δ w H (fun u hu => (hΔ u hu))⟩ y23 H10 hy24) ?_
    rintro e26 wd25 ⟨rfl, H28⟩
    refine ⟨_, rfl, ?_⟩
    refine r_seq ?_
    have hq_ := Option.some.inj hm
    subst hq_
    have hq_ := Option.some.inj (show some (y23 : (List api_Item)) = some r0_ from hm11)
    subst hq_
    refine st_ret0 rfl rfl ?_
    exact ⟨rfl, H28⟩
  · cases hm

set_option maxHeartbeats 2000000 in
theorem slices_SortFunc_api_Item_ok {w0 w : World} {Γ : List (World → Prop)} (x_ : List api_Item) (A1 : Option Addr) (n3 c2 : Nat) (fv4 : Value) (cmp : (api_Item × api_Item) → Option Int) (hp5 : FnOk Try.prog w0 Γ fv4 (fun x => [.agg #[.int .i64 x.1.Kind, .int .i64 x.1.Amount], .agg #[.int .i64 x.2.Kind, .int .i64 x.2.Amount]]) (fun r => .int .i64 r) cmp) (r0_ : List api_Item) (H : Hp w0 (Row K24 (.slice A1 n3 c2) x_ :: Γ) w) (hm : slices_SortFunc_api_Item x_ cmp = some r0_) : Calls Try.prog 20 #[.slice A1 n3 c2, fv4] w (fun e w => e = .returned (.tuple #[]) ∧ Hp w0 (Row K24 (.slice A1 n3 c2) r0_ :: Γ) w) := by
  obtain ⟨gf6, gcap7, rfl, ge8, gp9⟩ := hp5
  obtain rfl := (H.g0).leneq
  unfold slices_SortFunc_api_Item at hm
  refine st_enter Try.func20 rfl Try.ntmps20 (Nat.le_of_ble_eq_true rfl) ?_
  refine st_seq ?_
  refine st_region ?_
  refine r_pure (.slice A1 x_.length c2) rfl ?_
  refine r_len Try.underlying25 rfl ?_
  refine r_pure (.int .i64 (x_.length : Int)) rfl ?_
  refine r_seq ?_
  refine st_region ?_
  refine r_pure (.slice A1 x_.length c2) rfl ?_
  refine r_pure (.int .i64 (x_.length : Int)) rfl ?_
  refine r_pure (.int .i64 (x_.length : Int)) rfl ?_
  refine r_conv Try.underlying3 Try.underlying53 rfl ?_
  obtain ⟨y10, hy11, hm⟩ := bind_some hm
  refine r_callf Try.call28 (math_bits_Len_ok (IntKind.u64.wrap (x_.length : Int)) y10 H hy11) ?_
  rintro e13 wd12 ⟨rfl, H15⟩
  refine ⟨_, rfl, ?_⟩
  refine r_pure (.func (.func gf6) #[] (List.toArray gcap7)) rfl ?_
  obtain ⟨y16, hy17, hm⟩ := bind_some hm
  refine r_callf Try.call27 (slices_pdqsortCmpFunc_api_Item_ok x_ A1 x_.length c2 0 (x_.length : Int) y10 (.func (.func gf6) #[] (List.toArray gcap7)) cmp ⟨gf6, gcap7, rfl, ge8, fun x y hy Δ w H hΔ => gp9 x y hy Δ w H (fun u hu => (hΔ u hu))⟩ y16 H15 hy17) ?_
  rintro e19 wd18 ⟨rfl, H21⟩
  refine ⟨_, rfl, ?_⟩
  refine r_nil ?_
  have hq_ := Option.some.inj hm
  subst hq_
  refine n_fin0 rfl ?_
  exact ⟨rfl, H21⟩

set_option maxHeartbeats 2000000 in
theorem cmp_isNaN_int_ok {w0 w : World} {Γ : List (World → Prop)} (x_ : Int) (r0_ : Bool) (H : Hp w0 (Γ) w) (hm : cmp_isNaN_int x_ = some r0_) : Calls Try.prog 29 #[.int .i64 x_] w (fun e w => e = .returned (.bool r0_) ∧ Hp w0 (Γ) w) := by
  unfold cmp_isNaN_int at hm
  refine st_enter Try.func29 rfl Try.ntmps29 (Nat.le_of_ble_eq_true rfl) ?_
  refine st_seq ?_
  refine st_region ?_
  refine r_pure (.bool false) rfl ?_
  refine r_seq ?_
  refine st_seq ?_
  refine st_region ?_
  refine r_pure (.int .i64 x_) rfl ?_
  refine r_pure (.int .i64 x_) rfl ?_
  refine r_pure (.bool (x_ != x_)) rfl ?_
  refine r_pure (.bool (x_ != x_)) rfl ?_
  refine r_seq ?_
  have hq_ := Option.some.inj hm
  subst hq_
  refine st_ret1 rfl rfl (Nat.le_of_ble_eq_true rfl) rfl ?_
  exact ⟨rfl, H⟩

set_option maxHeartbeats 2000000 in
theorem cmp_Compare_int_ok {w0 w : World} {Γ : List (World → Prop)} (x_ : Int) (y_ : Int) (r0_ : Int) (H : Hp w0 (Γ) w) (hm : cmp_Compare_int x_ y_ = some r0_) : Calls Try.prog 22 #[.int .i64 x_, .int .i64 y_] w (fun e w => e = .returned (.int .i64 r0_) ∧ Hp w0 (Γ) w) := by
  unfold cmp_Compare_int at hm
  refine st_enter Try.func22 rfl Try.ntmps22 (Nat.le_of_ble_eq_true rfl) ?_
  refine st_seq ?_
  refine st_region ?_
  refine r_pure (.int .i64 0) rfl ?_
  refine r_seq ?_
  refine st_seq ?_
  refine st_region ?_
  refine r_pure (.int .i64 x_) rfl ?_
  obtain ⟨y1, hy2, hm⟩ := bind_some hm
  refine r_callf Try.call29 (cmp_isNaN_int_ok x_ y1 H hy2) ?_
  rintro e4 wd3 ⟨rfl, H6⟩
  refine ⟨_, rfl, ?_⟩
  refine r_pure (.bool y1) rfl ?_
  refine r_seq ?_
  refine st_seq ?_
  refine st_region ?_
  refine r_pure (.int .i64 y_) rfl ?_
  obtain ⟨y7, hy8, hm⟩ := bind_some hm
  refine r_callf Try.call29 (cmp_isNaN_int_ok y_ y7 H6 hy8) ?_
  rintro e10 wd9 ⟨rfl, H12⟩
  refine ⟨_, rfl, ?_⟩
  refine r_pure (.bool y7) rfl ?_
  refine r_seq ?_
  refine st_seq ?_
  refine st_seq ?_
  refine st_region ?_
  refine r_pure (.bool y1) rfl ?_
  refine r_seq ?_
  rcases ite_some hm with ⟨hb13, hm⟩ | ⟨hb13, hm⟩
  · refine st_condt hb13 rfl ?_
    refine st_seq ?_
    refine st_seq ?_
    refine st_region ?_
    refine r_pure (.bool y7) rfl ?_
    refine r_seq ?_
    rcases ite_some hm with ⟨hb14, hm⟩ | ⟨hb14, hm⟩
    · refine st_condt hb14 rfl ?_
      refine st_seq ?_
      refine st_region ?_
      refine r_pure (.int .i64 0) rfl ?_
      refine r_seq ?_
      have hq_ := Option.some.inj hm
      subst hq_
      refine st_ret1 rfl rfl (Nat.le_of_ble_eq_true rfl) rfl ?_
      exact ⟨rfl, H12⟩
    · refine st_condf hb14 rfl ?_
      refine st_skip ?_
      refine n_sq ?_
      refine st_seq ?_
      refine st_region ?_
      refine r_pure (.int .i64 (-1)) rfl ?_
      refine r_seq ?_
      have hq_ := Option.some.inj hm
      subst hq_
      refine st_ret1 rfl rfl (Nat.le_of_ble_eq_true rfl) rfl ?_
      exact ⟨rfl, H12⟩
  · refine st_condf hb13 rfl ?_
    refine st_skip ?_
    refine n_sq ?_
    refine st_seq ?_
    refine st_seq ?_
    refine st_region ?_
    refine r_pure (.bool y7) rfl ?_
    refine r_seq ?_
    rcases ite_some hm with ⟨hb15, hm⟩ | ⟨hb15, hm⟩
    · refine st_condt hb15 rfl ?_
      refine st_seq ?_
      refine st_region ?_
      refine r_pure (.int .i64 1) rfl ?_
      refine r_seq ?_
      have hq_ := Option.some.inj hm
      subst hq_
      refine st_ret1 rfl rfl (Nat.le_of_ble_eq_true rfl) rfl ?_
      exact ⟨rfl, H12⟩
    · refine st_condf hb15 rfl ?_
      refine st_skip ?_
      refine n_sq ?_
      refine st_seq ?_
      refine st_seq ?_
      refine st_region ?_
      refine r_pure (.int .i64 x_) rfl ?_
      refine r_pure (.int .i64 y_) rfl ?_
      refine r_pure (.bool (decide (x_ < y_))) rfl ?_
      refine r_seq ?_
      rcases ite_some hm with ⟨hb16, hm⟩ | ⟨hb16, hm⟩
      · refine st_condt hb16 rfl ?_
        refine st_seq ?_
        refine st_region ?_
        refine r_pure (.int .i64 (-1)) rfl ?_
        refine r_seq ?_
        have hq_ := Option.some.inj hm
        subst hq_
        refine st_ret1 rfl rfl (Nat.le_of_ble_eq_true rfl) rfl ?_
        exact ⟨rfl, H12⟩
      · refine st_condf hb16 rfl ?_
        refine st_skip ?_
        refine n_sq ?_
        refine st_seq ?_
        refine st_seq ?_
        refine st_region ?_
        refine r_pure (.int .i64 x_) rfl ?_
        refine r_pure (.int .i64 y_) rfl ?_
        refine r_pure (.bool (decide (x_ > y_))) rfl ?_
        refine r_seq ?_
        rcases ite_some hm with ⟨hb17, hm⟩ | ⟨hb17, hm⟩
        · refine st_condt hb17 rfl ?_
          refine st_seq ?_
          refine st_region ?_
          refine r_pure (.int .i64 1) rfl ?_
          refine r_seq ?_
          have hq_ := Option.some.inj hm
          subst hq_
          refine st_ret1 rfl rfl (Nat.le_of_ble_eq_true rfl) rfl ?_
          exact ⟨rfl, H12⟩
        · refine st_condf hb17 rfl ?_
          refine st_skip ?_
          refine n_sq ?_
          refine st_seq ?_
          refine st_region ?_
          refine r_pure (.int .i64 0) rfl ?_
          refine r_seq ?_
          have hq_ := Option.some.inj hm
          subst hq_
          refine st_ret1 rfl rfl (Nat.le_of_ble_eq_true rfl) rfl ?_
          exact ⟨rfl, H12⟩

set_option maxHeartbeats 2000000 in
theorem fx_Add_c2_ok {w0 w : World} {Γ : List (World → Prop)} (x_ : api_Item) (y_ : api_Item) (r0_ : Int) (H : Hp w0 (Γ) w) (hm : fx_Add_c2 x_ y_ = some r0_) : Calls Try.prog 21 #[.agg #[.int .i64 x_.Kind, .int .i64 x_.Amount], .agg #[.int .i64 y_.Kind, .int .i64 y_.Amount]] w (fun e w => e = .returned (.int .i64 r0_) ∧ Hp w0 (Γ) w) := by
  unfold fx_Add_c2 at hm
  refine st_enter Try.func21 rfl Try.ntmps21 (Nat.le_of_ble_eq_true rfl) ?_
  refine st_seq ?_
  refine st_region ?_
  refine r_box [.int .i64 x_.Kind, .int .i64 x_.Amount] H rfl ?_
  intro b1 wd3 H2
  refine r_box [.int .i64 y_.Kind, .int .i64 y_.Amount] H2 rfl ?_
  intro b4 wd6 H5
  refine r_pure (.int .i64 0) rfl ?_
  refine r_seq ?_
  refine st_seq ?_
  refine st_region ?_
  refine r_fa FA24_0 ⟨b1, 0, none⟩ rfl rfl ?_
  refine r_ld1 (.int .i64 x_.Kind) LD3 rfl ((H5.g1).cell _ rfl) ?_
  refine r_fa FA24_0 ⟨b4, 0, none⟩ rfl rfl ?_
  refine r_ld1 (.int .i64 y_.Kind) LD3 rfl ((H5.g0).cell _ rfl) ?_
  obtain ⟨y7, hy8, hm⟩ := bind_some hm
  refine r_callf Try.call22 (cmp_Compare_int_ok x_.Kind y_.Kind y7 H5 hy8) ?_
  rintro e10 wd9 ⟨rfl, H12⟩
  refine ⟨_, rfl, ?_⟩
  refine r_pure (.int .i64 y7) rfl ?_
  refine r_seq ?_
  have hq_ := Option.some.inj hm
  subst hq_
  refine st_ret1 rfl rfl (Nat.le_of_ble_eq_true rfl) rfl ?_
  exact ⟨rfl, H12.d.d⟩

set_option maxHeartbeats 2000000 in
theorem fx_Add_ok {w0 w : World} {Γ : List (World → Prop)} (a_ : List api_Item) (A1 : Option Addr) (n6 c2 : Nat) (hn5 : n6 = a_.length) (hc3 : a_.length ≤ c2) (hv4 : ∀ u, Hp w0 Γ u → SlR K24 A1 a_ u) (b_ : List api_Item) (A7 : Option Addr) (n12 c8 : Nat) (hn11 : n12 = b_.length) (hc9 : b_.length ≤ c8) (hv10 : ∀ u, Hp w0 Γ u → SlR K24 A7 b_ u) (r0_ : List api_Item) (H : Hp w0 (Γ) w) (hm : fx_Add a_ b_ = some r0_) : Calls Try.prog 8 #[.slice A1 n6 c2, .slice A7 n12 c8] w (fun e w => ∃ (Ax1 : Option Addr) (nx2 cx3 : Nat), e = .returned (.slice Ax1 nx2 cx3) ∧ Hp w0 (Row K24 (.slice Ax1 nx2 cx3) r0_ :: Γ) w) := by
  subst hn5
  subst hn11
  unfold fx_Add at hm
  refine st_enter Try.func8 rfl Try.ntmps8 (Nat.le_of_ble_eq_true rfl) ?_
  refine st_seq ?_
  refine st_region ?_
  refine r_pure (.slice none 0 0) rfl ?_
  refine r_seq ?_
  refine st_seq ?_
  refine st_region ?_
  refine r_pure (.slice none 0 0) rfl ?_
  refine r_seq ?_
  refine st_seq ?_
  refine st_seq ?_
  refine st_region ?_
  refine r_pure (.slice A1 a_.length c2) rfl ?_
  refine r_pure (.slice A7 b_.length c8) rfl ?_
  refine r_buildSlice (K := (Kr 25 1 (by decide))) [(⟨[.slice A1 a_.length c2], rfl, rfl⟩ : Raw 1), (⟨[.slice A7 b_.length c8], rfl, rfl⟩ : Raw 1)] EL49 rfl rfl rfl (by decide) (by decide) rfl H ?_
  intro b13 wd15 H14
  obtain ⟨y16, hy17, hm⟩ := bind_some hm
  refine r_callf Try.call17 (slices_Concat_api_Item_elems0_ok a_ A1 a_.length c2 rfl hc3 (fun _ H => (hv4 _ H.d)) b_ A7 b_.length c8 rfl hc9 (fun _ H => (hv10 _ H.d)) (some ⟨b13, 0, none⟩) 2 (Nat.le_refl _) (fun _ H => (H.g0.rd)) y16 H14 hy17) ?_
  rintro e19 wd18 ⟨A22, n23, c24, rfl, H21⟩
  obtain rfl := (H21.g0).leneq
  refine ⟨_, rfl, ?_⟩
  refine r_len Try.underlying25 rfl ?_
  refine r_pure (.int .i64 0) rfl ?_
  refine r_seq ?_
  refine st_block ?_
  have H30 := H21.add (A := Row K24 (.slice none 0 0) []) Row.nil
  have hlim54 := (H30.g1.rd).lim
  obtain ⟨tl37, hl38, hm36⟩ := bind_some hm
  refine st_loopL (fx_Add.l1) (fun ys43 s ρ w => ∃ i39 : Int, ∃ xs34 : List api_Item, ∃ dn40 : List api_Item, ∃ A31 : Option Addr, ∃ n32 : Nat, ∃ c33 : Nat, (i39, xs34) = s ∧ y16 = dn40 ++ ys43 ∧ i39 = (dn40.length : Int) ∧ (∃ base, ρ = updl base [(5, .slice A31 n32 c33), (12, .slice A22 y16.length c24), (13, .int .i64 (y16.length : Int)), (14, .int .i64 i39)]) ∧ Hp w0 (Row K24 (.slice A31 n32 c33) xs34 :: Row K24 (.slice A22 y16.length c24) y16 :: Γ) w) hl38 ⟨0, ([] : List api_Item), [], none, 0, 0, rfl, rfl, rfl, upk (ac rfl (ac rfl (ac rfl (ac rfl an)))), H30.u2.d.u1.u1⟩ ?_
  rintro m ys43 IH47 s ρ w ⟨i39, xs34, dn40, A31, n32, c33, rfl, hxs41, hi42, ⟨base, rfl⟩, H35⟩ hm
  obtain rfl := (H35.g0).leneq
  rcases ys43 with _ | ⟨y44, ys43⟩
  · rw [fx_Add.l1] at hm
    have hb48 := range_end hxs41 hi42
    refine st_seq ?_
    refine st_region ?_
    refine r_pure (.bool (decide (i39 < (y16.length : Int)))) rfl ?_
    refine r_seq ?_
    refine st_seq ?_
    refine st_condf hb48 rfl ?_
    have hq_ := Option.some.inj hm
    refine st_exit rfl ?_
    subst hq_
    refine n_sq ?_
    refine st_seq ?_
    refine st_region ?_
    refine r_pure (.slice A31 xs34.length c33) rfl ?_
    obtain ⟨y55, hy56, hm⟩ := bind_some hm36
    refine r_callf Try.call20 (slices_SortFunc_api_Item_ok xs34 A31 xs34.length c33 (.func (.func 21) #[] #[]) (fun x => fx_Add_c2 x.1 x.2) ⟨21, [], rfl, Try.call21, fun x y hy Δ w H hΔ => fx_Add_c2_ok x.1 x.2 y H hy⟩ y55 H35 hy56) ?_
    rintro e58 wd57 ⟨rfl, H60⟩
    refine ⟨_, rfl, ?_⟩
    refine r_seq ?_
    refine st_seq ?_
    refine st_region ?_
    refine r_pure (.slice A31 xs34.length c33) rfl ?_
    refine r_pure (.slice A31 xs34.length c33) rfl ?_
    refine r_seq ?_
    have hq_ := Option.some.inj hm
    subst hq_
    refine st_ret1 rfl rfl (Nat.le_of_ble_eq_true rfl) rfl ?_
    exact ⟨A31, xs34.length, c33, rfl, H60.u1.d⟩
  · rw [fx_Add.l1] at hm
    have hb49 := range_in hxs41 hi42
    obtain ⟨h050, h151, hj52⟩ := range_ix hxs41 hi42
    have hnx53 := range_next hxs41 hi42 hlim54
    refine st_seq ?_
    refine st_region ?_
    refine r_pure (.bool (decide (i39 < (y16.length : Int)))) rfl ?_
    refine r_seq ?_
    refine st_seq ?_
    refine st_condt hb49 rfl ?_
    refine st_skip ?_
    refine n_sq ?_
    refine st_seq ?_
    refine st_block ?_
    refine st_seq ?_
    refine st_region ?_
    have hA61 := (H35.g1.rd).adO hj52
    refine r_ix IX25 rfl rfl hA61 h050 h151 ?_
    refine r_ldA [.int .i64 y44.Kind, .int .i64 y44.Amount] LD24 rfl rfl ((H35.g1.rd).csA hA61 hj52) ?_
    refine r_alloc [.int .i64 0, .int .i64 0] Try.zeroValue24 H35 rfl ?_
    intro b62 wd64 H63
    refine r_stA [.int .i64 y44.Kind, .int .i64 y44.Amount] LD24 rfl rfl rfl rfl H63 (Nat.le_of_ble_eq_true rfl) rfl ?_
    intro wd66 H65
    refine r_seq ?_
    refine st_seq ?_
    refine st_region ?_
    refine r_pure (.slice A31 xs34.length c33) rfl ?_
    refine r_func (.func (.func 19) #[] #[.pointer (some ⟨b62, 0, none⟩)]) rfl ?_
    obtain ⟨y67, hy68, hm⟩ := bind_some hm
    refine r_callf Try.call18 (slices_IndexFunc_api_Item_ok xs34 A31 xs34.length c33 rfl (((H65).g1).cap) (fun _ H => (H.g1.rd)) (.func (.func 19) #[] #[.pointer (some ⟨b62, 0, none⟩)]) (fun x => fx_Add_c1 x y44) ⟨19, [.pointer (some ⟨b62, 0, none⟩)], rfl, Try.call19, fun x y hy Δ w H hΔ => fx_Add_c1_ok x b62 y44 (fun _ H => ((hΔ _ H).g0)) y H hy⟩ y67 H65 hy68) ?_
    rintro e70 wd69 ⟨rfl, H72⟩
    refine ⟨_, rfl, ?_⟩
    refine r_pure (.int .i64 y67) rfl ?_
    refine r_seq ?_
    refine st_cut (fun ρ w => ∃ A73 : Option Addr, ∃ n74 : Nat, ∃ c75 : Nat, ∃ xs76 : List api_Item, ∃ v77 : Int, (∃ base, ρ = updl base [(5, .slice A73 n74 c75), (7, .pointer (some ⟨b62, 0, none⟩)), (8, .int .i64 v77), (12, .slice A22 y16.length c24), (13, .int .i64 (y16.length : Int)), (14, .int .i64 i39)]) ∧ Hp w0 (Row K24 (.slice A73 n74 c75) xs76 :: Bx b62 24 [.int .i64 y44.Kind, .int .i64 y44.Amount] :: Row K24 (.slice A22 y16.length c24) y16 :: Γ) w ∧ fx_Add.j1 (fx_Add.l1 ys43) i39 y44 xs76 v77 = some tl37) ?_ ?_
    · refine st_seq ?_
      refine st_region ?_
      refine r_pure (.int .i64 y67) rfl ?_
      refine r_pure (.bool (decide (y67 < 0))) rfl ?_
      refine r_seq ?_
      rcases ite_some hm with ⟨hb164, hm⟩ | ⟨hb164, hm⟩
      · refine st_condt hb164 rfl ?_
        refine st_seq ?_
        refine st_region ?_
        refine r_pure (.slice A31 xs34.length c33) rfl ?_
        refine r_len Try.underlying25 rfl ?_
        refine r_pure (.int .i64 (xs34.length : Int)) rfl ?_
        refine r_seq ?_
        refine st_region ?_
        refine r_pure (.slice A31 xs34.length c33) rfl ?_
        refine r_fa FA24_0 ⟨b62, 0, none⟩ rfl rfl ?_
        refine r_ld1 (.int .i64 y44.Kind) LD3 rfl ((H72.g0).cell _ rfl) ?_
        refine r_build [.int .i64 y44.Kind, .int .i64 0] FL24 rfl ?_
        refine r_buildSlice (K := K24) [(⟨y44.Kind, 0⟩ : api_Item)] EL25 rfl rfl rfl (by decide) (by decide) rfl H72 ?_
        intro b165 wd167 H166
        obtain ⟨hf168, hm⟩ := gd_some hm
        refine r_append (K := K24) (ys := [(⟨y44.Kind, 0⟩ : api_Item)]) AP25 rfl rfl rfl rfl H166.u2 (((H166.u2).g1).src) (fit_le hf168 (by decide)) ?_
        intro A169 c170 wd171 H172
        refine r_pure (.slice A169 ((xs34 ++ [(⟨y44.Kind, 0⟩ : api_Item)]).length) c170) rfl ?_
        refine r_nil ?_
        refine n_cut ⟨A169, (xs34 ++ [(⟨y44.Kind, 0⟩ : api_Item)]).length, c170, xs34 ++ [(⟨y44.Kind, 0⟩ : api_Item)], (xs34.length : Int), upk (ac rfl (ac rfl (ac rfl (ac rfl (ac rfl (ac rfl an)))))), H172.u1.d.u2.u2.u2, hm⟩
      · refine st_condf hb164 rfl ?_
        refine st_skip ?_
        refine n_cut ⟨A31, xs34.length, c33, xs34, y67, upk (ac rfl (ac rfl (ac rfl (ac rfl (ac rfl (ac rfl an)))))), H72.u2.u1.u2, hm⟩
    · rintro ρ w ⟨A73, n74, c75, xs76, v77, ⟨base, rfl⟩, H78, hm⟩
      obtain rfl := (H78.g0).leneq
      unfold fx_Add.j1 at hm
      obtain ⟨⟨h080, h181⟩, hm⟩ := gd_some hm
      have hj82 := rd_get h080 h181
      refine Flow.run' [[], [], [], [], [2, 3], [2, 3, 4], [2, 3, 4, 5], [], [7], [2, 3, 4, 5, 6, 7, 8], [0, 1, 2, 3, 4, 5, 6, 7, 8, 9], [0, 1, 2, 3, 4, 5, 6, 7, 8, 9, 10], [0, 1, 2, 3, 4, 5, 6, 7, 8, 9, 10, 11]] [(31, 0), (32, 1), (33, 2), (34, 3), (35, 4), (36, 5), (37, 6), (38, 7), (39, 8), (40, 9), (41, 10), (42, 11)] [(fun η79 v => v.1 = .slice A73 xs76.length c75), (fun η79 v => v.1 = .int .i64 v77), (fun η79 v => v.1 = .slice A73 xs76.length c75), (fun η79 v => v.1 = .int .i64 v77), (fun η79 v => v.1 = .pointer (some ((oA A73).add (Int.toNat v77 * 2)))), (fun η79 v => v.1 = .pointer (some (((oA A73).add (Int.toNat v77 * 2)).add 1))), (fun η79 v => v.1 = .int .i64 ((rd xs76 v77).Amount)), (fun η79 v => v.1 = .pointer (some ⟨b62, 1, none⟩)), (fun η79 v => v.1 = .int .i64 y44.Amount), (fun η79 v => v.1 = .int .i64 (w64 ((rd xs76 v77).Amount + y44.Amount))), (fun η79 v => v.1 = .pointer (some ((oA A73).add (Int.toNat v77 * 2)))), (fun η79 v => v.1 = .pointer (some (((oA A73).add (Int.toNat v77 * 2)).add 1))), (fun _ _ => True)] [⟨none, (some 12), fun η79 => Row K24 (.slice A73 xs76.length c75) xs76⟩, ⟨(some 12), none, fun η79 => Row K24 (.slice A73 xs76.length c75) (xs76.set (Int.toNat v77) (⟨(rd xs76 v77).Kind, w64 ((rd xs76 v77).Amount + y44.Amount)⟩ : api_Item))⟩] rfl (by kernel_rfl) (by kernel_rfl) H78 ⟨?_, ?_, ?_, ?_, ?_, ?_, ?_, ?_, ?_, ?_, ?_, ?_, ?_, trivial⟩ ?_
      · intro η79 wd89 Δ90 hE86 hR87 H88
        have H88 : Hp w0 ((Δ90 ++ (Bx b62 24 [.int .i64 y44.Kind, .int .i64 y44.Amount] :: Row K24 (.slice A22 y16.length c24) y16 :: Γ))) wd89 := H88
        refine sp_op [(5, .slice A73 xs76.length c75)] (ac rfl an) ?_
        refine r_pure (.slice A73 xs76.length c75) rfl ?_
        exact r_nil (n_lp ⟨_, rfl, undef, rfl, H88⟩)
      · intro η79 wd94 Δ95 hE91 hR92 H93
        have H93 : Hp w0 ((Δ95 ++ (Bx b62 24 [.int .i64 y44.Kind, .int .i64 y44.Amount] :: Row K24 (.slice A22 y16.length c24) y16 :: Γ))) wd94 := H93
        refine sp_op [(8, .int .i64 v77)] (ac rfl an) ?_
        refine r_pure (.int .i64 v77) rfl ?_
        exact r_nil (n_lp ⟨_, rfl, undef, rfl, H93⟩)
      · intro η79 wd99 Δ100 hE96 hR97 H98
        have H98 : Hp w0 ((Δ100 ++ (Bx b62 24 [.int .i64 y44.Kind, .int .i64 y44.Amount] :: Row K24 (.slice A22 y16.length c24) y16 :: Γ))) wd99 := H98
        refine sp_op [(5, .slice A73 xs76.length c75)] (ac rfl an) ?_
        refine r_pure (.slice A73 xs76.length c75) rfl ?_
        exact r_nil (n_lp ⟨_, rfl, undef, rfl, H98⟩)
      · intro η79 wd104 Δ105 hE101 hR102 H103
        have H103 : Hp w0 ((Δ105 ++ (Bx b62 24 [.int .i64 y44.Kind, .int .i64 y44.Amount] :: Row K24 (.slice A22 y16.length c24) y16 :: Γ))) wd104 := H103
        refine sp_op [(8, .int .i64 v77)] (ac rfl an) ?_
        refine r_pure (.int .i64 v77) rfl ?_
        exact r_nil (n_lp ⟨_, rfl, undef, rfl, H103⟩)
      · intro η79 wd109 Δ110 hE106 hR107 H108
        have H108 : Hp w0 ((Δ110 ++ (Bx b62 24 [.int .i64 y44.Kind, .int .i64 y44.Amount] :: Row K24 (.slice A22 y16.length c24) y16 :: Γ))) wd109 := H108
        refine sp_op [(33, .slice A73 xs76.length c75), (34, .int .i64 v77)] (ac (hE106 2 (by decide)) (ac (hE106 3 (by decide)) an)) ?_
        have hA114 := ((show (Row K24 (.slice A73 xs76.length c75) xs76) _ from (H108).memr (hR107 _ (List.mem_of_getElem? (i := 0) rfl) rfl)).rd).adO hj82
        refine r_ix IX25 rfl rfl hA114 h080 h181 ?_
        exact r_nil (n_lp ⟨_, rfl, undef, rfl, H108⟩)
      · intro η79 wd118 Δ119 hE115 hR116 H117
        have H117 : Hp w0 ((Δ119 ++ (Bx b62 24 [.int .i64 y44.Kind, .int .i64 y44.Amount] :: Row K24 (.slice A22 y16.length c24) y16 :: Γ))) wd118 := H117
        refine sp_op [(35, .pointer (some ((oA A73).add (Int.toNat v77 * 2))))] (ac (hE115 4 (by decide)) an) ?_
        refine r_fa FA24_1 (((oA A73).add (Int.toNat v77 * 2)).add 1) rfl rfl ?_
        exact r_nil (n_lp ⟨_, rfl, undef, rfl, H117⟩)
      · intro η79 wd123 Δ124 hE120 hR121 H122
        have H122 : Hp w0 ((Δ124 ++ (Bx b62 24 [.int .i64 y44.Kind, .int .i64 y44.Amount] :: Row K24 (.slice A22 y16.length c24) y16 :: Γ))) wd123 := H122
        refine sp_op [(36, .pointer (some (((oA A73).add (Int.toNat v77 * 2)).add 1)))] (ac (hE120 5 (by decide)) an) ?_
        have hA125 := ((show (Row K24 (.slice A73 xs76.length c75) xs76) _ from (H122).memr (hR121 _ (List.mem_of_getElem? (i := 0) rfl) rfl)).rd).adO hj82
        refine r_ld1 (.int .i64 ((rd xs76 v77).Amount)) LD3 rfl (((show (Row K24 (.slice A73 xs76.length c75) xs76) _ from (H122).memr (hR121 _ (List.mem_of_getElem? (i := 0) rfl) rfl)).rd).cA hA125 hj82 1 _ rfl) ?_
        exact r_nil (n_lp ⟨_, rfl, undef, rfl, H122⟩)
      · intro η79 wd129 Δ130 hE126 hR127 H128
        have H128 : Hp w0 ((Δ130 ++ (Bx b62 24 [.int .i64 y44.Kind, .int .i64 y44.Amount] :: Row K24 (.slice A22 y16.length c24) y16 :: Γ))) wd129 := H128
        refine sp_op [(7, .pointer (some ⟨b62, 0, none⟩))] (ac rfl an) ?_
        refine r_fa FA24_1 ⟨b62, 1, none⟩ rfl rfl ?_
        exact r_nil (n_lp ⟨_, rfl, undef, rfl, H128⟩)
      · intro η79 wd134 Δ135 hE131 hR132 H133
        have H133 : Hp w0 ((Δ135 ++ (Bx b62 24 [.int .i64 y44.Kind, .int .i64 y44.Amount] :: Row K24 (.slice A22 y16.length c24) y16 :: Γ))) wd134 := H133
        refine sp_op [(38, .pointer (some ⟨b62, 1, none⟩))] (ac (hE131 7 (by decide)) an) ?_
        refine r_ld1 (.int .i64 y44.Amount) LD3 rfl (((H133).tl.g0).cell _ rfl) ?_
        exact r_nil (n_lp ⟨_, rfl, undef, rfl, H133⟩)
      · intro η79 wd139 Δ140 hE136 hR137 H138
        have H138 : Hp w0 ((Δ140 ++ (Bx b62 24 [.int .i64 y44.Kind, .int .i64 y44.Amount] :: Row K24 (.slice A22 y16.length c24) y16 :: Γ))) wd139 := H138
        refine sp_op [(37, .int .i64 ((rd xs76 v77).Amount)), (39, .int .i64 y44.Amount)] (ac (hE136 6 (by decide)) (ac (hE136 8 (by decide)) an)) ?_
        refine r_pure (.int .i64 (w64 ((rd xs76 v77).Amount + y44.Amount))) rfl ?_
        exact r_nil (n_lp ⟨_, rfl, undef, rfl, H138⟩)
      · intro η79 wd144 Δ145 hE141 hR142 H143
        have H143 : Hp w0 ((Δ145 ++ (Bx b62 24 [.int .i64 y44.Kind, .int .i64 y44.Amount] :: Row K24 (.slice A22 y16.length c24) y16 :: Γ))) wd144 := H143
        refine sp_op [(31, .slice A73 xs76.length c75), (32, .int .i64 v77)] (ac (hE141 0 (by decide)) (ac (hE141 1 (by decide)) an)) ?_
        have hA146 := ((show (Row K24 (.slice A73 xs76.length c75) xs76) _ from (H143).memr (hR142 _ (List.mem_of_getElem? (i := 0) rfl) rfl)).rd).adO hj82
        refine r_ix IX25 rfl rfl hA146 h080 h181 ?_
        exact r_nil (n_lp ⟨_, rfl, undef, rfl, H143⟩)
      · intro η79 wd150 Δ151 hE147 hR148 H149
        have H149 : Hp w0 ((Δ151 ++ (Bx b62 24 [.int .i64 y44.Kind, .int .i64 y44.Amount] :: Row K24 (.slice A22 y16.length c24) y16 :: Γ))) wd150 := H149
        refine sp_op [(41, .pointer (some ((oA A73).add (Int.toNat v77 * 2))))] (ac (hE147 10 (by decide)) an) ?_
        refine r_fa FA24_1 (((oA A73).add (Int.toNat v77 * 2)).add 1) rfl rfl ?_
        exact r_nil (n_lp ⟨_, rfl, undef, rfl, H149⟩)
      · intro η79 wd155 Δ156 hE152 hR153 H154
        have H154 : Hp w0 (Row K24 (.slice A73 xs76.length c75) xs76 :: (Δ156 ++ (Bx b62 24 [.int .i64 y44.Kind, .int .i64 y44.Amount] :: Row K24 (.slice A22 y16.length c24) y16 :: Γ))) wd155 := H154
        refine sp_op [(40, .int .i64 (w64 ((rd xs76 v77).Amount + y44.Amount))), (42, .pointer (some (((oA A73).add (Int.toNat v77 * 2)).add 1)))] (ac (hE152 9 (by decide)) (ac (hE152 11 (by decide)) an)) ?_
        have hA159 := (H154.g0.rd).adO hj82
        refine r_stx1 (K := K24) ((⟨(rd xs76 v77).Kind, w64 ((rd xs76 v77).Amount + y44.Amount)⟩ : api_Item)) hA159 LD3 rfl rfl rfl H154 hj82 (by decide) rfl ?_
        intro wd158 H157
        exact r_nil (n_lp ⟨_, rfl, (.tuple #[.slice A73 xs76.length c75]), trivial, H157⟩)
      · intro η79 wd161 hV162 H160
        have H163 : Hp w0 (Row K24 (.slice A73 xs76.length c75) (xs76.set (Int.toNat v77) (⟨(rd xs76 v77).Kind, w64 ((rd xs76 v77).Amount + y44.Amount)⟩ : api_Item)) :: Bx b62 24 [.int .i64 y44.Kind, .int .i64 y44.Amount] :: Row K24 (.slice A22 y16.length c24) y16 :: Γ) wd161 := H160
        refine n_frame [(5, .slice A73 xs76.length c75), (12, .slice A22 y16.length c24), (13, .int .i64 (y16.length : Int)), (14, .int .i64 i39)] (ac rfl (ac rfl (ac rfl (ac rfl an)))) ?_
        refine n_bl ?_
        refine n_sq ?_
        refine st_region ?_
        refine r_pure (.int .i64 (w64 (i39 + 1))) rfl ?_
        refine r_pure (.int .i64 (w64 (i39 + 1))) rfl ?_
        refine r_nil ?_
        refine n_round (IH47 _ _ rfl _ _ _ ⟨i39 + 1, xs76.set (Int.toNat v77) (⟨(rd xs76 v77).Kind, w64 ((rd xs76 v77).Amount + y44.Amount)⟩ : api_Item), dn40 ++ [y44], A73, xs76.length, c75, rfl, range_more hxs41, range_len hi42, upk (ac rfl (ac rfl (ac rfl (ac hnx53 an)))), H163.u1.d.u1.u1⟩ hm)

set_option maxHeartbeats 2000000 in
theorem scutagekeep_Same_api_Item_ok {w0 w : World} {Γ : List (World → Prop)} (a_ : List api_Item) (A1 : Option Addr) (n6 c2 : Nat) (hn5 : n6 = a_.length) (hc3 : a_.length ≤ c2) (hv4 : ∀ u, Hp w0 Γ u → SlR K24 A1 a_ u) (b_ : List api_Item) (A7 : Option Addr) (n12 c8 : Nat) (hn11 : n12 = b_.length) (hc9 : b_.length ≤ c8) (hv10 : ∀ u, Hp w0 Γ u → SlR K24 A7 b_ u) (r0_ : Bool) (H : Hp w0 (Γ) w) (hm : scutagekeep_Same_api_Item a_ b_ = some r0_) : Calls Try.prog 13 #[.slice A1 n6 c2, .slice A7 n12 c8] w (fun e w => e = .returned (.bool r0_) ∧ Hp w0 (Γ) w) := by
  subst hn5
  subst hn11
  unfold scutagekeep_Same_api_Item at hm
  refine st_enter Try.func13 rfl Try.ntmps13 (Nat.le_of_ble_eq_true rfl) ?_
  refine st_seq ?_
  refine st_region ?_
  refine r_pure (.bool false) rfl ?_
  refine r_seq ?_
  refine st_seq ?_
  refine st_seq ?_
  refine st_region ?_
  refine r_pure (.slice A1 a_.length c2) rfl ?_
  refine r_len Try.underlying25 rfl ?_
  refine r_pure (.slice A7 b_.length c8) rfl ?_
  refine r_len Try.underlying25 rfl ?_
  refine r_pure (.bool ((a_.length : Int) != (b_.length : Int))) rfl ?_
  refine r_seq ?_
  rcases ite_some hm with ⟨hb13, hm⟩ | ⟨hb13, hm⟩
  · refine st_condt hb13 rfl ?_
    refine st_seq ?_
    refine st_region ?_
    refine r_pure (.bool false) rfl ?_
    refine r_seq ?_
    have hq_ := Option.some.inj hm
    subst hq_
    refine st_ret1 rfl rfl (Nat.le_of_ble_eq_true rfl) rfl ?_
    exact ⟨rfl, H⟩
  · refine st_condf hb13 rfl ?_
    refine st_skip ?_
    refine n_sq ?_
    refine st_seq ?_
    refine st_seq ?_
    refine st_region ?_
    refine r_pure (.int .i64 0) rfl ?_
    refine r_seq ?_
    refine st_block ?_
    obtain ⟨tl18, hl19, hm17⟩ := bind_some hm
    refine st_loopF (scutagekeep_Same_api_Item.l1 a_ b_) (fun s ρ w => ∃ v15 : Int, v15 = s ∧ (∃ base, ρ = updl base [(0, .slice A1 a_.length c2), (1, .slice A7 b_.length c8), (5, .int .i64 v15)]) ∧ Hp w0 (Γ) w) hl19 (fun _ => rfl) ⟨0, rfl, upk (ac rfl (ac rfl (ac rfl an))), H⟩ ?_
    rintro fuel25 IH27 s ρ w ⟨v15, rfl, ⟨base, rfl⟩, H16⟩ hm
    rw [scutagekeep_Same_api_Item.l1] at hm
    refine st_seq ?_
    refine st_seq ?_
    refine st_region ?_
    refine r_pure (.int .i64 v15) rfl ?_
    refine r_pure (.slice A1 a_.length c2) rfl ?_
    refine r_len Try.underlying25 rfl ?_
    refine r_pure (.bool (decide (v15 < (a_.length : Int)))) rfl ?_
    refine r_seq ?_
    rcases ite_some hm with ⟨hb28, hm⟩ | ⟨hb28, hm⟩
    · refine st_condt hb28 rfl ?_
      refine st_skip ?_
      refine n_sq ?_
      refine st_seq ?_
      refine st_block ?_
      refine st_seq ?_
      obtain ⟨⟨h030, h131⟩, hm⟩ := gd_some hm
      have hj32 := rd_get h030 h131
      obtain ⟨⟨h034, h135⟩, hm⟩ := gd_some hm
      have hj36 := rd_get h034 h135
      refine Flow.run' [[], [], [0, 1], [0, 1, 2], [], [], [4, 5], [4, 5, 6], [0, 1, 2, 3, 4, 5, 6, 7]] [(17, 0), (18, 1), (19, 2), (20, 3), (21, 4), (22, 5), (23, 6), (24, 7), (25, 8)] [(fun η29 v => v.1 = .slice A1 a_.length c2), (fun η29 v => v.1 = .int .i64 v15), (fun η29 v => v.1 = .pointer (some ((oA A1).add (Int.toNat v15 * 2)))), (fun η29 v => v.1 = .agg #[.int .i64 ((rd a_ v15).Kind), .int .i64 ((rd a_ v15).Amount)]), (fun η29 v => v.1 = .slice A7 b_.length c8), (fun η29 v => v.1 = .int .i64 v15), (fun η29 v => v.1 = .pointer (some ((oA A7).add (Int.toNat v15 * 2)))), (fun η29 v => v.1 = .agg #[.int .i64 ((rd b_ v15).Kind), .int .i64 ((rd b_ v15).Amount)]), (fun η29 v => v.1 = .bool (!(((rd a_ v15).Kind) == ((rd b_ v15).Kind) && (((rd a_ v15).Amount) == ((rd b_ v15).Amount)))))] [] rfl (by kernel_rfl) (by kernel_rfl) H16 ⟨?_, ?_, ?_, ?_, ?_, ?_, ?_, ?_, ?_, trivial⟩ ?_
      · intro η29 wd41 Δ42 hE38 hR39 H40
        have H40 : Hp w0 ((Δ42 ++ Γ)) wd41 := H40
        refine sp_op [(0, .slice A1 a_.length c2)] (ac rfl an) ?_
        refine r_pure (.slice A1 a_.length c2) rfl ?_
        exact r_nil (n_lp ⟨_, rfl, undef, rfl, H40⟩)
      · intro η29 wd46 Δ47 hE43 hR44 H45
        have H45 : Hp w0 ((Δ47 ++ Γ)) wd46 := H45
        refine sp_op [(5, .int .i64 v15)] (ac rfl an) ?_
        refine r_pure (.int .i64 v15) rfl ?_
        exact r_nil (n_lp ⟨_, rfl, undef, rfl, H45⟩)
      · intro η29 wd51 Δ52 hE48 hR49 H50
        have H50 : Hp w0 ((Δ52 ++ Γ)) wd51 := H50
        refine sp_op [(17, .slice A1 a_.length c2), (18, .int .i64 v15)] (ac (hE48 0 (by decide)) (ac (hE48 1 (by decide)) an)) ?_
        have hA56 := (hv4 _ (H50).tl).adO hj32
        refine r_ix IX25 rfl rfl hA56 h030 h131 ?_
        exact r_nil (n_lp ⟨_, rfl, undef, rfl, H50⟩)
      · intro η29 wd60 Δ61 hE57 hR58 H59
        have H59 : Hp w0 ((Δ61 ++ Γ)) wd60 := H59
        refine sp_op [(19, .pointer (some ((oA A1).add (Int.toNat v15 * 2))))] (ac (hE57 2 (by decide)) an) ?_
        have hA62 := (hv4 _ (H59).tl).adO hj32
        refine r_ldA [.int .i64 ((rd a_ v15).Kind), .int .i64 ((rd a_ v15).Amount)] LD24 rfl rfl ((hv4 _ (H59).tl).csA hA62 hj32) ?_
        exact r_nil (n_lp ⟨_, rfl, undef, rfl, H59⟩)
      · intro η29 wd66 Δ67 hE63 hR64 H65
        have H65 : Hp w0 ((Δ67 ++ Γ)) wd66 := H65
        refine sp_op [(1, .slice A7 b_.length c8)] (ac rfl an) ?_
        refine r_pure (.slice A7 b_.length c8) rfl ?_
        exact r_nil (n_lp ⟨_, rfl, undef, rfl, H65⟩)
      · intro η29 wd71 Δ72 hE68 hR69 H70
        have H70 : Hp w0 ((Δ72 ++ Γ)) wd71 := H70
        refine sp_op [(5, .int .i64 v15)] (ac rfl an) ?_
        refine r_pure (.int .i64 v15) rfl ?_
        exact r_nil (n_lp ⟨_, rfl, undef, rfl, H70⟩)
      · intro η29 wd76 Δ77 hE73 hR74 H75
        have H75 : Hp w0 ((Δ77 ++ Γ)) wd76 := H75
        refine sp_op [(21, .slice A7 b_.length c8), (22, .int .i64 v15)] (ac (hE73 4 (by decide)) (ac (hE73 5 (by decide)) an)) ?_
        have hA81 := (hv10 _ (H75).tl).adO hj36
        refine r_ix IX25 rfl rfl hA81 h034 h135 ?_
        exact r_nil (n_lp ⟨_, rfl, undef, rfl, H75⟩)
      · intro η29 wd85 Δ86 hE82 hR83 H84
        have H84 : Hp w0 ((Δ86 ++ Γ)) wd85 := H84
        refine sp_op [(23, .pointer (some ((oA A7).add (Int.toNat v15 * 2))))] (ac (hE82 6 (by decide)) an) ?_
        have hA87 := (hv10 _ (H84).tl).adO hj36
        refine r_ldA [.int .i64 ((rd b_ v15).Kind), .int .i64 ((rd b_ v15).Amount)] LD24 rfl rfl ((hv10 _ (H84).tl).csA hA87 hj36) ?_
        exact r_nil (n_lp ⟨_, rfl, undef, rfl, H84⟩)
      · intro η29 wd91 Δ92 hE88 hR89 H90
        have H90 : Hp w0 ((Δ92 ++ Γ)) wd91 := H90
        refine sp_op [(20, .agg #[.int .i64 ((rd a_ v15).Kind), .int .i64 ((rd a_ v15).Amount)]), (24, .agg #[.int .i64 ((rd b_ v15).Kind), .int .i64 ((rd b_ v15).Amount)])] (ac (hE88 3 (by decide)) (ac (hE88 7 (by decide)) an)) ?_
        refine r_neS (EQ24 ((rd a_ v15).Kind) ((rd b_ v15).Kind) ((rd a_ v15).Amount) ((rd b_ v15).Amount)) (by decide) Try.eqGuardType24 rfl rfl ?_
        exact r_nil (n_lp ⟨_, rfl, undef, rfl, H90⟩)
      · intro η29 wd94 hV95 H93
        have H96 : Hp w0 (Γ) wd94 := H93
        refine n_frame [(0, .slice A1 a_.length c2), (1, .slice A7 b_.length c8), (5, .int .i64 v15), (25, .bool (!(((rd a_ v15).Kind) == ((rd b_ v15).Kind) && (((rd a_ v15).Amount) == ((rd b_ v15).Amount)))))] (ac rfl (ac rfl (ac rfl (ac (hV95 8 rfl) an)))) ?_
        refine n_sq ?_
        rcases ite_some hm with ⟨hb97, hm⟩ | ⟨hb97, hm⟩
        · refine st_condt hb97 rfl ?_
          refine st_seq ?_
          refine st_region ?_
          refine r_pure (.bool false) rfl ?_
          refine r_seq ?_
          have hq_ := Option.some.inj hm
          subst hq_
          have hq_ := Option.some.inj (show some (false : Bool) = some r0_ from hm17)
          subst hq_
          refine st_ret1 rfl rfl (Nat.le_of_ble_eq_true rfl) rfl ?_
          exact ⟨rfl, H96⟩
        · refine st_condf hb97 rfl ?_
          refine st_skip ?_
          refine n_bl ?_
          refine n_sq ?_
          refine st_region ?_
          refine r_pure (.int .i64 v15) rfl ?_
          refine r_pure (.int .i64 (w64 (v15 + 1))) rfl ?_
          refine r_pure (.int .i64 (w64 (v15 + 1))) rfl ?_
          refine r_nil ?_
          refine n_round (IH27 _ _ _ ⟨w64 (v15 + 1), rfl, upk (ac rfl (ac rfl (ac rfl an))), H96⟩ hm)
    · refine st_condf hb28 rfl ?_
      have hq_ := Option.some.inj hm
      refine st_exit rfl ?_
      subst hq_
      refine n_sq ?_
      refine st_seq ?_
      refine st_region ?_
      refine r_pure (.bool true) rfl ?_
      refine r_seq ?_
      have hq_ := Option.some.inj hm17
      subst hq_
      refine st_ret1 rfl rfl (Nat.le_of_ble_eq_true rfl) rfl ?_
      exact ⟨rfl, H16⟩

set_option maxHeartbeats 2000000 in
theorem fx_near_ok {w0 w : World} {Γ : List (World → Prop)} (n_ : Int) (r0_ : Bool) (H : Hp w0 (Γ) w) (hm : fx_near n_ = some r0_) : Calls Try.prog 15 #[.int .i64 n_] w (fun e w => e = .returned (.bool r0_) ∧ Hp w0 (Γ) w) := by
  unfold fx_near at hm
  refine st_enter Try.func15 rfl Try.ntmps15 (Nat.le_of_ble_eq_true rfl) ?_
  refine st_seq ?_
  refine st_region ?_
  refine r_pure (.bool false) rfl ?_
  refine r_seq ?_
  refine st_cut (fun ρ w => ∃ q1 : Bool, (∃ base, ρ = updl base [(2, .bool q1)]) ∧ Hp w0 (Γ) w ∧ fx_near.j1 q1 = some r0_) ?_ ?_
  · refine st_region ?_
    refine r_pure (.int .i64 n_) rfl ?_
    refine r_pure (.bool (decide (n_ ≥ (-400000000000)))) rfl ?_
    refine r_pure (.bool (decide (n_ ≥ (-400000000000)))) rfl ?_
    rcases ite_some hm with ⟨hb3, hm⟩ | ⟨hb3, hm⟩
    · refine r_pure (.int .i64 n_) rfl ?_ (wn_t rfl rfl (by decide) rfl hb3)
      refine r_pure (.bool (decide (n_ ≤ 400000000000))) rfl ?_ (wn_t rfl rfl (by decide) rfl hb3)
      refine r_pick_t (.bool (decide (n_ ≤ 400000000000))) hb3 rfl rfl ?_
      refine r_pure (.bool (decide (n_ ≤ 400000000000))) rfl ?_
      refine r_nil ?_
      refine n_cut ⟨decide (n_ ≤ 400000000000), upk (ac rfl an), H, hm⟩
    · refine r_not (wn_f rfl rfl (by decide) rfl hb3) ?_
      refine r_not (wn_f rfl rfl (by decide) rfl hb3) ?_
      refine r_pick_f (.bool false) hb3 rfl rfl ?_
      refine r_pure (.bool false) rfl ?_
      refine r_nil ?_
      refine n_cut ⟨false, upk (ac rfl an), H, hm⟩
  · rintro ρ w ⟨q1, ⟨base, rfl⟩, H2, hm⟩
    unfold fx_near.j1 at hm
    have hq_ := Option.some.inj hm
    subst hq_
    refine st_ret1 rfl rfl (Nat.le_of_ble_eq_true rfl) rfl ?_
    exact ⟨rfl, H2⟩

set_option maxHeartbeats 2000000 in
theorem rate_Of_ok {w0 w : World} {Γ : List (World → Prop)} (n_ : Int) (rate_ : Int) (r0_ : Int) (r1_ : Bool) (H : Hp w0 (Γ) w) (hm : rate_Of n_ rate_ = some (r0_, r1_)) : Calls Try.prog 16 #[.int .i64 n_, .int .i64 rate_] w (fun e w => e = .returned (.tuple #[.int .i64 r0_, .bool r1_]) ∧ Hp w0 (Γ) w) := by
  unfold rate_Of at hm
  refine st_enter Try.func16 rfl Try.ntmps16 (Nat.le_of_ble_eq_true rfl) ?_
  refine st_seq ?_
  refine st_region ?_
  refine r_pure (.int .i64 0) rfl ?_
  refine r_pure (.bool false) rfl ?_
  refine r_seq ?_
  refine st_seq ?_
  refine st_cut (fun ρ w => ∃ q1 : Bool, (∃ base, ρ = updl base [(0, .int .i64 n_), (1, .int .i64 rate_), (20, .bool q1)]) ∧ Hp w0 (Γ) w ∧ rate_Of.j1 n_ rate_ q1 = some (r0_, r1_)) ?_ ?_
  · refine st_region ?_
    refine r_pure (.int .i64 n_) rfl ?_
    refine r_pure (.bool (decide (n_ < (-400000000000)))) rfl ?_
    refine r_pure (.bool (decide (n_ < (-400000000000)))) rfl ?_
    rcases ite_some hm with ⟨hb5, hm⟩ | ⟨hb5, hm⟩
    · refine r_not (wn_f rfl rfl (by decide) rfl hb5) ?_
      refine r_not (wn_f rfl rfl (by decide) rfl hb5) ?_
      refine r_pick_t (.bool true) hb5 rfl rfl ?_
      refine r_pure (.bool true) rfl ?_
      refine r_not (wn_f rfl rfl (by decide) rfl rfl) ?_
      refine r_not (wn_f rfl rfl (by decide) rfl rfl) ?_
      refine r_pick_t (.bool true) rfl rfl rfl ?_
      refine r_pure (.bool true) rfl ?_
      refine r_not (wn_f rfl rfl (by decide) rfl rfl) ?_
      refine r_not (wn_f rfl rfl (by decide) rfl rfl) ?_
      refine r_pick_t (.bool true) rfl rfl rfl ?_
      refine r_nil ?_
      refine n_cut ⟨true, upk (ac rfl (ac rfl (ac rfl an))), H, hm⟩
    · refine r_pure (.int .i64 n_) rfl ?_ (wn_t rfl rfl (by decide) rfl hb5)
      refine r_pure (.bool (decide (n_ > 400000000000))) rfl ?_ (wn_t rfl rfl (by decide) rfl hb5)
      refine r_pick_f (.bool (decide (n_ > 400000000000))) hb5 rfl rfl ?_
      refine r_pure (.bool (decide (n_ > 400000000000))) rfl ?_
      rcases ite_some hm with ⟨hb6, hm⟩ | ⟨hb6, hm⟩
      · refine r_not (wn_f rfl rfl (by decide) rfl hb6) ?_
        refine r_not (wn_f rfl rfl (by decide) rfl hb6) ?_
        refine r_pick_t (.bool true) hb6 rfl rfl ?_
        refine r_pure (.bool true) rfl ?_
        refine r_not (wn_f rfl rfl (by decide) rfl rfl) ?_
        refine r_not (wn_f rfl rfl (by decide) rfl rfl) ?_
        refine r_pick_t (.bool true) rfl rfl rfl ?_
        refine r_nil ?_
        refine n_cut ⟨true, upk (ac rfl (ac rfl (ac rfl an))), H, hm⟩
      · refine r_pure (.int .i64 rate_) rfl ?_ (wn_t rfl rfl (by decide) rfl hb6)
        refine r_pure (.bool (decide (rate_ < 0))) rfl ?_ (wn_t rfl rfl (by decide) rfl hb6)
        refine r_pick_f (.bool (decide (rate_ < 0))) hb6 rfl rfl ?_
        refine r_pure (.bool (decide (rate_ < 0))) rfl ?_
        rcases ite_some hm with ⟨hb7, hm⟩ | ⟨hb7, hm⟩
        · refine r_not (wn_f rfl rfl (by decide) rfl hb7) ?_
          refine r_not (wn_f rfl rfl (by decide) rfl hb7) ?_
          refine r_pick_t (.bool true) hb7 rfl rfl ?_
          refine r_nil ?_
          refine n_cut ⟨true, upk (ac rfl (ac rfl (ac rfl an))), H, hm⟩
        · refine r_pure (.int .i64 rate_) rfl ?_ (wn_t rfl rfl (by decide) rfl hb7)
          refine r_pure (.bool (decide (rate_ > 10000000))) rfl ?_ (wn_t rfl rfl (by decide) rfl hb7)
          refine r_pick_f (.bool (decide (rate_ > 10000000))) hb7 rfl rfl ?_
          refine r_nil ?_
          refine n_cut ⟨decide (rate_ > 10000000), upk (ac rfl (ac rfl (ac rfl an))), H, hm⟩
  · rintro ρ w ⟨q1, ⟨base, rfl⟩, H2, hm⟩
    unfold rate_Of.j1 at hm
    rcases ite_some hm with ⟨hb3, hm⟩ | ⟨hb3, hm⟩
    · refine st_condt hb3 rfl ?_
      refine st_seq ?_
      refine st_region ?_
      refine r_pure (.int .i64 0) rfl ?_
      refine r_pure (.bool false) rfl ?_
      refine r_seq ?_
      obtain ⟨rfl, rfl⟩ := some_inj2 hm
      refine st_ret2 rfl rfl (Nat.le_of_ble_eq_true rfl) (Nat.le_of_ble_eq_true rfl) rfl rfl ?_
      exact ⟨rfl, H2⟩
    · refine st_condf hb3 rfl ?_
      refine st_skip ?_
      refine n_sq ?_
      refine st_seq ?_
      refine st_region ?_
      refine r_pure (.int .i64 n_) rfl ?_
      refine r_pure (.int .i64 (w64 (2 * n_))) rfl ?_
      refine r_pure (.int .i64 rate_) rfl ?_
      refine r_pure (.int .i64 (w64 (w64 (2 * n_) * rate_))) rfl ?_
      refine r_pure (.int .i64 (w64 (w64 (2 * n_) * rate_))) rfl ?_
      refine r_seq ?_
      refine st_seq ?_
      refine st_seq ?_
      refine st_region ?_
      refine r_pure (.int .i64 n_) rfl ?_
      refine r_pure (.bool (decide (n_ < 0))) rfl ?_
      refine r_seq ?_
      rcases ite_some hm with ⟨hb4, hm⟩ | ⟨hb4, hm⟩
      · refine st_condt hb4 rfl ?_
        refine st_seq ?_
        refine st_region ?_
        refine r_pure (.int .i64 (w64 (w64 (2 * n_) * rate_))) rfl ?_
        refine r_pure (.int .i64 (w64 (w64 (w64 (2 * n_) * rate_) - 1000000))) rfl ?_
        refine r_quo (by decide) rfl rfl ?_
        refine r_pure (.int .i64 (w64 (Int.tdiv (w64 (w64 (w64 (2 * n_) * rate_) - 1000000)) 2000000))) rfl ?_
        refine r_pure (.bool true) rfl ?_
        refine r_seq ?_
        obtain ⟨rfl, rfl⟩ := some_inj2 hm
        refine st_ret2 rfl rfl (Nat.le_of_ble_eq_true rfl) (Nat.le_of_ble_eq_true rfl) rfl rfl ?_
        exact ⟨rfl, H2⟩
      · refine st_condf hb4 rfl ?_
        refine st_skip ?_
        refine n_sq ?_
        refine st_seq ?_
        refine st_region ?_
        refine r_pure (.int .i64 (w64 (w64 (2 * n_) * rate_))) rfl ?_
        refine r_pure (.int .i64 (w64 (w64 (w64 (2 * n_) * rate_) + 1000000))) rfl ?_
        refine r_quo (by decide) rfl rfl ?_
        refine r_pure (.int .i64 (w64 (Int.tdiv (w64 (w64 (w64 (2 * n_) * rate_) + 1000000)) 2000000))) rfl ?_
        refine r_pure (.bool true) rfl ?_
        refine r_seq ?_
        obtain ⟨rfl, rfl⟩ := some_inj2 hm
        refine st_ret2 rfl rfl (Nat.le_of_ble_eq_true rfl) (Nat.le_of_ble_eq_true rfl) rfl rfl ?_
        exact ⟨rfl, H2⟩

set_option maxHeartbeats 2000000 in
theorem fx_Convert_ok {w0 w : World} {Γ : List (World → Prop)} (items : List api_Item) (A1 : Option Addr) (n6 c2 : Nat) (hn5 : n6 = items.length) (hc3 : items.length ≤ c2) (hv4 : ∀ u, Hp w0 Γ u → SlR K24 A1 items u) (fx : Int) (r0_ : List api_Item) (r1_ : Int) (r2_ : Int) (H : Hp w0 (Γ) w) (hm : fx_Convert items fx = some (r0_, r1_, r2_)) : Calls Try.prog 7 #[.slice A1 n6 c2, .int .i64 fx] w (fun e w => ∃ (Ax1 : Option Addr) (nx2 cx3 : Nat), e = .returned (.tuple #[.slice Ax1 nx2 cx3, .int .i64 r1_, .int .i64 r2_]) ∧ Hp w0 (Row K24 (.slice Ax1 nx2 cx3) r0_ :: Γ) w) := by
  subst hn5
  unfold fx_Convert at hm
  refine st_enter Try.func7 rfl Try.ntmps7 (Nat.le_of_ble_eq_true rfl) ?_
  refine st_seq ?_
  refine st_region ?_
  refine r_pure (.slice none 0 0) rfl ?_
  refine r_pure (.int .i64 0) rfl ?_
  refine r_pure (.int .i64 0) rfl ?_
  refine r_seq ?_
  refine st_seq ?_
  refine st_cut (fun ρ w => ∃ q7 : Bool, (∃ base, ρ = updl base [(0, .slice A1 items.length c2), (1, .int .i64 fx), (26, .bool q7)]) ∧ Hp w0 (Γ) w ∧ fx_Convert.j1 fx items q7 = some (r0_, r1_, r2_)) ?_ ?_
  · refine st_region ?_
    refine r_pure (.int .i64 fx) rfl ?_
    refine r_pure (.bool (decide (fx < 1))) rfl ?_
    refine r_pure (.bool (decide (fx < 1))) rfl ?_
    rcases ite_some hm with ⟨hb83, hm⟩ | ⟨hb83, hm⟩
    · refine r_not (wn_f rfl rfl (by decide) rfl hb83) ?_
      refine r_not (wn_f rfl rfl (by decide) rfl hb83) ?_
      refine r_pick_t (.bool true) hb83 rfl rfl ?_
      refine r_pure (.bool true) rfl ?_
      refine r_not (wn_f rfl rfl (by decide) rfl rfl) ?_
      refine r_not (wn_f rfl rfl (by decide) rfl rfl) ?_
      refine r_not (wn_f rfl rfl (by decide) rfl rfl) ?_
      refine r_pick_t (.bool true) rfl rfl rfl ?_
      refine r_nil ?_
      refine n_cut ⟨true, upk (ac rfl (ac rfl (ac rfl an))), H, hm⟩
    · refine r_pure (.int .i64 fx) rfl ?_ (wn_t rfl rfl (by decide) rfl hb83)
      refine r_pure (.bool (decide (fx > 10000000))) rfl ?_ (wn_t rfl rfl (by decide) rfl hb83)
      refine r_pick_f (.bool (decide (fx > 10000000))) hb83 rfl rfl ?_
      refine r_pure (.bool (decide (fx > 10000000))) rfl ?_
      rcases ite_some hm with ⟨hb84, hm⟩ | ⟨hb84, hm⟩
      · refine r_not (wn_f rfl rfl (by decide) rfl hb84) ?_
        refine r_not (wn_f rfl rfl (by decide) rfl hb84) ?_
        refine r_not (wn_f rfl rfl (by decide) rfl hb84) ?_
        refine r_pick_t (.bool true) hb84 rfl rfl ?_
        refine r_nil ?_
        refine n_cut ⟨true, upk (ac rfl (ac rfl (ac rfl an))), H, hm⟩
      · refine r_pure (.slice A1 items.length c2) rfl ?_ (wn_t rfl rfl (by decide) rfl hb84)
        refine r_len Try.underlying25 rfl ?_ (wn_t rfl rfl (by decide) rfl hb84)
        refine r_pure (.bool (decide ((items.length : Int) > 20))) rfl ?_ (wn_t rfl rfl (by decide) rfl hb84)
        refine r_pick_f (.bool (decide ((items.length : Int) > 20))) hb84 rfl rfl ?_
        refine r_nil ?_
        refine n_cut ⟨decide ((items.length : Int) > 20), upk (ac rfl (ac rfl (ac rfl an))), H, hm⟩
  · rintro ρ w ⟨q7, ⟨base, rfl⟩, H8, hm⟩
    unfold fx_Convert.j1 at hm
    rcases ite_some hm with ⟨hb9, hm⟩ | ⟨hb9, hm⟩
    · refine st_condt hb9 rfl ?_
      refine st_seq ?_
      refine st_region ?_
      refine r_pure (.slice none 0 0) rfl ?_
      refine r_pure (.int .i64 0) rfl ?_
      refine r_pure (.int .i64 1) rfl ?_
      refine r_seq ?_
      have H10 := H8.add (A := Row K24 (.slice none 0 0) []) Row.nil
      obtain ⟨rfl, rfl, rfl⟩ := some_inj3 hm
      refine st_ret3 rfl rfl (Nat.le_of_ble_eq_true rfl) (Nat.le_of_ble_eq_true rfl) (Nat.le_of_ble_eq_true rfl) rfl rfl rfl ?_
      exact ⟨none, 0, 0, rfl, H10⟩
    · refine st_condf hb9 rfl ?_
      refine st_skip ?_
      refine n_sq ?_
      refine st_seq ?_
      refine st_region ?_
      refine r_pure (.int .i64 0) rfl ?_
      refine r_pure (.int .i64 0) rfl ?_
      refine r_seq ?_
      refine st_seq ?_
      refine st_region ?_
      refine r_pure (.slice none 0 0) rfl ?_
      refine r_seq ?_
      refine st_seq ?_
      refine st_seq ?_
      refine st_region ?_
      refine r_pure (.slice A1 items.length c2) rfl ?_
      refine r_len Try.underlying25 rfl ?_
      refine r_pure (.int .i64 0) rfl ?_
      refine r_seq ?_
      refine st_block ?_
      have H20 := H8.add (A := Row K24 (.slice none 0 0) []) Row.nil
      have hlim44 := (hv4 _ H20.d).lim
      obtain ⟨tl27, hl28, hm26⟩ := bind_some hm
      refine st_loopL (fx_Convert.l1 fx) (fun ys33 s ρ w => ∃ i29 : Int, ∃ v18 : Int, ∃ v19 : Int, ∃ xs24 : List api_Item, ∃ dn30 : List api_Item, ∃ A21 : Option Addr, ∃ n22 : Nat, ∃ c23 : Nat, (i29, v18, v19, xs24) = s ∧ items = dn30 ++ ys33 ∧ i29 = (dn30.length : Int) ∧ (∃ base, ρ = updl base [(1, .int .i64 fx), (7, .int .i64 v18), (8, .int .i64 v19), (9, .slice A21 n22 c23), (27, .slice A1 items.length c2), (28, .int .i64 (items.length : Int)), (29, .int .i64 i29)]) ∧ Hp w0 (Row K24 (.slice A21 n22 c23) xs24 :: Γ) w) hl28 ⟨0, 0, 0, ([] : List api_Item), [], none, 0, 0, rfl, rfl, rfl, upk (ac rfl (ac rfl (ac rfl (ac rfl (ac rfl (ac rfl (ac rfl an))))))), H20⟩ ?_
      rintro m ys33 IH37 s ρ w ⟨i29, v18, v19, xs24, dn30, A21, n22, c23, rfl, hxs31, hi32, ⟨base, rfl⟩, H25⟩ hm
      obtain rfl := (H25.g0).leneq
      rcases ys33 with _ | ⟨y34, ys33⟩
      · rw [fx_Convert.l1] at hm
        have hb38 := range_end hxs31 hi32
        refine st_seq ?_
        refine st_region ?_
        refine r_pure (.bool (decide (i29 < (items.length : Int)))) rfl ?_
        refine r_seq ?_
        refine st_seq ?_
        refine st_condf hb38 rfl ?_
        have hq_ := Option.some.inj hm
        refine st_exit rfl ?_
        subst hq_
        refine n_sq ?_
        refine st_seq ?_
        refine st_region ?_
        refine r_pure (.int .i64 v18) rfl ?_
        refine r_pure (.int .i64 fx) rfl ?_
        obtain ⟨⟨y45, y46⟩, hy47, hm⟩ := bind_some hm26
        refine r_callf Try.call16 (rate_Of_ok v18 fx y45 y46 H25 hy47) ?_
        rintro e49 wd48 ⟨rfl, H51⟩
        refine ⟨_, rfl, ?_⟩
        refine r_pure (.tuple #[.int .i64 y45, .bool y46]) rfl ?_
        refine r_pure (.int .i64 y45) rfl ?_
        refine r_pure (.bool y46) rfl ?_
        refine r_pure (.int .i64 y45) rfl ?_
        refine r_pure (.bool y46) rfl ?_
        refine r_seq ?_
        refine st_seq ?_
        refine st_seq ?_
        refine st_region ?_
        refine r_pure (.bool y46) rfl ?_
        refine r_pure (.bool (!y46)) rfl ?_
        refine r_seq ?_
        rcases ite_some hm with ⟨hb52, hm⟩ | ⟨hb52, hm⟩
        · refine st_condt hb52 rfl ?_
          refine st_seq ?_
          refine st_region ?_
          refine r_pure (.slice none 0 0) rfl ?_
          refine r_pure (.int .i64 0) rfl ?_
          refine r_pure (.int .i64 1) rfl ?_
          refine r_seq ?_
          have H53 := H51.add (A := Row K24 (.slice none 0 0) []) Row.nil
          obtain ⟨rfl, rfl, rfl⟩ := some_inj3 hm
          refine st_ret3 rfl rfl (Nat.le_of_ble_eq_true rfl) (Nat.le_of_ble_eq_true rfl) (Nat.le_of_ble_eq_true rfl) rfl rfl rfl ?_
          exact ⟨none, 0, 0, rfl, H53.u1.d⟩
        · refine st_condf hb52 rfl ?_
          refine st_skip ?_
          refine n_sq ?_
          refine st_seq ?_
          refine st_region ?_
          refine r_pure (.slice A21 xs24.length c23) rfl ?_
          refine r_pure (.int .i64 y45) rfl ?_
          refine r_pure (.int .i64 v19) rfl ?_
          refine r_pure (.int .i64 (w64 (y45 - v19))) rfl ?_
          refine r_pure (.slice A21 xs24.length c23) rfl ?_
          refine r_pure (.int .i64 (w64 (y45 - v19))) rfl ?_
          refine r_pure (.int .i64 0) rfl ?_
          refine r_seq ?_
          obtain ⟨rfl, rfl, rfl⟩ := some_inj3 hm
          refine st_ret3 rfl rfl (Nat.le_of_ble_eq_true rfl) (Nat.le_of_ble_eq_true rfl) (Nat.le_of_ble_eq_true rfl) rfl rfl rfl ?_
          exact ⟨A21, xs24.length, c23, rfl, H51⟩
      · rw [fx_Convert.l1] at hm
        have hb39 := range_in hxs31 hi32
        obtain ⟨h040, h141, hj42⟩ := range_ix hxs31 hi32
        have hnx43 := range_next hxs31 hi32 hlim44
        refine st_seq ?_
        refine st_region ?_
        refine r_pure (.bool (decide (i29 < (items.length : Int)))) rfl ?_
        refine r_seq ?_
        refine st_seq ?_
        refine st_condt hb39 rfl ?_
        refine st_skip ?_
        refine n_sq ?_
        refine st_seq ?_
        refine st_block ?_
        refine st_seq ?_
        refine st_region ?_
        have hA54 := (hv4 _ H25.d).adO hj42
        refine r_ix IX25 rfl rfl hA54 h040 h141 ?_
        refine r_ldA [.int .i64 y34.Kind, .int .i64 y34.Amount] LD24 rfl rfl ((hv4 _ H25.d).csA hA54 hj42) ?_
        refine r_alloc [.int .i64 0, .int .i64 0] Try.zeroValue24 H25 rfl ?_
        intro b55 wd57 H56
        refine r_stA [.int .i64 y34.Kind, .int .i64 y34.Amount] LD24 rfl rfl rfl rfl H56 (Nat.le_of_ble_eq_true rfl) rfl ?_
        intro wd59 H58
        refine r_seq ?_
        refine st_seq ?_
        refine st_seq ?_
        refine st_region ?_
        refine r_fa FA24_1 ⟨b55, 1, none⟩ rfl rfl ?_
        refine r_ld1 (.int .i64 y34.Amount) LD3 rfl ((H58.g0).cell _ rfl) ?_
        obtain ⟨y60, hy61, hm⟩ := bind_some hm
        refine r_callf Try.call15 (fx_near_ok y34.Amount y60 H58 hy61) ?_
        rintro e63 wd62 ⟨rfl, H65⟩
        refine ⟨_, rfl, ?_⟩
        refine r_pure (.bool (!y60)) rfl ?_
        refine r_seq ?_
        rcases ite_some hm with ⟨hb66, hm⟩ | ⟨hb66, hm⟩
        · refine st_condt hb66 rfl ?_
          refine st_seq ?_
          refine st_region ?_
          refine r_pure (.slice none 0 0) rfl ?_
          refine r_pure (.int .i64 0) rfl ?_
          refine r_pure (.int .i64 1) rfl ?_
          refine r_seq ?_
          have H67 := H65.add (A := Row K24 (.slice none 0 0) []) Row.nil
          have hq_ := Option.some.inj hm
          subst hq_
          obtain ⟨rfl, rfl, rfl⟩ := some_inj3 (show some ((([] : List api_Item), 0, 1) : (List api_Item × Int × Int)) = some (r0_, r1_, r2_) from hm26)
          refine st_ret3 rfl rfl (Nat.le_of_ble_eq_true rfl) (Nat.le_of_ble_eq_true rfl) (Nat.le_of_ble_eq_true rfl) rfl rfl rfl ?_
          exact ⟨none, 0, 0, rfl, H67.u1.d.u1.d⟩
        · refine st_condf hb66 rfl ?_
          refine st_skip ?_
          refine n_sq ?_
          refine st_seq ?_
          refine st_region ?_
          refine r_fa FA24_1 ⟨b55, 1, none⟩ rfl rfl ?_
          refine r_ld1 (.int .i64 y34.Amount) LD3 rfl ((H65.g0).cell _ rfl) ?_
          refine r_pure (.int .i64 fx) rfl ?_
          obtain ⟨⟨y68, y69⟩, hy70, hm⟩ := bind_some hm
          refine r_callf Try.call16 (rate_Of_ok y34.Amount fx y68 y69 H65 hy70) ?_
          rintro e72 wd71 ⟨rfl, H74⟩
          refine ⟨_, rfl, ?_⟩
          refine r_pure (.tuple #[.int .i64 y68, .bool y69]) rfl ?_
          refine r_pure (.int .i64 y68) rfl ?_
          refine r_pure (.bool y69) rfl ?_
          refine r_pure (.int .i64 y68) rfl ?_
          refine r_pure (.bool y69) rfl ?_
          refine r_seq ?_
          refine st_seq ?_
          refine st_region ?_
          refine r_pure (.int .i64 v18) rfl ?_
          refine r_fa FA24_1 ⟨b55, 1, none⟩ rfl rfl ?_
          refine r_ld1 (.int .i64 y34.Amount) LD3 rfl ((H74.g0).cell _ rfl) ?_
          refine r_pure (.int .i64 (w64 (v18 + y34.Amount))) rfl ?_
          refine r_pure (.int .i64 v19) rfl ?_
          refine r_pure (.int .i64 y68) rfl ?_
          refine r_pure (.int .i64 (w64 (v19 + y68))) rfl ?_
          refine r_pure (.int .i64 (w64 (v18 + y34.Amount))) rfl ?_
          refine r_pure (.int .i64 (w64 (v19 + y68))) rfl ?_
          refine r_seq ?_
          refine st_region ?_
          refine r_pure (.slice A21 xs24.length c23) rfl ?_
          refine r_fa FA24_0 ⟨b55, 0, none⟩ rfl rfl ?_
          refine r_ld1 (.int .i64 y34.Kind) LD3 rfl ((H74.g0).cell _ rfl) ?_
          refine r_pure (.int .i64 y68) rfl ?_
          refine r_build [.int .i64 y34.Kind, .int .i64 y68] FL24 rfl ?_
          refine r_buildSlice (K := K24) [(⟨y34.Kind, y68⟩ : api_Item)] EL25 rfl rfl rfl (by decide) (by decide) rfl H74 ?_
          intro b75 wd77 H76
          obtain ⟨hf78, hm⟩ := gd_some hm
          refine r_append (K := K24) (ys := [(⟨y34.Kind, y68⟩ : api_Item)]) AP25 rfl rfl rfl rfl H76.u2 (((H76.u2).g1).src) (fit_le hf78 (by decide)) ?_
          intro A79 c80 wd81 H82
          refine r_pure (.slice A79 ((xs24 ++ [(⟨y34.Kind, y68⟩ : api_Item)]).length) c80) rfl ?_
          refine r_nil ?_
          refine n_bl ?_
          refine n_sq ?_
          refine st_region ?_
          refine r_pure (.int .i64 (w64 (i29 + 1))) rfl ?_
          refine r_pure (.int .i64 (w64 (i29 + 1))) rfl ?_
          refine r_nil ?_
          refine n_round (IH37 _ _ rfl _ _ _ ⟨i29 + 1, w64 (v18 + y34.Amount), w64 (v19 + y68), xs24 ++ [(⟨y34.Kind, y68⟩ : api_Item)], dn30 ++ [y34], A79, (xs24 ++ [(⟨y34.Kind, y68⟩ : api_Item)]).length, c80, rfl, range_more hxs31, range_len hi32, upk (ac rfl (ac rfl (ac rfl (ac rfl (ac rfl (ac rfl (ac hnx43 an))))))), H82.u1.d.u1.d⟩ hm)

set_option maxHeartbeats 2000000 in
theorem scutagelaw25_wakes_ok {w0 w : World} {Γ : List (World → Prop)}  (r0_ : Bool) (H : Hp w0 (Γ) w) (hm : scutagelaw25_wakes = some r0_) : Calls Try.prog 9 #[] w (fun e w => e = .returned (.bool r0_) ∧ Hp w0 (Γ) w) := by
  unfold scutagelaw25_wakes at hm
  refine st_enter Try.func9 rfl Try.ntmps9 (Nat.le_of_ble_eq_true rfl) ?_
  refine st_seq ?_
  refine st_region ?_
  refine r_pure (.bool false) rfl ?_
  refine r_seq ?_
  refine st_seq ?_
  refine st_region ?_
  refine r_build [.int .i64 1, .int .i64 1] FL24 rfl ?_
  refine r_build [.int .i64 2, .int .i64 1] FL24 rfl ?_
  refine r_build [.int .i64 3, .int .i64 1] FL24 rfl ?_
  refine r_buildSliceF (K := K24) [(⟨1, 1⟩ : api_Item), (⟨2, 1⟩ : api_Item), (⟨3, 1⟩ : api_Item)] EL25 rfl rfl rfl (by decide) (by decide) ⟨rfl, rfl, ⟨rfl, rfl, ⟨rfl, rfl, trivial⟩⟩⟩ H ?_
  intro b1 wd3 H2
  obtain ⟨⟨y4, y5, y6⟩, hy7, hm⟩ := bind_some hm
  refine r_callf Try.call7 (fx_Convert_ok [(⟨1, 1⟩ : api_Item), (⟨2, 1⟩ : api_Item), (⟨3, 1⟩ : api_Item)] (some ⟨b1, 0, none⟩) 3 3 rfl (((H2).g0).cap) (fun _ H => (H.g0.rd)) 500000 y4 y5 y6 H2 hy7) ?_
  rintro e9 wd8 ⟨A12, n13, c14, rfl, H11⟩
  obtain rfl := (H11.g0).leneq
  refine ⟨_, rfl, ?_⟩
  refine r_pure (.tuple #[.slice A12 y4.length c14, .int .i64 y5, .int .i64 y6]) rfl ?_
  refine r_pure (.slice A12 y4.length c14) rfl ?_
  refine r_pure (.int .i64 y5) rfl ?_
  refine r_pure (.int .i64 y6) rfl ?_
  refine r_pure (.slice A12 y4.length c14) rfl ?_
  refine r_pure (.int .i64 y5) rfl ?_
  refine r_pure (.int .i64 y6) rfl ?_
  refine r_seq ?_
  refine st_cut (fun ρ w => ∃ q15 : Bool, (∃ base, ρ = updl base [(0, .bool q15)]) ∧ Hp w0 (Γ) w ∧ scutagelaw25_wakes.j1 q15 = some r0_) ?_ ?_
  · refine st_region ?_
    refine r_pure (.int .i64 y6) rfl ?_
    refine r_pure (.bool (y6 == 0)) rfl ?_
    refine r_pure (.bool (y6 == 0)) rfl ?_
    rcases ite_some hm with ⟨hb17, hm⟩ | ⟨hb17, hm⟩
    · refine r_pure (.slice A12 y4.length c14) rfl ?_ (wn_t rfl rfl (by decide) rfl hb17)
      refine r_len Try.underlying25 rfl ?_ (wn_t rfl rfl (by decide) rfl hb17)
      refine r_pure (.bool ((y4.length : Int) == 3)) rfl ?_ (wn_t rfl rfl (by decide) rfl hb17)
      refine r_pick_t (.bool ((y4.length : Int) == 3)) hb17 rfl rfl ?_
      refine r_pure (.bool ((y4.length : Int) == 3)) rfl ?_
      rcases ite_some hm with ⟨hb18, hm⟩ | ⟨hb18, hm⟩
      · refine r_pure (.slice A12 y4.length c14) rfl ?_ (wn_t rfl rfl (by decide) rfl hb18)
        obtain ⟨⟨h019, h120⟩, hm⟩ := gd_some hm
        have hj21 := rd_get h019 h120
        have hA22 := (H11.g0.rd).adO hj21
        refine r_ix IX25 rfl rfl hA22 h019 h120 ?_ (wn_t rfl rfl (by decide) rfl hb18)
        refine r_fa FA24_1 (((oA A12).add (Int.toNat 0 * 2)).add 1) rfl rfl ?_ (wn_t rfl rfl (by decide) rfl hb18)
        refine r_ld1 (.int .i64 ((rd y4 0).Amount)) LD3 rfl ((H11.g0.rd).cA hA22 hj21 1 _ rfl) ?_ (wn_t rfl rfl (by decide) rfl hb18)
        refine r_pure (.bool ((rd y4 0).Amount == 1)) rfl ?_ (wn_t rfl rfl (by decide) rfl hb18)
        refine r_pick_t (.bool ((rd y4 0).Amount == 1)) hb18 rfl rfl ?_
        refine r_pure (.bool ((rd y4 0).Amount == 1)) rfl ?_
        rcases ite_some hm with ⟨hb23, hm⟩ | ⟨hb23, hm⟩
        · refine r_pure (.int .i64 y5) rfl ?_ (wn_t rfl rfl (by decide) rfl hb23)
          refine r_pure (.bool (y5 == (-1))) rfl ?_ (wn_t rfl rfl (by decide) rfl hb23)
          refine r_pick_t (.bool (y5 == (-1))) hb23 rfl rfl ?_
          refine r_pure (.bool (y5 == (-1))) rfl ?_
          refine r_nil ?_
          refine n_cut ⟨y5 == (-1), upk (ac rfl an), H11.d.d, hm⟩
        · refine r_not (wn_f rfl rfl (by decide) rfl hb23) ?_
          refine r_not (wn_f rfl rfl (by decide) rfl hb23) ?_
          refine r_pick_f (.bool false) hb23 rfl rfl ?_
          refine r_pure (.bool false) rfl ?_
          refine r_nil ?_
          refine n_cut ⟨false, upk (ac rfl an), H11.d.d, hm⟩
      · refine r_not (wn_f rfl rfl (by decide) rfl hb18) ?_
        refine r_not (wn_f rfl rfl (by decide) rfl hb18) ?_
        refine r_not (wn_f rfl rfl (by decide) rfl hb18) ?_
        refine r_not (wn_f rfl rfl (by decide) rfl hb18) ?_
        refine r_not (wn_f rfl rfl (by decide) rfl hb18) ?_
        refine r_pick_f (.bool false) hb18 rfl rfl ?_
        refine r_pure (.bool false) rfl ?_
        refine r_not (wn_f rfl rfl (by decide) rfl rfl) ?_
        refine r_not (wn_f rfl rfl (by decide) rfl rfl) ?_
        refine r_pick_f (.bool false) rfl rfl rfl ?_
        refine r_pure (.bool false) rfl ?_
        refine r_nil ?_
        refine n_cut ⟨false, upk (ac rfl an), H11.d.d, hm⟩
    · refine r_not (wn_f rfl rfl (by decide) rfl hb17) ?_
      refine r_not (wn_f rfl rfl (by decide) rfl hb17) ?_
      refine r_not (wn_f rfl rfl (by decide) rfl hb17) ?_
      refine r_pick_f (.bool false) hb17 rfl rfl ?_
      refine r_pure (.bool false) rfl ?_
      refine r_not (wn_f rfl rfl (by decide) rfl rfl) ?_
      refine r_not (wn_f rfl rfl (by decide) rfl rfl) ?_
      refine r_not (wn_f rfl rfl (by decide) rfl rfl) ?_
      refine r_not (wn_f rfl rfl (by decide) rfl rfl) ?_
      refine r_not (wn_f rfl rfl (by decide) rfl rfl) ?_
      refine r_pick_f (.bool false) rfl rfl rfl ?_
      refine r_pure (.bool false) rfl ?_
      refine r_not (wn_f rfl rfl (by decide) rfl rfl) ?_
      refine r_not (wn_f rfl rfl (by decide) rfl rfl) ?_
      refine r_pick_f (.bool false) rfl rfl rfl ?_
      refine r_pure (.bool false) rfl ?_
      refine r_nil ?_
      refine n_cut ⟨false, upk (ac rfl an), H11.d.d, hm⟩
  · rintro ρ w ⟨q15, ⟨base, rfl⟩, H16, hm⟩
    unfold scutagelaw25_wakes.j1 at hm
    have hq_ := Option.some.inj hm
    subst hq_
    refine st_ret1 rfl rfl (Nat.le_of_ble_eq_true rfl) rfl ?_
    exact ⟨rfl, H16⟩


end Go.Proofs.Ytfoefkihcnenaaa
