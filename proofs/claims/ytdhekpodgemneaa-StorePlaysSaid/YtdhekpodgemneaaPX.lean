/- The Go functions come to their models: printed by gen.py. -/
import Derived.Test.YtdhekpodgemneaaPX2
set_option linter.unusedVariables false
set_option linter.unusedSimpArgs false
set_option maxRecDepth 100000
namespace Go.Proofs.Ytdhekpodgemneaa
open Go Go.RowKit
attribute [local irreducible] W R N L Hp Row SlR Bx RwN

set_option maxHeartbeats 2000000 in
theorem scutageref01_Store_Balance_ok {w0 w : World} {Γ : List (World → Prop)} (b1 : Nat) (s_ : scutageref01_Store) (A2 : Option Addr) (n7 c3 : Nat) (hn6 : n7 = s_.f_J.length) (hc4 : s_.f_J.length ≤ c3) (ads8 : Nat → Option Addr × Nat) (hv5 : ∀ u, Hp w0 Γ u → SlRN (fun j => KN37 (ads8 j)) 6 A2 s_.f_J u) (hin9 : ∀ j x, s_.f_J[j]? = some x → x.Lines.length ≤ (ads8 j).2 ∧ ∀ u, Hp w0 Γ u → SlR K43 (ads8 j).1 x.Lines u) (hv10 : ∀ u, Hp w0 Γ u → Bx b1 28 [.slice A2 n7 c3] u) (entity : ByteArray) (account : Int) (upto : Int) (r0_ : Int) (H : Hp w0 (Γ) w) (hm : scutageref01_Store_Balance s_ entity account upto = some r0_) : Calls Try.prog 17 #[.pointer (some ⟨b1, 0, none⟩), .string entity, .int .i64 account, .int .i64 upto] w (fun e w => e = .returned (.int .i64 r0_) ∧ Hp w0 (Γ) w) := by
  subst hn6
  unfold scutageref01_Store_Balance at hm
  refine st_enter Try.func17 rfl Try.ntmps17 (Nat.le_of_ble_eq_true rfl) ?_
  refine st_seq ?_
  refine st_region ?_
  refine r_pure (.int .i64 0) rfl ?_
  refine r_seq ?_
  refine st_seq ?_
  refine st_seq ?_
  refine st_region ?_
  refine r_pure (.pointer (some ⟨b1, 0, none⟩)) rfl ?_
  refine r_pure (.string entity) rfl ?_
  refine r_pure (.int .i64 upto) rfl ?_
  obtain ⟨y11, hy12, hm⟩ := bind_some hm
  refine r_callf Try.call15 (scutageref01_Store_Trial_ok b1 (⟨s_.f_J⟩ : scutageref01_Store) A2 s_.f_J.length c3 rfl hc4 ads8 (fun _ H => (hv5 _ H)) (fun j x hj => ⟨(hin9 j x hj).1, fun u H => (hin9 j x hj).2 u H⟩) (fun _ H => (hv10 _ H)) entity upto y11 H hy12) ?_
  rintro e14 wd13 ⟨A17, n18, c19, rfl, H16⟩
  obtain rfl := (H16.g0).leneq
  refine ⟨_, rfl, ?_⟩
  refine r_len Try.underlying34 rfl ?_
  refine r_pure (.int .i64 0) rfl ?_
  refine r_seq ?_
  refine st_block ?_
  have hlim39 := (H16.g0.rd).lim
  obtain ⟨tl22, hl23, hm21⟩ := bind_some hm
  refine st_loopL (scutageref01_Store_Balance.l1 account) (fun ys28 s ρ w => ∃ i24 : Int, ∃ dn25 : List api_Line, i24 = s ∧ y11 = dn25 ++ ys28 ∧ i24 = (dn25.length : Int) ∧ (∃ base, ρ = updl base [(2, .int .i64 account), (14, .slice A17 y11.length c19), (15, .int .i64 (y11.length : Int)), (16, .int .i64 i24)]) ∧ Hp w0 (Row K43 (.slice A17 y11.length c19) y11 :: Γ) w) hl23 ⟨0, [], rfl, rfl, rfl, upk (ac rfl (ac rfl (ac rfl (ac rfl an)))), H16⟩ ?_
  rintro m ys28 IH32 s ρ w ⟨i24, dn25, rfl, hxs26, hi27, ⟨base, rfl⟩, H20⟩ hm
  rcases ys28 with _ | ⟨y29, ys28⟩
  · rw [scutageref01_Store_Balance.l1] at hm
    have hb33 := range_end hxs26 hi27
    refine st_seq ?_
    refine st_region ?_
    refine r_pure (.bool (decide (i24 < (y11.length : Int)))) rfl ?_
    refine r_seq ?_
    refine st_seq ?_
    refine st_condf hb33 rfl ?_
    have hq_ := Option.some.inj hm
    refine st_exit rfl ?_
    subst hq_
    refine n_sq ?_
    refine st_seq ?_
    refine st_region ?_
    refine r_pure (.int .i64 0) rfl ?_
    refine r_seq ?_
    have hq_ := Option.some.inj hm21
    subst hq_
    refine st_ret1 rfl rfl (Nat.le_of_ble_eq_true rfl) rfl ?_
    exact ⟨rfl, H20.d⟩
  · rw [scutageref01_Store_Balance.l1] at hm
    have hb34 := range_in hxs26 hi27
    obtain ⟨h035, h136, hj37⟩ := range_ix hxs26 hi27
    have hnx38 := range_next hxs26 hi27 hlim39
    refine st_seq ?_
    refine st_region ?_
    refine r_pure (.bool (decide (i24 < (y11.length : Int)))) rfl ?_
    refine r_seq ?_
    refine st_seq ?_
    refine st_condt hb34 rfl ?_
    refine st_skip ?_
    refine n_sq ?_
    refine st_seq ?_
    refine st_block ?_
    refine st_seq ?_
    refine st_region ?_
    have hA40 := (H20.g0.rd).adO hj37
    refine r_ix IX34 rfl rfl hA40 h035 h136 ?_
    refine r_ldA [.int .i64 y29.Account, .int .i64 y29.Amount] LD43 rfl rfl ((H20.g0.rd).csA hA40 hj37) ?_
    refine r_alloc [.int .i64 0, .int .i64 0] Try.zeroValue43 H20 rfl ?_
    intro b41 wd43 H42
    refine r_stA [.int .i64 y29.Account, .int .i64 y29.Amount] LD43 rfl rfl rfl rfl H42 (Nat.le_of_ble_eq_true rfl) rfl ?_
    intro wd45 H44
    refine r_seq ?_
    refine st_seq ?_
    refine st_region ?_
    refine r_fa FA43_0 ⟨b41, 0, none⟩ rfl rfl ?_
    refine r_ld1 (.int .i64 y29.Account) LD3 rfl ((H44.g0).cell _ rfl) ?_
    refine r_pure (.int .i64 account) rfl ?_
    refine r_pure (.bool (y29.Account == account)) rfl ?_
    refine r_seq ?_
    rcases ite_some hm with ⟨hb46, hm⟩ | ⟨hb46, hm⟩
    · refine st_condt hb46 rfl ?_
      refine st_seq ?_
      refine st_region ?_
      refine r_fa FA43_1 ⟨b41, 1, none⟩ rfl rfl ?_
      refine r_ld1 (.int .i64 y29.Amount) LD3 rfl ((H44.g0).cell _ rfl) ?_
      refine r_pure (.int .i64 y29.Amount) rfl ?_
      refine r_seq ?_
      have hq_ := Option.some.inj hm
      subst hq_
      have hq_ := Option.some.inj (show some (y29.Amount : Int) = some r0_ from hm21)
      subst hq_
      refine st_ret1 rfl rfl (Nat.le_of_ble_eq_true rfl) rfl ?_
      exact ⟨rfl, H44.d.d⟩
    · refine st_condf hb46 rfl ?_
      refine st_skip ?_
      refine n_bl ?_
      refine n_sq ?_
      refine st_region ?_
      refine r_pure (.int .i64 (w64 (i24 + 1))) rfl ?_
      refine r_pure (.int .i64 (w64 (i24 + 1))) rfl ?_
      refine r_nil ?_
      refine n_round (IH32 _ _ rfl _ _ _ ⟨i24 + 1, dn25 ++ [y29], rfl, range_more hxs26, range_len hi27, upk (ac rfl (ac rfl (ac rfl (ac hnx38 an)))), H44.d⟩ hm)

set_option maxHeartbeats 2000000 in
theorem scutagelaw07_wakes_ok {w0 w : World} {Γ : List (World → Prop)}  (r0_ : Bool) (H : Hp w0 (Γ) w) (hm : scutagelaw07_wakes = some r0_) : Calls Try.prog 18 #[] w (fun e w => e = .returned (.bool r0_) ∧ Hp w0 (Γ) w) := by
  unfold scutagelaw07_wakes at hm
  refine st_enter Try.func18 rfl Try.ntmps18 (Nat.le_of_ble_eq_true rfl) ?_
  refine st_seq ?_
  refine st_region ?_
  refine r_pure (.bool false) rfl ?_
  refine r_seq ?_
  refine st_seq ?_
  refine st_region ?_
  obtain ⟨y1, hy2, hm⟩ := bind_some hm
  refine r_callf Try.call4 (store_New_ok  y1 H hy2) ?_
  rintro e4 wd3 ⟨b7, A8, n9, c10, av11, rfl, H6⟩
  obtain rfl := (H6.g1).leneq
  refine ⟨_, rfl, ?_⟩
  refine r_pure (.pointer (some ⟨b7, 0, none⟩)) rfl ?_
  refine r_seq ?_
  refine st_seq ?_
  refine st_seq ?_
  refine st_region ?_
  refine r_pure (.pointer (some ⟨b7, 0, none⟩)) rfl ?_
  refine r_eqn Try.underlying23 rfl rfl ?_
  refine r_pure (.bool false) rfl ?_
  refine r_pure (.pointer (some ⟨b7, 0, none⟩)) rfl ?_ (wn_t rfl rfl (by decide) rfl rfl)
  obtain ⟨y12, hy13, hm⟩ := bind_some hm
  refine r_callf Try.call12 (store_Store_Journals_ok b7 (⟨y1.f_l⟩ : store_Store) A8 y1.f_l.length c10 rfl (((H6).g1).cap) (adv av11) (fun _ H => (H.g1.rd)) (fun j x hj => ⟨((H6).g2 j x hj).1, fun u H => (H.g2 j x hj).2⟩) (fun _ H => (H.g0)) y12 H6 hy13) ?_ (wn_t rfl rfl (by decide) rfl rfl)
  rintro e15 wd14 ⟨A18, n19, c20, av21, rfl, H17⟩
  obtain rfl := (H17.g0).leneq
  refine ⟨_, rfl, ?_⟩
  refine r_len Try.underlying26 rfl ?_ (wn_t rfl rfl (by decide) rfl rfl)
  refine r_pure (.bool ((y12.length : Int) != 0)) rfl ?_ (wn_t rfl rfl (by decide) rfl rfl)
  refine r_pick_f (.bool ((y12.length : Int) != 0)) rfl rfl rfl ?_
  refine r_seq ?_
  rcases ite_some hm with ⟨hb22, hm⟩ | ⟨hb22, hm⟩
  · refine st_condt hb22 rfl ?_
    refine st_seq ?_
    refine st_region ?_
    refine r_pure (.bool false) rfl ?_
    refine r_seq ?_
    have hq_ := Option.some.inj hm
    subst hq_
    refine st_ret1 rfl rfl (Nat.le_of_ble_eq_true rfl) rfl ?_
    exact ⟨rfl, H17.d.d.d.d.d⟩
  · refine st_condf hb22 rfl ?_
    refine st_skip ?_
    refine n_sq ?_
    refine st_seq ?_
    refine st_region ?_
    refine r_pure (.pointer (some ⟨b7, 0, none⟩)) rfl ?_
    refine r_build [.int .i64 1, .int .i64 5] FL43 rfl ?_
    refine r_build [.int .i64 2, .int .i64 (-5)] FL43 rfl ?_
    refine r_buildSlice (K := K43) [(⟨1, 5⟩ : api_Line), (⟨2, (-5)⟩ : api_Line)] EL34 rfl rfl rfl (by decide) (by decide) rfl H17 ?_
    intro b23 wd25 H24
    obtain ⟨⟨y26, y27, y28⟩, hy29, hm⟩ := bind_some hm
    refine r_callf Try.call9 (store_Store_Post_ok b7 (⟨y1.f_l⟩ : store_Store) A8 c10 av11 (⟨#[97]⟩ : ByteArray) 1 1 0 [(⟨1, 5⟩ : api_Line), (⟨2, (-5)⟩ : api_Line)] (some ⟨b23, 0, none⟩) 2 2 rfl (((H24.u5.u5.u5.d.d.d).g0).cap) (fun _ H => (H.g0.rd)) y26 y27 y28 H24.u5.u5.u5 hy29) ?_
    rintro e31 wd30 ⟨A34, n35, c36, av37, rfl, H33⟩
    obtain rfl := (H33.g1).leneq
    refine ⟨_, rfl, ?_⟩
    refine r_pure (.tuple #[.int .i64 y26, .int .i64 y27]) rfl ?_
    refine r_pure (.int .i64 y26) rfl ?_
    refine r_pure (.int .i64 y27) rfl ?_
    refine r_pure (.int .i64 y26) rfl ?_
    refine r_pure (.int .i64 y27) rfl ?_
    refine r_seq ?_
    refine st_cut (fun ρ w => ∃ q38 : Bool, (∃ base, ρ = updl base [(0, .bool q38)]) ∧ Hp w0 (Γ) w ∧ scutagelaw07_wakes.j1 q38 = some r0_) ?_ ?_
    · refine st_region ?_
      refine r_pure (.int .i64 y26) rfl ?_
      refine r_pure (.bool (y26 == 1)) rfl ?_
      refine r_pure (.bool (y26 == 1)) rfl ?_
      rcases ite_some hm with ⟨hb40, hm⟩ | ⟨hb40, hm⟩
      · refine r_pure (.int .i64 y27) rfl ?_ (wn_t rfl rfl (by decide) rfl hb40)
        refine r_pure (.bool (y27 == 0)) rfl ?_ (wn_t rfl rfl (by decide) rfl hb40)
        refine r_pick_t (.bool (y27 == 0)) hb40 rfl rfl ?_
        refine r_pure (.bool (y27 == 0)) rfl ?_
        rcases ite_some hm with ⟨hb41, hm⟩ | ⟨hb41, hm⟩
        · refine r_pure (.pointer (some ⟨b7, 0, none⟩)) rfl ?_ (wn_t rfl rfl (by decide) rfl hb41)
          obtain ⟨y42, hy43, hm⟩ := bind_some hm
          refine r_callf Try.call16 (store_Store_Balance_ok b7 (⟨y28.f_l⟩ : store_Store) A34 y28.f_l.length c36 rfl (((H33).g1).cap) (adv av37) (fun _ H => (H.g1.rd)) (fun j x hj => ⟨((H33).g2 j x hj).1, fun u H => (H.g2 j x hj).2⟩) (fun _ H => (H.g0)) (⟨#[97]⟩ : ByteArray) 1 1 y42 H33 hy43) ?_ (wn_t rfl rfl (by decide) rfl hb41)
          rintro e45 wd44 ⟨rfl, H47⟩
          refine ⟨_, rfl, ?_⟩
          refine r_pure (.bool (y42 == 5)) rfl ?_ (wn_t rfl rfl (by decide) rfl hb41)
          refine r_pick_t (.bool (y42 == 5)) hb41 rfl rfl ?_
          refine r_pure (.bool (y42 == 5)) rfl ?_
          refine r_nil ?_
          refine n_cut ⟨y42 == 5, upk (ac rfl an), H47.d.d.d.d.d.d, hm⟩
        · refine r_not (wn_f rfl rfl (by decide) rfl hb41) ?_
          refine r_not (wn_f rfl rfl (by decide) rfl hb41) ?_
          refine r_not (wn_f rfl rfl (by decide) rfl hb41) ?_
          refine r_pick_f (.bool false) hb41 rfl rfl ?_
          refine r_pure (.bool false) rfl ?_
          refine r_nil ?_
          refine n_cut ⟨false, upk (ac rfl an), H33.d.d.d.d.d.d, hm⟩
      · refine r_not (wn_f rfl rfl (by decide) rfl hb40) ?_
        refine r_not (wn_f rfl rfl (by decide) rfl hb40) ?_
        refine r_pick_f (.bool false) hb40 rfl rfl ?_
        refine r_pure (.bool false) rfl ?_
        refine r_not (wn_f rfl rfl (by decide) rfl rfl) ?_
        refine r_not (wn_f rfl rfl (by decide) rfl rfl) ?_
        refine r_not (wn_f rfl rfl (by decide) rfl rfl) ?_
        refine r_pick_f (.bool false) rfl rfl rfl ?_
        refine r_pure (.bool false) rfl ?_
        refine r_nil ?_
        refine n_cut ⟨false, upk (ac rfl an), H33.d.d.d.d.d.d, hm⟩
    · rintro ρ w ⟨q38, ⟨base, rfl⟩, H39, hm⟩
      unfold scutagelaw07_wakes.j1 at hm
      have hq_ := Option.some.inj hm
      subst hq_
      refine st_ret1 rfl rfl (Nat.le_of_ble_eq_true rfl) rfl ?_
      exact ⟨rfl, H39⟩

set_option maxHeartbeats 2000000 in
theorem scutagelaw07_StorePlays_ok {w0 w : World} {Γ : List (World → Prop)} (l_ : List scutagelaw07_Act) (A1 : Option Addr) (n6 c2 : Nat) (hn5 : n6 = l_.length) (hc3 : l_.length ≤ c2) (ads7 ads8 : Nat → Option Addr × Nat) (hv4 : ∀ u, Hp w0 Γ u → SlRN (fun j => KN31 (ads7 j) (ads8 j)) 8 A1 l_ u) (hin9 : ∀ j x, l_[j]? = some x → x.Accounts.length ≤ (ads7 j).2 ∧ ∀ u, Hp w0 Γ u → SlR K3 (ads7 j).1 x.Accounts u) (hin10 : ∀ j x, l_[j]? = some x → x.Amounts.length ≤ (ads8 j).2 ∧ ∀ u, Hp w0 Γ u → SlR K3 (ads8 j).1 x.Amounts u) (r0_ : Bool) (H : Hp w0 (Γ) w) (hm : scutagelaw07_StorePlays l_ = some r0_) : Calls Try.prog 3 #[.slice A1 n6 c2] w (fun e w => e = .returned (.bool r0_) ∧ Hp w0 (Γ) w) := by
  subst hn5
  unfold scutagelaw07_StorePlays at hm
  refine st_enter Try.func3 rfl Try.ntmps3 (Nat.le_of_ble_eq_true rfl) ?_
  refine st_seq ?_
  refine st_region ?_
  refine r_pure (.bool false) rfl ?_
  refine r_seq ?_
  refine st_seq ?_
  refine st_region ?_
  obtain ⟨y11, hy12, hm⟩ := bind_some hm
  refine r_callf Try.call4 (store_New_ok  y11 H hy12) ?_
  rintro e14 wd13 ⟨b17, A18, n19, c20, av21, rfl, H16⟩
  obtain rfl := (H16.g1).leneq
  refine ⟨_, rfl, ?_⟩
  refine r_build [.slice none 0 0] FL28 rfl ?_
  refine r_box [.slice none 0 0] H16 rfl ?_
  intro b22 wd24 H23
  refine r_pure (.pointer (some ⟨b17, 0, none⟩)) rfl ?_
  refine r_pure (.pointer (some ⟨b22, 0, none⟩)) rfl ?_
  refine r_seq ?_
  refine st_seq ?_
  refine st_seq ?_
  refine st_region ?_
  refine r_pure (.pointer (some ⟨b17, 0, none⟩)) rfl ?_
  refine r_eqn Try.underlying23 rfl rfl ?_
  refine r_seq ?_
  refine st_condf rfl rfl ?_
  refine st_skip ?_
  refine n_sq ?_
  refine st_seq ?_
  refine st_seq ?_
  refine st_region ?_
  refine r_pure (.int .i64 0) rfl ?_
  refine r_seq ?_
  refine st_block ?_
  have H43 := H23.add (A := Ins NK37 ([] : List api_Journal) (.tuple #[])) (Ins.nil _)
  have H44 := H43.add (A := RwN NK37 (.slice none 0 0) ([] : List api_Journal) (.tuple #[])) RwN.nil
  obtain ⟨tl53, hl54, hm52⟩ := bind_some hm
  refine st_loopF (scutagelaw07_StorePlays.l1 l_) (fun s ρ w => ∃ xs41 : List api_Journal, ∃ xs48 : List api_Journal, ∃ v50 : Int, ∃ A38 : Option Addr, ∃ n39 : Nat, ∃ c40 : Nat, ∃ av42 : Value, ∃ A45 : Option Addr, ∃ n46 : Nat, ∃ c47 : Nat, ∃ av49 : Value, (xs41, xs48, v50) = s ∧ (∃ base, ρ = updl base [(0, .slice A1 l_.length c2), (3, .pointer (some ⟨b17, 0, none⟩)), (4, .pointer (some ⟨b22, 0, none⟩)), (5, .int .i64 v50)]) ∧ Hp w0 (RwN NK37 (.slice A38 n39 c40) xs41 av42 :: Ins NK37 xs41 av42 :: Bx b17 52 [.slice A38 n39 c40] :: RwN NK37 (.slice A45 n46 c47) xs48 av49 :: Ins NK37 xs48 av49 :: Bx b22 28 [.slice A45 n46 c47] :: Γ) w) hl54 (fun _ => rfl) ⟨y11.f_l, ([] : List api_Journal), 0, A18, y11.f_l.length, c20, av21, none, 0, 0, .tuple #[], rfl, upk (ac rfl (ac rfl (ac rfl (ac rfl an)))), H44.u2.u2.u2.u3.u5.u5⟩ ?_
  rintro fuel60 IH62 s ρ w ⟨xs41, xs48, v50, A38, n39, c40, av42, A45, n46, c47, av49, rfl, ⟨base, rfl⟩, H51⟩ hm
  obtain rfl := (H51.g0).leneq
  obtain rfl := (H51.g3).leneq
  rw [scutagelaw07_StorePlays.l1] at hm
  refine st_seq ?_
  refine st_cut (fun ρ w => ∃ q63 : Bool, (∃ base, ρ = updl base [(0, .slice A1 l_.length c2), (3, .pointer (some ⟨b17, 0, none⟩)), (4, .pointer (some ⟨b22, 0, none⟩)), (5, .int .i64 v50), (33, .bool q63)]) ∧ Hp w0 (RwN NK37 (.slice A38 xs41.length c40) xs41 av42 :: Ins NK37 xs41 av42 :: Bx b17 52 [.slice A38 xs41.length c40] :: RwN NK37 (.slice A45 xs48.length c47) xs48 av49 :: Ins NK37 xs48 av49 :: Bx b22 28 [.slice A45 xs48.length c47] :: Γ) w ∧ scutagelaw07_StorePlays.j1 v50 l_ xs48 xs41 (scutagelaw07_StorePlays.l1 l_ fuel60) q63 = some tl53) ?_ ?_
  · refine st_region ?_
    refine r_pure (.int .i64 v50) rfl ?_
    refine r_pure (.slice A1 l_.length c2) rfl ?_
    refine r_len Try.underlying22 rfl ?_
    refine r_pure (.bool (decide (v50 < (l_.length : Int)))) rfl ?_
    refine r_pure (.bool (decide (v50 < (l_.length : Int)))) rfl ?_
    rcases ite_some hm with ⟨hb722, hm⟩ | ⟨hb722, hm⟩
    · refine r_pure (.int .i64 v50) rfl ?_ (wn_t rfl rfl (by decide) rfl hb722)
      refine r_pure (.bool (decide (v50 < 16))) rfl ?_ (wn_t rfl rfl (by decide) rfl hb722)
      refine r_pick_t (.bool (decide (v50 < 16))) hb722 rfl rfl ?_
      refine r_nil ?_
      refine n_cut ⟨decide (v50 < 16), upk (ac rfl (ac rfl (ac rfl (ac rfl (ac rfl an))))), H51.u5.u5.u5.u5.u5.u5, hm⟩
    · refine r_not (wn_f rfl rfl (by decide) rfl hb722) ?_
      refine r_not (wn_f rfl rfl (by decide) rfl hb722) ?_
      refine r_pick_f (.bool false) hb722 rfl rfl ?_
      refine r_nil ?_
      refine n_cut ⟨false, upk (ac rfl (ac rfl (ac rfl (ac rfl (ac rfl an))))), H51.u5.u5.u5.u5.u5.u5, hm⟩
  · rintro ρ w ⟨q63, ⟨base, rfl⟩, H64, hm⟩
    unfold scutagelaw07_StorePlays.j1 at hm
    rcases ite_some hm with ⟨hb65, hm⟩ | ⟨hb65, hm⟩
    · refine st_condt hb65 rfl ?_
      refine st_skip ?_
      refine n_sq ?_
      refine st_seq ?_
      refine st_block ?_
      refine st_seq ?_
      refine st_region ?_
      refine r_pure (.slice A1 l_.length c2) rfl ?_
      refine r_pure (.int .i64 v50) rfl ?_
      obtain ⟨⟨h066, h167⟩, hm⟩ := gd_some hm
      have hj68 := rd_get h066 h167
      have hA69 := (hv4 _ H64.d.d.d.d.d.d).adO hj68
      refine r_ix IX22 rfl rfl hA69 h066 h167 ?_
      refine r_ldA [.int .i64 ((rd l_ v50).Entity), .int .i64 ((rd l_ v50).Period), .int .i64 ((rd l_ v50).Kind), .int .i64 ((rd l_ v50).Of), .slice ((ads7 (Int.toNat v50)).1) (((rd l_ v50).Accounts).length) ((ads7 (Int.toNat v50)).2), .slice ((ads8 (Int.toNat v50)).1) (((rd l_ v50).Amounts).length) ((ads8 (Int.toNat v50)).2), .int .i64 ((rd l_ v50).At), .int .i64 ((rd l_ v50).What)] LD31 rfl rfl ((hv4 _ H64.d.d.d.d.d.d).csA hA69 hj68) ?_
      refine r_alloc [.int .i64 0, .int .i64 0, .int .i64 0, .int .i64 0, .slice none 0 0, .slice none 0 0, .int .i64 0, .int .i64 0] Try.zeroValue31 H64 rfl ?_
      intro b70 wd72 H71
      refine r_stA [.int .i64 ((rd l_ v50).Entity), .int .i64 ((rd l_ v50).Period), .int .i64 ((rd l_ v50).Kind), .int .i64 ((rd l_ v50).Of), .slice ((ads7 (Int.toNat v50)).1) (((rd l_ v50).Accounts).length) ((ads7 (Int.toNat v50)).2), .slice ((ads8 (Int.toNat v50)).1) (((rd l_ v50).Amounts).length) ((ads8 (Int.toNat v50)).2), .int .i64 ((rd l_ v50).At), .int .i64 ((rd l_ v50).What)] LD31 rfl rfl rfl rfl H71 (Nat.le_of_ble_eq_true rfl) rfl ?_
      intro wd74 H73
      refine r_seq ?_
      refine st_seq ?_
      refine st_region ?_
      refine r_buildSliceF (K := K9) [(⟨#[97]⟩ : ByteArray), (⟨#[98]⟩ : ByteArray), (⟨#[]⟩ : ByteArray)] EL32 rfl rfl rfl (by decide) (by decide) ⟨rfl, rfl, ⟨rfl, rfl, ⟨rfl, rfl, trivial⟩⟩⟩ H73 ?_
      intro b75 wd77 H76
      refine r_fa FA31_0 ⟨b70, 0, none⟩ rfl rfl ?_
      refine r_ld1 (.int .i64 ((rd l_ v50).Entity)) LD3 rfl ((H76.g1).cell _ rfl) ?_
      obtain ⟨y78, hy79, hm⟩ := bind_some hm
      refine r_callf Try.call5 (scutagekeep_Within_ok ((rd l_ v50).Entity) 13 y78 H76 hy79) ?_
      rintro e81 wd80 ⟨rfl, H83⟩
      refine ⟨_, rfl, ?_⟩
      refine r_rem (by decide) rfl rfl ?_
      obtain ⟨⟨h084, h185⟩, hm⟩ := gd_some hm
      have hj86 := rd_get h084 h185
      refine r_ix IX32 rfl rfl rfl h084 (by have h1_ := (H83.g0).leneq; have h2_ := h185; rw [← h1_] at h2_; exact h2_) ?_
      refine r_ld1 (.string (rd [(⟨#[97]⟩ : ByteArray), (⟨#[98]⟩ : ByteArray), (⟨#[]⟩ : ByteArray)] (Int.tmod y78 3))) LD9 rfl ((H83.g0.rd).c0A rfl hj86 _ rfl) ?_
      refine r_pure (.string (rd [(⟨#[97]⟩ : ByteArray), (⟨#[98]⟩ : ByteArray), (⟨#[]⟩ : ByteArray)] (Int.tmod y78 3))) rfl ?_
      refine r_seq ?_
      refine st_seq ?_
      refine st_region ?_
      refine r_fa FA31_1 ⟨b70, 1, none⟩ rfl rfl ?_
      refine r_ld1 (.int .i64 ((rd l_ v50).Period)) LD3 rfl ((H83.g1).cell _ rfl) ?_
      obtain ⟨y87, hy88, hm⟩ := bind_some hm
      refine r_callf Try.call5 (scutagekeep_Within_ok ((rd l_ v50).Period) 5 y87 H83 hy88) ?_
      rintro e90 wd89 ⟨rfl, H92⟩
      refine ⟨_, rfl, ?_⟩
      refine r_pure (.int .i64 y87) rfl ?_
      refine r_seq ?_
      refine st_cut (fun ρ w => ∃ v93 : Int, (∃ base, ρ = updl base [(0, .slice A1 l_.length c2), (3, .pointer (some ⟨b17, 0, none⟩)), (4, .pointer (some ⟨b22, 0, none⟩)), (5, .int .i64 v50), (6, .pointer (some ⟨b70, 0, none⟩)), (7, .string (rd [(⟨#[97]⟩ : ByteArray), (⟨#[98]⟩ : ByteArray), (⟨#[]⟩ : ByteArray)] (Int.tmod y78 3))), (8, .int .i64 v93)]) ∧ Hp w0 (RwN NK37 (.slice A38 xs41.length c40) xs41 av42 :: Ins NK37 xs41 av42 :: Bx b17 52 [.slice A38 xs41.length c40] :: RwN NK37 (.slice A45 xs48.length c47) xs48 av49 :: Ins NK37 xs48 av49 :: Bx b22 28 [.slice A45 xs48.length c47] :: Bx b70 31 [.int .i64 ((rd l_ v50).Entity), .int .i64 ((rd l_ v50).Period), .int .i64 ((rd l_ v50).Kind), .int .i64 ((rd l_ v50).Of), .slice ((ads7 (Int.toNat v50)).1) (((rd l_ v50).Accounts).length) ((ads7 (Int.toNat v50)).2), .slice ((ads8 (Int.toNat v50)).1) (((rd l_ v50).Amounts).length) ((ads8 (Int.toNat v50)).2), .int .i64 ((rd l_ v50).At), .int .i64 ((rd l_ v50).What)] :: Γ) w ∧ scutagelaw07_StorePlays.j2 l_ v50 xs48 xs41 (scutagelaw07_StorePlays.l1 l_ fuel60) y78 v93 = some tl53) ?_ ?_
      · refine st_seq ?_
        refine st_region ?_
        refine r_fa FA31_1 ⟨b70, 1, none⟩ rfl rfl ?_
        refine r_ld1 (.int .i64 ((rd l_ v50).Period)) LD3 rfl ((H92.g1).cell _ rfl) ?_
        refine r_rem (by decide) rfl rfl ?_
        refine r_pure (.bool (Int.tmod ((rd l_ v50).Period) 41 == 40)) rfl ?_
        refine r_seq ?_
        rcases ite_some hm with ⟨hb540, hm⟩ | ⟨hb540, hm⟩
        · refine st_condt hb540 rfl ?_
          refine st_region ?_
          refine r_fa FA31_1 ⟨b70, 1, none⟩ rfl rfl ?_
          refine r_ld1 (.int .i64 ((rd l_ v50).Period)) LD3 rfl ((H92.g1).cell _ rfl) ?_
          refine r_pure (.int .i64 ((rd l_ v50).Period)) rfl ?_
          refine r_nil ?_
          refine n_cut ⟨(rd l_ v50).Period, upk (ac rfl (ac rfl (ac rfl (ac rfl (ac rfl (ac rfl (ac rfl an))))))), H92.d.u6.u6.u6.u6.u6.u6, hm⟩
        · refine st_condf hb540 rfl ?_
          refine st_skip ?_
          refine n_cut ⟨y87, upk (ac rfl (ac rfl (ac rfl (ac rfl (ac rfl (ac rfl (ac rfl an))))))), H92.d.u6.u6.u6.u6.u6.u6, hm⟩
      · rintro ρ w ⟨v93, ⟨base, rfl⟩, H94, hm⟩
        unfold scutagelaw07_StorePlays.j2 at hm
        refine st_seq ?_
        refine st_region ?_
        refine r_fa FA31_4 ⟨b70, 4, none⟩ rfl rfl ?_
        refine r_ld1 (.slice ((ads7 (Int.toNat v50)).1) (((rd l_ v50).Accounts).length) ((ads7 (Int.toNat v50)).2)) LD29 rfl ((H94.g6).cell _ rfl) ?_
        refine r_fa FA31_5 ⟨b70, 5, none⟩ rfl rfl ?_
        refine r_ld1 (.slice ((ads8 (Int.toNat v50)).1) (((rd l_ v50).Amounts).length) ((ads8 (Int.toNat v50)).2)) LD29 rfl ((H94.g6).cell _ rfl) ?_
        refine r_fa FA31_6 ⟨b70, 6, none⟩ rfl rfl ?_
        refine r_ld1 (.int .i64 ((rd l_ v50).At)) LD3 rfl ((H94.g6).cell _ rfl) ?_
        refine r_fa FA31_7 ⟨b70, 7, none⟩ rfl rfl ?_
        refine r_ld1 (.int .i64 ((rd l_ v50).What)) LD3 rfl ((H94.g6).cell _ rfl) ?_
        refine r_fa FA31_7 ⟨b70, 7, none⟩ rfl rfl ?_
        refine r_ld1 (.int .i64 ((rd l_ v50).What)) LD3 rfl ((H94.g6).cell _ rfl) ?_
        refine r_rem (by decide) rfl rfl ?_
        refine r_pure (.bool (Int.tmod ((rd l_ v50).What) 19 == 18)) rfl ?_
        obtain ⟨y95, hy96, hm⟩ := bind_some hm
        refine r_callf Try.call6 (scutagelaw06_Some_ok ((rd l_ v50).Accounts) ((ads7 (Int.toNat v50)).1) (((rd l_ v50).Accounts).length) ((ads7 (Int.toNat v50)).2) rfl (hin9 _ _ hj68).1 (fun _ H => ((hin9 _ _ hj68).2 _ H.d.d.d.d.d.d.d)) ((rd l_ v50).Amounts) ((ads8 (Int.toNat v50)).1) (((rd l_ v50).Amounts).length) ((ads8 (Int.toNat v50)).2) rfl (hin10 _ _ hj68).1 (fun _ H => ((hin10 _ _ hj68).2 _ H.d.d.d.d.d.d.d)) ((rd l_ v50).At) ((rd l_ v50).What) (Int.tmod ((rd l_ v50).What) 19 == 18) y95 H94 hy96) ?_
        rintro e98 wd97 ⟨A101, n102, c103, rfl, H100⟩
        obtain rfl := (H100.g0).leneq
        refine ⟨_, rfl, ?_⟩
        refine r_pure (.slice A101 y95.length c103) rfl ?_
        refine r_seq ?_
        refine st_seq ?_
        refine st_region ?_
        refine r_pure (.int .i64 1) rfl ?_
        refine r_pure (.int .i64 0) rfl ?_
        refine r_seq ?_
        refine st_cut (fun ρ w => ∃ A106 : Option Addr, ∃ n107 : Nat, ∃ c108 : Nat, ∃ s104 : ByteArray, ∃ v105 : Int, ∃ xs109 : List api_Line, ∃ v110 : Int, ∃ v111 : Int, (∃ base, ρ = updl base [(0, .slice A1 l_.length c2), (3, .pointer (some ⟨b17, 0, none⟩)), (4, .pointer (some ⟨b22, 0, none⟩)), (5, .int .i64 v50), (7, .string s104), (8, .int .i64 v105), (9, .slice A106 n107 c108), (10, .int .i64 v110), (11, .int .i64 v111)]) ∧ Hp w0 (RwN NK37 (.slice A38 xs41.length c40) xs41 av42 :: Ins NK37 xs41 av42 :: Bx b17 52 [.slice A38 xs41.length c40] :: RwN NK37 (.slice A45 xs48.length c47) xs48 av49 :: Ins NK37 xs48 av49 :: Bx b22 28 [.slice A45 xs48.length c47] :: Row K43 (.slice A106 n107 c108) xs109 :: Γ) w ∧ scutagelaw07_StorePlays.j3 v50 xs41 xs48 (scutagelaw07_StorePlays.l1 l_ fuel60) s104 v105 xs109 v110 v111 = some tl53) ?_ ?_
        · refine st_seq ?_
          refine st_region ?_
          refine r_fa FA31_2 ⟨b70, 2, none⟩ rfl rfl ?_
          refine r_ld1 (.int .i64 ((rd l_ v50).Kind)) LD3 rfl ((H100.g7).cell _ rfl) ?_
          obtain ⟨y169, hy170, hm⟩ := bind_some hm
          refine r_callf Try.call5 (scutagekeep_Within_ok ((rd l_ v50).Kind) 6 y169 H100 hy170) ?_
          rintro e172 wd171 ⟨rfl, H174⟩
          refine ⟨_, rfl, ?_⟩
          refine r_seq ?_
          refine st_block ?_
          refine st_seq ?_
          refine st_region ?_
          refine r_pure (.bool (y169 == 0)) rfl ?_
          refine r_pure (.bool (y169 == 0)) rfl ?_
          refine r_seq ?_
          rcases ite_some hm with ⟨hb175, hm⟩ | ⟨hb175, hm⟩
          · refine st_condt hb175 rfl ?_
            refine st_seq ?_
            obtain ⟨y177, hy178, hm⟩ := bind_some hm
            refine Flow.run' RA3_16 RW3_16 [(fun η176 v => v.1 = .pointer (some ⟨b70, 3, none⟩)), (fun η176 v => v.1 = .int .i64 ((rd l_ v50).Of)), (fun η176 v => v.1 = .pointer (some ⟨b22, 0, none⟩)), (fun η176 v => v.1 = .pointer (some ⟨b22, 0, none⟩)), (fun η176 v => v.1 = .pointer (some ⟨b22, 0, none⟩)), (fun η176 v => v.1 = .slice A45 xs48.length c47), (fun η176 v => v.1 = .int .i64 (xs48.length : Int)), (fun η176 v => v.1 = .int .i64 (w64 ((xs48.length : Int) + 2))), (fun η176 v => v.1 = .int .i64 y177), (fun η176 v => v.1 = .int .i64 2), (fun η176 v => v.1 = .int .i64 y177)] [] rfl (by kernel_rfl) (by kernel_rfl) H174 ⟨?_, ?_, ?_, ?_, ?_, ?_, ?_, ?_, ?_, ?_, ?_, trivial⟩ ?_
            · intro η176 wd187 Δ188 hE183 hR184 hA185 H186
              refine sp_op [(6, .pointer (some ⟨b70, 0, none⟩))] (ac rfl an) ?_
              refine r_fa FA31_3 ⟨b70, 3, none⟩ rfl rfl ?_
              exact r_nil (n_lp ⟨_, rfl, undef, rfl, H186⟩)
            · intro η176 wd193 Δ194 hE189 hR190 hA191 H192
              have H192 : Hp w0 ((Δ194 ++ (Row K43 (.slice A101 y95.length c103) y95 :: RwN NK37 (.slice A38 xs41.length c40) xs41 av42 :: Ins NK37 xs41 av42 :: Bx b17 52 [.slice A38 xs41.length c40] :: RwN NK37 (.slice A45 xs48.length c47) xs48 av49 :: Ins NK37 xs48 av49 :: Bx b22 28 [.slice A45 xs48.length c47] :: Bx b70 31 [.int .i64 ((rd l_ v50).Entity), .int .i64 ((rd l_ v50).Period), .int .i64 ((rd l_ v50).Kind), .int .i64 ((rd l_ v50).Of), .slice ((ads7 (Int.toNat v50)).1) (((rd l_ v50).Accounts).length) ((ads7 (Int.toNat v50)).2), .slice ((ads8 (Int.toNat v50)).1) (((rd l_ v50).Amounts).length) ((ads8 (Int.toNat v50)).2), .int .i64 ((rd l_ v50).At), .int .i64 ((rd l_ v50).What)] :: Γ))) wd193 := H192
              refine sp_op [(74, .pointer (some ⟨b70, 3, none⟩))] (ac (hE189 0 (by decide)) an) ?_
              refine r_ld1 (.int .i64 ((rd l_ v50).Of)) LD3 rfl (((H192).tl.g7).cell _ rfl) ?_
              exact r_nil (n_lp ⟨_, rfl, undef, rfl, H192⟩)
            · intro η176 wd199 Δ200 hE195 hR196 hA197 H198
              refine sp_op [(4, .pointer (some ⟨b22, 0, none⟩))] (ac rfl an) ?_
              refine r_pure (.pointer (some ⟨b22, 0, none⟩)) rfl ?_
              exact r_nil (n_lp ⟨_, rfl, undef, rfl, H198⟩)
            · intro η176 wd205 Δ206 hE201 hR202 hA203 H204
              refine sp_op [(76, .pointer (some ⟨b22, 0, none⟩))] (ac (hE201 2 (by decide)) an) ?_
              refine r_pure (.pointer (some ⟨b22, 0, none⟩)) rfl ?_
              exact r_nil (n_lp ⟨_, rfl, undef, rfl, H204⟩)
            · intro η176 wd211 Δ212 hE207 hR208 hA209 H210
              refine sp_op [(77, .pointer (some ⟨b22, 0, none⟩))] (ac (hE207 3 (by decide)) an) ?_
              refine r_fa FA28_0 ⟨b22, 0, none⟩ rfl rfl ?_
              exact r_nil (n_lp ⟨_, rfl, undef, rfl, H210⟩)
            · intro η176 wd217 Δ218 hE213 hR214 hA215 H216
              have H216 : Hp w0 ((Δ218 ++ (Row K43 (.slice A101 y95.length c103) y95 :: RwN NK37 (.slice A38 xs41.length c40) xs41 av42 :: Ins NK37 xs41 av42 :: Bx b17 52 [.slice A38 xs41.length c40] :: RwN NK37 (.slice A45 xs48.length c47) xs48 av49 :: Ins NK37 xs48 av49 :: Bx b22 28 [.slice A45 xs48.length c47] :: Bx b70 31 [.int .i64 ((rd l_ v50).Entity), .int .i64 ((rd l_ v50).Period), .int .i64 ((rd l_ v50).Kind), .int .i64 ((rd l_ v50).Of), .slice ((ads7 (Int.toNat v50)).1) (((rd l_ v50).Accounts).length) ((ads7 (Int.toNat v50)).2), .slice ((ads8 (Int.toNat v50)).1) (((rd l_ v50).Amounts).length) ((ads8 (Int.toNat v50)).2), .int .i64 ((rd l_ v50).At), .int .i64 ((rd l_ v50).What)] :: Γ))) wd217 := H216
              refine sp_op [(78, .pointer (some ⟨b22, 0, none⟩))] (ac (hE213 4 (by decide)) an) ?_
              refine r_ld1 (.slice A45 xs48.length c47) LD26 rfl (((H216).tl.g6).cell _ rfl) ?_
              exact r_nil (n_lp ⟨_, rfl, undef, rfl, H216⟩)
            · intro η176 wd223 Δ224 hE219 hR220 hA221 H222
              refine sp_op [(79, .slice A45 xs48.length c47)] (ac (hE219 5 (by decide)) an) ?_
              refine r_len Try.underlying26 rfl ?_
              exact r_nil (n_lp ⟨_, rfl, undef, rfl, H222⟩)
            · intro η176 wd229 Δ230 hE225 hR226 hA227 H228
              refine sp_op [(80, .int .i64 (xs48.length : Int))] (ac (hE225 6 (by decide)) an) ?_
              refine r_pure (.int .i64 (w64 ((xs48.length : Int) + 2))) rfl ?_
              exact r_nil (n_lp ⟨_, rfl, undef, rfl, H228⟩)
            · intro η176 wd235 Δ236 hE231 hR232 hA233 H234
              have H234 : Hp w0 ((Δ236 ++ (Row K43 (.slice A101 y95.length c103) y95 :: RwN NK37 (.slice A38 xs41.length c40) xs41 av42 :: Ins NK37 xs41 av42 :: Bx b17 52 [.slice A38 xs41.length c40] :: RwN NK37 (.slice A45 xs48.length c47) xs48 av49 :: Ins NK37 xs48 av49 :: Bx b22 28 [.slice A45 xs48.length c47] :: Bx b70 31 [.int .i64 ((rd l_ v50).Entity), .int .i64 ((rd l_ v50).Period), .int .i64 ((rd l_ v50).Kind), .int .i64 ((rd l_ v50).Of), .slice ((ads7 (Int.toNat v50)).1) (((rd l_ v50).Accounts).length) ((ads7 (Int.toNat v50)).2), .slice ((ads8 (Int.toNat v50)).1) (((rd l_ v50).Amounts).length) ((ads8 (Int.toNat v50)).2), .int .i64 ((rd l_ v50).At), .int .i64 ((rd l_ v50).What)] :: Γ))) wd235 := H234
              refine sp_op [(75, .int .i64 ((rd l_ v50).Of)), (81, .int .i64 (w64 ((xs48.length : Int) + 2)))] (ac (hE231 1 (by decide)) (ac (hE231 7 (by decide)) an)) ?_
              refine r_callf Try.call5 (scutagekeep_Within_ok ((rd l_ v50).Of) (w64 ((xs48.length : Int) + 2)) y177 H234 hy178) ?_
              rintro e240 wd239 ⟨rfl, H242⟩
              refine ⟨_, rfl, ?_⟩
              exact r_nil (n_lp ⟨_, rfl, undef, rfl, H242⟩)
            · intro η176 wd247 Δ248 hE243 hR244 hA245 H246
              refine sp_op [] an ?_
              refine r_pure (.int .i64 2) rfl ?_
              exact r_nil (n_lp ⟨_, rfl, undef, rfl, H246⟩)
            · intro η176 wd253 Δ254 hE249 hR250 hA251 H252
              refine sp_op [(82, .int .i64 y177)] (ac (hE249 8 (by decide)) an) ?_
              refine r_pure (.int .i64 y177) rfl ?_
              exact r_nil (n_lp ⟨_, rfl, undef, rfl, H252⟩)
            · intro η176 wd256 hV257 H255
              have H258 : Hp w0 (Row K43 (.slice A101 y95.length c103) y95 :: RwN NK37 (.slice A38 xs41.length c40) xs41 av42 :: Ins NK37 xs41 av42 :: Bx b17 52 [.slice A38 xs41.length c40] :: RwN NK37 (.slice A45 xs48.length c47) xs48 av49 :: Ins NK37 xs48 av49 :: Bx b22 28 [.slice A45 xs48.length c47] :: Bx b70 31 [.int .i64 ((rd l_ v50).Entity), .int .i64 ((rd l_ v50).Period), .int .i64 ((rd l_ v50).Kind), .int .i64 ((rd l_ v50).Of), .slice ((ads7 (Int.toNat v50)).1) (((rd l_ v50).Accounts).length) ((ads7 (Int.toNat v50)).2), .slice ((ads8 (Int.toNat v50)).1) (((rd l_ v50).Amounts).length) ((ads8 (Int.toNat v50)).2), .int .i64 ((rd l_ v50).At), .int .i64 ((rd l_ v50).What)] :: Γ) wd256 := H255
              refine n_frame [(0, .slice A1 l_.length c2), (3, .pointer (some ⟨b17, 0, none⟩)), (4, .pointer (some ⟨b22, 0, none⟩)), (5, .int .i64 v50), (6, .pointer (some ⟨b70, 0, none⟩)), (7, .string (rd [(⟨#[97]⟩ : ByteArray), (⟨#[98]⟩ : ByteArray), (⟨#[]⟩ : ByteArray)] (Int.tmod y78 3))), (8, .int .i64 v93), (9, .slice A101 y95.length c103), (10, .int .i64 2), (11, .int .i64 y177)] (ac rfl (ac rfl (ac rfl (ac rfl (ac rfl (ac rfl (ac rfl (ac rfl (ac (hV257 9 rfl) (ac (hV257 10 rfl) an)))))))))) ?_
              refine n_sq ?_
              refine st_cut (fun ρ w => ∃ q259 : Bool, (∃ base, ρ = updl base [(0, .slice A1 l_.length c2), (3, .pointer (some ⟨b17, 0, none⟩)), (4, .pointer (some ⟨b22, 0, none⟩)), (5, .int .i64 v50), (7, .string (rd [(⟨#[97]⟩ : ByteArray), (⟨#[98]⟩ : ByteArray), (⟨#[]⟩ : ByteArray)] (Int.tmod y78 3))), (8, .int .i64 v93), (9, .slice A101 y95.length c103), (10, .int .i64 2), (11, .int .i64 y177), (99, .bool q259)]) ∧ Hp w0 (RwN NK37 (.slice A38 xs41.length c40) xs41 av42 :: Ins NK37 xs41 av42 :: Bx b17 52 [.slice A38 xs41.length c40] :: RwN NK37 (.slice A45 xs48.length c47) xs48 av49 :: Ins NK37 xs48 av49 :: Bx b22 28 [.slice A45 xs48.length c47] :: Row K43 (.slice A101 y95.length c103) y95 :: Γ) w ∧ scutagelaw07_StorePlays.j6 y177 xs48 v50 xs41 (scutagelaw07_StorePlays.l1 l_ fuel60) y78 v93 y95 q259 = some tl53) ?_ ?_
              · refine st_region ?_
                refine r_pure (.int .i64 y177) rfl ?_
                refine r_pure (.bool (decide (y177 > 0))) rfl ?_
                refine r_pure (.bool (decide (y177 > 0))) rfl ?_
                rcases ite_some hm with ⟨hb484, hm⟩ | ⟨hb484, hm⟩
                · refine r_pure (.int .i64 y177) rfl ?_ (wn_t rfl rfl (by decide) rfl hb484)
                  refine r_pure (.pointer (some ⟨b22, 0, none⟩)) rfl ?_ (wn_t rfl rfl (by decide) rfl hb484)
                  refine r_pure (.pointer (some ⟨b22, 0, none⟩)) rfl ?_ (wn_t rfl rfl (by decide) rfl hb484)
                  refine r_fa FA28_0 ⟨b22, 0, none⟩ rfl rfl ?_ (wn_t rfl rfl (by decide) rfl hb484)
                  refine r_ld1 (.slice A45 xs48.length c47) LD26 rfl ((H258.g6).cell _ rfl) ?_ (wn_t rfl rfl (by decide) rfl hb484)
                  refine r_len Try.underlying26 rfl ?_ (wn_t rfl rfl (by decide) rfl hb484)
                  refine r_pure (.bool (decide (y177 ≤ (xs48.length : Int)))) rfl ?_ (wn_t rfl rfl (by decide) rfl hb484)
                  refine r_pick_t (.bool (decide (y177 ≤ (xs48.length : Int)))) hb484 rfl rfl ?_
                  refine r_pure (.bool (decide (y177 ≤ (xs48.length : Int)))) rfl ?_
                  rcases ite_some hm with ⟨hb485, hm⟩ | ⟨hb485, hm⟩
                  · refine r_fa FA31_3 ⟨b70, 3, none⟩ rfl rfl ?_ (wn_t rfl rfl (by decide) rfl hb485)
                    refine r_ld1 (.int .i64 ((rd l_ v50).Of)) LD3 rfl ((H258.g7).cell _ rfl) ?_ (wn_t rfl rfl (by decide) rfl hb485)
                    refine r_rem (by decide) rfl rfl ?_ (wn_t rfl rfl (by decide) rfl hb485)
                    refine r_pure (.bool (Int.tmod ((rd l_ v50).Of) 5 != 0)) rfl ?_ (wn_t rfl rfl (by decide) rfl hb485)
                    refine r_pick_t (.bool (Int.tmod ((rd l_ v50).Of) 5 != 0)) hb485 rfl rfl ?_
                    refine r_nil ?_
                    refine n_cut ⟨Int.tmod ((rd l_ v50).Of) 5 != 0, upk (ac rfl (ac rfl (ac rfl (ac rfl (ac rfl (ac rfl (ac rfl (ac rfl (ac rfl (ac rfl an)))))))))), H258.u7.d.u6.u6.u6.u6.u6.u6, hm⟩
                  · refine r_not (wn_f rfl rfl (by decide) rfl hb485) ?_
                    refine r_not (wn_f rfl rfl (by decide) rfl hb485) ?_
                    refine r_not (wn_f rfl rfl (by decide) rfl hb485) ?_
                    refine r_not (wn_f rfl rfl (by decide) rfl hb485) ?_
                    refine r_pick_f (.bool false) hb485 rfl rfl ?_
                    refine r_nil ?_
                    refine n_cut ⟨false, upk (ac rfl (ac rfl (ac rfl (ac rfl (ac rfl (ac rfl (ac rfl (ac rfl (ac rfl (ac rfl an)))))))))), H258.u7.d.u6.u6.u6.u6.u6.u6, hm⟩
                · refine r_not (wn_f rfl rfl (by decide) rfl hb484) ?_
                  refine r_not (wn_f rfl rfl (by decide) rfl hb484) ?_
                  refine r_not (wn_f rfl rfl (by decide) rfl hb484) ?_
                  refine r_not (wn_f rfl rfl (by decide) rfl hb484) ?_
                  refine r_not (wn_f rfl rfl (by decide) rfl hb484) ?_
                  refine r_not (wn_f rfl rfl (by decide) rfl hb484) ?_
                  refine r_not (wn_f rfl rfl (by decide) rfl hb484) ?_
                  refine r_pick_f (.bool false) hb484 rfl rfl ?_
                  refine r_pure (.bool false) rfl ?_
                  refine r_not (wn_f rfl rfl (by decide) rfl rfl) ?_
                  refine r_not (wn_f rfl rfl (by decide) rfl rfl) ?_
                  refine r_not (wn_f rfl rfl (by decide) rfl rfl) ?_
                  refine r_not (wn_f rfl rfl (by decide) rfl rfl) ?_
                  refine r_pick_f (.bool false) rfl rfl rfl ?_
                  refine r_nil ?_
                  refine n_cut ⟨false, upk (ac rfl (ac rfl (ac rfl (ac rfl (ac rfl (ac rfl (ac rfl (ac rfl (ac rfl (ac rfl an)))))))))), H258.u7.d.u6.u6.u6.u6.u6.u6, hm⟩
              · rintro ρ w ⟨q259, ⟨base, rfl⟩, H260, hm⟩
                unfold scutagelaw07_StorePlays.j6 at hm
                rcases ite_some hm with ⟨hb261, hm⟩ | ⟨hb261, hm⟩
                · refine st_condt hb261 rfl ?_
                  obtain ⟨⟨h0263, h1264⟩, hm⟩ := gd_some hm
                  have hj265 := rd_get h0263 h1264
                  obtain ⟨y267, hy268, hm⟩ := bind_some hm
                  refine Flow.run' RA3_18 RW3_18 ((fun η262 v => v.1 = .pointer (some ⟨b22, 0, none⟩)) :: (fun η262 v => v.1 = .pointer (some ⟨b22, 0, none⟩)) :: (fun η262 v => v.1 = .pointer (some ⟨b22, 0, none⟩)) :: (fun η262 v => v.1 = .slice A45 xs48.length c47) :: (fun η262 v => v.1 = .int .i64 y177) :: (fun η262 v => v.1 = .int .i64 (w64 (y177 - 1))) :: (fun η262 v => v.1 = .pointer (some ((oA A45).add (Int.toNat (w64 (y177 - 1)) * 6)))) :: (fun η262 v => v.1 = .pointer (some (((oA A45).add (Int.toNat (w64 (y177 - 1)) * 6)).add 1))) :: (fun η262 v => v.1 = .string ((rd xs48 (w64 (y177 - 1))).Entity)) :: (fun η262 v => v.1 = .pointer (some ⟨b22, 0, none⟩)) :: (fun η262 v => v.1 = .pointer (some ⟨b22, 0, none⟩)) :: (fun η262 v => v.1 = .pointer (some ⟨b22, 0, none⟩)) :: (fun η262 v => v.1 = .slice A45 xs48.length c47) :: (fun η262 v => v.1 = .int .i64 y177) :: (fun η262 v => v.1 = .int .i64 (w64 (y177 - 1))) :: (fun η262 v => v.1 = .pointer (some ((oA A45).add (Int.toNat (w64 (y177 - 1)) * 6)))) :: (fun η262 v => v.1 = .pointer (some (((oA A45).add (Int.toNat (w64 (y177 - 1)) * 6)).add 2))) :: (fun η262 v => v.1 = .int .i64 ((rd xs48 (w64 (y177 - 1))).Period)) :: (fun η262 v => v.1 = .pointer (some ⟨b22, 0, none⟩)) :: (fun η262 v => v.1 = .pointer (some ⟨b22, 0, none⟩)) :: (fun η262 v => v.1 = .pointer (some ⟨b22, 0, none⟩)) :: (fun η262 v => v.1 = .slice A45 xs48.length c47) :: (fun η262 v => v.1 = .int .i64 y177) :: (fun η262 v => v.1 = .int .i64 (w64 (y177 - 1))) :: (fun η262 v => v.1 = .pointer (some ((oA A45).add (Int.toNat (w64 (y177 - 1)) * 6)))) :: (fun η262 v => v.1 = .pointer (some (((oA A45).add (Int.toNat (w64 (y177 - 1)) * 6)).add 5))) :: (fun η262 v => v.1 = .slice (((adv av49) (Int.toNat (w64 (y177 - 1)))).1) (((rd xs48 (w64 (y177 - 1))).Lines).length) (((adv av49) (Int.toNat (w64 (y177 - 1)))).2)) :: (fun η262 v => v.1 = .slice (vA (v.1)) y267.length (vC (v.1))) :: (fun η262 v => v.1 = .string ((rd xs48 (w64 (y177 - 1))).Entity)) :: (fun η262 v => v.1 = .int .i64 ((rd xs48 (w64 (y177 - 1))).Period)) :: (fun η262 v => v.1 = .slice (vA ((η262 27).1)) y267.length (vC ((η262 27).1))) :: []) [⟨(some 27), none, fun η262 => Row K43 (.slice (vA ((η262 27).1)) y267.length (vC ((η262 27).1))) y267⟩] rfl (by kernel_rfl) (by kernel_rfl) H260 ⟨?_, ?_, ?_, ?_, ?_, ?_, ?_, ?_, ?_, ?_, ?_, ?_, ?_, ?_, ?_, ?_, ?_, ?_, ?_, ?_, ?_, ?_, ?_, ?_, ?_, ?_, ?_, ?_, ?_, ?_, ?_, trivial⟩ ?_
                  · intro η262 wd280 Δ281 hE276 hR277 hA278 H279
                    refine sp_op [(4, .pointer (some ⟨b22, 0, none⟩))] (ac rfl an) ?_
                    refine r_pure (.pointer (some ⟨b22, 0, none⟩)) rfl ?_
                    exact r_nil (n_lp ⟨_, rfl, undef, rfl, H279⟩)
                  · intro η262 wd286 Δ287 hE282 hR283 hA284 H285
                    refine sp_op [(100, .pointer (some ⟨b22, 0, none⟩))] (ac (hE282 0 (by decide)) an) ?_
                    refine r_pure (.pointer (some ⟨b22, 0, none⟩)) rfl ?_
                    exact r_nil (n_lp ⟨_, rfl, undef, rfl, H285⟩)
                  · intro η262 wd292 Δ293 hE288 hR289 hA290 H291
                    refine sp_op [(101, .pointer (some ⟨b22, 0, none⟩))] (ac (hE288 1 (by decide)) an) ?_
                    refine r_fa FA28_0 ⟨b22, 0, none⟩ rfl rfl ?_
                    exact r_nil (n_lp ⟨_, rfl, undef, rfl, H291⟩)
                  · intro η262 wd298 Δ299 hE294 hR295 hA296 H297
                    have H297 : Hp w0 ((Δ299 ++ (RwN NK37 (.slice A38 xs41.length c40) xs41 av42 :: Ins NK37 xs41 av42 :: Bx b17 52 [.slice A38 xs41.length c40] :: RwN NK37 (.slice A45 xs48.length c47) xs48 av49 :: Ins NK37 xs48 av49 :: Bx b22 28 [.slice A45 xs48.length c47] :: Row K43 (.slice A101 y95.length c103) y95 :: Γ))) wd298 := H297
                    refine sp_op [(102, .pointer (some ⟨b22, 0, none⟩))] (ac (hE294 2 (by decide)) an) ?_
                    refine r_ld1 (.slice A45 xs48.length c47) LD26 rfl (((H297).tl.g5).cell _ rfl) ?_
                    exact r_nil (n_lp ⟨_, rfl, undef, rfl, H297⟩)
                  · intro η262 wd304 Δ305 hE300 hR301 hA302 H303
                    refine sp_op [(11, .int .i64 y177)] (ac rfl an) ?_
                    refine r_pure (.int .i64 y177) rfl ?_
                    exact r_nil (n_lp ⟨_, rfl, undef, rfl, H303⟩)
                  · intro η262 wd310 Δ311 hE306 hR307 hA308 H309
                    refine sp_op [(104, .int .i64 y177)] (ac (hE306 4 (by decide)) an) ?_
                    refine r_pure (.int .i64 (w64 (y177 - 1))) rfl ?_
                    exact r_nil (n_lp ⟨_, rfl, undef, rfl, H309⟩)
                  · intro η262 wd316 Δ317 hE312 hR313 hA314 H315
                    have H315 : Hp w0 ((Δ317 ++ (RwN NK37 (.slice A38 xs41.length c40) xs41 av42 :: Ins NK37 xs41 av42 :: Bx b17 52 [.slice A38 xs41.length c40] :: RwN NK37 (.slice A45 xs48.length c47) xs48 av49 :: Ins NK37 xs48 av49 :: Bx b22 28 [.slice A45 xs48.length c47] :: Row K43 (.slice A101 y95.length c103) y95 :: Γ))) wd316 := H315
                    refine sp_op [(103, .slice A45 xs48.length c47), (105, .int .i64 (w64 (y177 - 1)))] (ac (hE312 3 (by decide)) (ac (hE312 5 (by decide)) an)) ?_
                    have hA321 := ((H315).tl.g3.rd).adO hj265
                    refine r_ix IX26 rfl rfl hA321 h0263 h1264 ?_
                    exact r_nil (n_lp ⟨_, rfl, undef, rfl, H315⟩)
                  · intro η262 wd326 Δ327 hE322 hR323 hA324 H325
                    refine sp_op [(106, .pointer (some ((oA A45).add (Int.toNat (w64 (y177 - 1)) * 6))))] (ac (hE322 6 (by decide)) an) ?_
                    refine r_fa FA37_1 (((oA A45).add (Int.toNat (w64 (y177 - 1)) * 6)).add 1) rfl rfl ?_
                    exact r_nil (n_lp ⟨_, rfl, undef, rfl, H325⟩)
                  · intro η262 wd332 Δ333 hE328 hR329 hA330 H331
                    have H331 : Hp w0 ((Δ333 ++ (RwN NK37 (.slice A38 xs41.length c40) xs41 av42 :: Ins NK37 xs41 av42 :: Bx b17 52 [.slice A38 xs41.length c40] :: RwN NK37 (.slice A45 xs48.length c47) xs48 av49 :: Ins NK37 xs48 av49 :: Bx b22 28 [.slice A45 xs48.length c47] :: Row K43 (.slice A101 y95.length c103) y95 :: Γ))) wd332 := H331
                    refine sp_op [(107, .pointer (some (((oA A45).add (Int.toNat (w64 (y177 - 1)) * 6)).add 1)))] (ac (hE328 7 (by decide)) an) ?_
                    have hA334 := ((H331).tl.g3.rd).adO hj265
                    refine r_ld1 (.string ((rd xs48 (w64 (y177 - 1))).Entity)) LD9 rfl (((H331).tl.g3.rd).cA hA334 hj265 1 _ rfl) ?_
                    exact r_nil (n_lp ⟨_, rfl, undef, rfl, H331⟩)
                  · intro η262 wd339 Δ340 hE335 hR336 hA337 H338
                    refine sp_op [(4, .pointer (some ⟨b22, 0, none⟩))] (ac rfl an) ?_
                    refine r_pure (.pointer (some ⟨b22, 0, none⟩)) rfl ?_
                    exact r_nil (n_lp ⟨_, rfl, undef, rfl, H338⟩)
                  · intro η262 wd345 Δ346 hE341 hR342 hA343 H344
                    refine sp_op [(109, .pointer (some ⟨b22, 0, none⟩))] (ac (hE341 9 (by decide)) an) ?_
                    refine r_pure (.pointer (some ⟨b22, 0, none⟩)) rfl ?_
                    exact r_nil (n_lp ⟨_, rfl, undef, rfl, H344⟩)
                  · intro η262 wd351 Δ352 hE347 hR348 hA349 H350
                    refine sp_op [(110, .pointer (some ⟨b22, 0, none⟩))] (ac (hE347 10 (by decide)) an) ?_
                    refine r_fa FA28_0 ⟨b22, 0, none⟩ rfl rfl ?_
                    exact r_nil (n_lp ⟨_, rfl, undef, rfl, H350⟩)
                  · intro η262 wd357 Δ358 hE353 hR354 hA355 H356
                    have H356 : Hp w0 ((Δ358 ++ (RwN NK37 (.slice A38 xs41.length c40) xs41 av42 :: Ins NK37 xs41 av42 :: Bx b17 52 [.slice A38 xs41.length c40] :: RwN NK37 (.slice A45 xs48.length c47) xs48 av49 :: Ins NK37 xs48 av49 :: Bx b22 28 [.slice A45 xs48.length c47] :: Row K43 (.slice A101 y95.length c103) y95 :: Γ))) wd357 := H356
                    refine sp_op [(111, .pointer (some ⟨b22, 0, none⟩))] (ac (hE353 11 (by decide)) an) ?_
                    refine r_ld1 (.slice A45 xs48.length c47) LD26 rfl (((H356).tl.g5).cell _ rfl) ?_
                    exact r_nil (n_lp ⟨_, rfl, undef, rfl, H356⟩)
                  · intro η262 wd363 Δ364 hE359 hR360 hA361 H362
                    refine sp_op [(11, .int .i64 y177)] (ac rfl an) ?_
                    refine r_pure (.int .i64 y177) rfl ?_
                    exact r_nil (n_lp ⟨_, rfl, undef, rfl, H362⟩)
                  · intro η262 wd369 Δ370 hE365 hR366 hA367 H368
                    refine sp_op [(113, .int .i64 y177)] (ac (hE365 13 (by decide)) an) ?_
                    refine r_pure (.int .i64 (w64 (y177 - 1))) rfl ?_
                    exact r_nil (n_lp ⟨_, rfl, undef, rfl, H368⟩)
                  · intro η262 wd375 Δ376 hE371 hR372 hA373 H374
                    have H374 : Hp w0 ((Δ376 ++ (RwN NK37 (.slice A38 xs41.length c40) xs41 av42 :: Ins NK37 xs41 av42 :: Bx b17 52 [.slice A38 xs41.length c40] :: RwN NK37 (.slice A45 xs48.length c47) xs48 av49 :: Ins NK37 xs48 av49 :: Bx b22 28 [.slice A45 xs48.length c47] :: Row K43 (.slice A101 y95.length c103) y95 :: Γ))) wd375 := H374
                    refine sp_op [(112, .slice A45 xs48.length c47), (114, .int .i64 (w64 (y177 - 1)))] (ac (hE371 12 (by decide)) (ac (hE371 14 (by decide)) an)) ?_
                    have hA377 := ((H374).tl.g3.rd).adO hj265
                    refine r_ix IX26 rfl rfl hA377 h0263 h1264 ?_
                    exact r_nil (n_lp ⟨_, rfl, undef, rfl, H374⟩)
                  · intro η262 wd382 Δ383 hE378 hR379 hA380 H381
                    refine sp_op [(115, .pointer (some ((oA A45).add (Int.toNat (w64 (y177 - 1)) * 6))))] (ac (hE378 15 (by decide)) an) ?_
                    refine r_fa FA37_2 (((oA A45).add (Int.toNat (w64 (y177 - 1)) * 6)).add 2) rfl rfl ?_
                    exact r_nil (n_lp ⟨_, rfl, undef, rfl, H381⟩)
                  · intro η262 wd388 Δ389 hE384 hR385 hA386 H387
                    have H387 : Hp w0 ((Δ389 ++ (RwN NK37 (.slice A38 xs41.length c40) xs41 av42 :: Ins NK37 xs41 av42 :: Bx b17 52 [.slice A38 xs41.length c40] :: RwN NK37 (.slice A45 xs48.length c47) xs48 av49 :: Ins NK37 xs48 av49 :: Bx b22 28 [.slice A45 xs48.length c47] :: Row K43 (.slice A101 y95.length c103) y95 :: Γ))) wd388 := H387
                    refine sp_op [(116, .pointer (some (((oA A45).add (Int.toNat (w64 (y177 - 1)) * 6)).add 2)))] (ac (hE384 16 (by decide)) an) ?_
                    have hA390 := ((H387).tl.g3.rd).adO hj265
                    refine r_ld1 (.int .i64 ((rd xs48 (w64 (y177 - 1))).Period)) LD3 rfl (((H387).tl.g3.rd).cA hA390 hj265 2 _ rfl) ?_
                    exact r_nil (n_lp ⟨_, rfl, undef, rfl, H387⟩)
                  · intro η262 wd395 Δ396 hE391 hR392 hA393 H394
                    refine sp_op [(4, .pointer (some ⟨b22, 0, none⟩))] (ac rfl an) ?_
                    refine r_pure (.pointer (some ⟨b22, 0, none⟩)) rfl ?_
                    exact r_nil (n_lp ⟨_, rfl, undef, rfl, H394⟩)
                  · intro η262 wd401 Δ402 hE397 hR398 hA399 H400
                    refine sp_op [(118, .pointer (some ⟨b22, 0, none⟩))] (ac (hE397 18 (by decide)) an) ?_
                    refine r_pure (.pointer (some ⟨b22, 0, none⟩)) rfl ?_
                    exact r_nil (n_lp ⟨_, rfl, undef, rfl, H400⟩)
                  · intro η262 wd407 Δ408 hE403 hR404 hA405 H406
                    refine sp_op [(119, .pointer (some ⟨b22, 0, none⟩))] (ac (hE403 19 (by decide)) an) ?_
                    refine r_fa FA28_0 ⟨b22, 0, none⟩ rfl rfl ?_
                    exact r_nil (n_lp ⟨_, rfl, undef, rfl, H406⟩)
                  · intro η262 wd413 Δ414 hE409 hR410 hA411 H412
                    have H412 : Hp w0 ((Δ414 ++ (RwN NK37 (.slice A38 xs41.length c40) xs41 av42 :: Ins NK37 xs41 av42 :: Bx b17 52 [.slice A38 xs41.length c40] :: RwN NK37 (.slice A45 xs48.length c47) xs48 av49 :: Ins NK37 xs48 av49 :: Bx b22 28 [.slice A45 xs48.length c47] :: Row K43 (.slice A101 y95.length c103) y95 :: Γ))) wd413 := H412
                    refine sp_op [(120, .pointer (some ⟨b22, 0, none⟩))] (ac (hE409 20 (by decide)) an) ?_
                    refine r_ld1 (.slice A45 xs48.length c47) LD26 rfl (((H412).tl.g5).cell _ rfl) ?_
                    exact r_nil (n_lp ⟨_, rfl, undef, rfl, H412⟩)
                  · intro η262 wd419 Δ420 hE415 hR416 hA417 H418
                    refine sp_op [(11, .int .i64 y177)] (ac rfl an) ?_
                    refine r_pure (.int .i64 y177) rfl ?_
                    exact r_nil (n_lp ⟨_, rfl, undef, rfl, H418⟩)
                  · intro η262 wd425 Δ426 hE421 hR422 hA423 H424
                    refine sp_op [(122, .int .i64 y177)] (ac (hE421 22 (by decide)) an) ?_
                    refine r_pure (.int .i64 (w64 (y177 - 1))) rfl ?_
                    exact r_nil (n_lp ⟨_, rfl, undef, rfl, H424⟩)
                  · intro η262 wd431 Δ432 hE427 hR428 hA429 H430
                    have H430 : Hp w0 ((Δ432 ++ (RwN NK37 (.slice A38 xs41.length c40) xs41 av42 :: Ins NK37 xs41 av42 :: Bx b17 52 [.slice A38 xs41.length c40] :: RwN NK37 (.slice A45 xs48.length c47) xs48 av49 :: Ins NK37 xs48 av49 :: Bx b22 28 [.slice A45 xs48.length c47] :: Row K43 (.slice A101 y95.length c103) y95 :: Γ))) wd431 := H430
                    refine sp_op [(121, .slice A45 xs48.length c47), (123, .int .i64 (w64 (y177 - 1)))] (ac (hE427 21 (by decide)) (ac (hE427 23 (by decide)) an)) ?_
                    have hA433 := ((H430).tl.g3.rd).adO hj265
                    refine r_ix IX26 rfl rfl hA433 h0263 h1264 ?_
                    exact r_nil (n_lp ⟨_, rfl, undef, rfl, H430⟩)
                  · intro η262 wd438 Δ439 hE434 hR435 hA436 H437
                    refine sp_op [(124, .pointer (some ((oA A45).add (Int.toNat (w64 (y177 - 1)) * 6))))] (ac (hE434 24 (by decide)) an) ?_
                    refine r_fa FA37_5 (((oA A45).add (Int.toNat (w64 (y177 - 1)) * 6)).add 5) rfl rfl ?_
                    exact r_nil (n_lp ⟨_, rfl, undef, rfl, H437⟩)
                  · intro η262 wd444 Δ445 hE440 hR441 hA442 H443
                    have H443 : Hp w0 ((Δ445 ++ (RwN NK37 (.slice A38 xs41.length c40) xs41 av42 :: Ins NK37 xs41 av42 :: Bx b17 52 [.slice A38 xs41.length c40] :: RwN NK37 (.slice A45 xs48.length c47) xs48 av49 :: Ins NK37 xs48 av49 :: Bx b22 28 [.slice A45 xs48.length c47] :: Row K43 (.slice A101 y95.length c103) y95 :: Γ))) wd444 := H443
                    refine sp_op [(125, .pointer (some (((oA A45).add (Int.toNat (w64 (y177 - 1)) * 6)).add 5)))] (ac (hE440 25 (by decide)) an) ?_
                    have hA446 := ((H443).tl.g3.rd).adO hj265
                    refine r_ld1 (.slice (((adv av49) (Int.toNat (w64 (y177 - 1)))).1) (((rd xs48 (w64 (y177 - 1))).Lines).length) (((adv av49) (Int.toNat (w64 (y177 - 1)))).2)) LD34 rfl (((H443).tl.g3.rd).cA hA446 hj265 5 _ rfl) ?_
                    exact r_nil (n_lp ⟨_, rfl, undef, rfl, H443⟩)
                  · intro η262 wd451 Δ452 hE447 hR448 hA449 H450
                    have H450 : Hp w0 ((Δ452 ++ (RwN NK37 (.slice A38 xs41.length c40) xs41 av42 :: Ins NK37 xs41 av42 :: Bx b17 52 [.slice A38 xs41.length c40] :: RwN NK37 (.slice A45 xs48.length c47) xs48 av49 :: Ins NK37 xs48 av49 :: Bx b22 28 [.slice A45 xs48.length c47] :: Row K43 (.slice A101 y95.length c103) y95 :: Γ))) wd451 := H450
                    refine sp_op [(126, .slice (((adv av49) (Int.toNat (w64 (y177 - 1)))).1) (((rd xs48 (w64 (y177 - 1))).Lines).length) (((adv av49) (Int.toNat (w64 (y177 - 1)))).2))] (ac (hE447 26 (by decide)) an) ?_
                    refine r_callf Try.call7 (scutageref01_Reverse_ok ((rd xs48 (w64 (y177 - 1))).Lines) (((adv av49) (Int.toNat (w64 (y177 - 1)))).1) (((rd xs48 (w64 (y177 - 1))).Lines).length) (((adv av49) (Int.toNat (w64 (y177 - 1)))).2) rfl (((H450)).tl.g4 _ _ hj265).1 (fun _ H => ((H).tl.g4 _ _ hj265).2) y267 H450 hy268) ?_
                    rintro e456 wd455 ⟨A459, n460, c461, rfl, H458⟩
                    obtain rfl := (H458.g0).leneq
                    refine ⟨_, rfl, ?_⟩
                    exact r_nil (n_lp ⟨_, rfl, (.tuple #[.slice A459 y267.length c461]), rfl, H458⟩)
                  · intro η262 wd466 Δ467 hE462 hR463 hA464 H465
                    refine sp_op [(108, .string ((rd xs48 (w64 (y177 - 1))).Entity))] (ac (hE462 8 (by decide)) an) ?_
                    refine r_pure (.string ((rd xs48 (w64 (y177 - 1))).Entity)) rfl ?_
                    exact r_nil (n_lp ⟨_, rfl, undef, rfl, H465⟩)
                  · intro η262 wd472 Δ473 hE468 hR469 hA470 H471
                    refine sp_op [(117, .int .i64 ((rd xs48 (w64 (y177 - 1))).Period))] (ac (hE468 17 (by decide)) an) ?_
                    refine r_pure (.int .i64 ((rd xs48 (w64 (y177 - 1))).Period)) rfl ?_
                    exact r_nil (n_lp ⟨_, rfl, undef, rfl, H471⟩)
                  · intro η262 wd478 Δ479 hE474 hR475 hA476 H477
                    refine sp_op [(127, .slice (vA ((η262 27).1)) y267.length (vC ((η262 27).1)))] (ac (hE474 27 (by decide)) an) ?_
                    refine r_pure (.slice (vA ((η262 27).1)) y267.length (vC ((η262 27).1))) rfl ?_
                    exact r_nil (n_lp ⟨_, rfl, undef, rfl, H477⟩)
                  · intro η262 wd481 hV482 H480
                    have H483 : Hp w0 (Row K43 (.slice (vA ((η262 27).1)) y267.length (vC ((η262 27).1))) y267 :: RwN NK37 (.slice A38 xs41.length c40) xs41 av42 :: Ins NK37 xs41 av42 :: Bx b17 52 [.slice A38 xs41.length c40] :: RwN NK37 (.slice A45 xs48.length c47) xs48 av49 :: Ins NK37 xs48 av49 :: Bx b22 28 [.slice A45 xs48.length c47] :: Γ) wd481 := H480.u7.d
                    refine n_frame [(0, .slice A1 l_.length c2), (3, .pointer (some ⟨b17, 0, none⟩)), (4, .pointer (some ⟨b22, 0, none⟩)), (5, .int .i64 v50), (7, .string ((rd xs48 (w64 (y177 - 1))).Entity)), (8, .int .i64 ((rd xs48 (w64 (y177 - 1))).Period)), (9, .slice (vA ((η262 27).1)) y267.length (vC ((η262 27).1))), (10, .int .i64 2), (11, .int .i64 y177)] (ac rfl (ac rfl (ac rfl (ac rfl (ac (hV482 28 rfl) (ac (hV482 29 rfl) (ac (hV482 30 rfl) (ac rfl (ac rfl an))))))))) ?_
                    refine n_bl ?_
                    refine n_cut ⟨(vA ((η262 27).1)), y267.length, (vC ((η262 27).1)), (rd xs48 (w64 (y177 - 1))).Entity, (rd xs48 (w64 (y177 - 1))).Period, y267, 2, y177, upk (ac rfl (ac rfl (ac rfl (ac rfl (ac rfl (ac rfl (ac rfl (ac rfl (ac rfl an))))))))), H483.u6.u6.u6.u6.u6.u6, hm⟩
                · refine st_condf hb261 rfl ?_
                  refine st_skip ?_
                  refine n_bl ?_
                  refine n_cut ⟨A101, y95.length, c103, (rd [(⟨#[97]⟩ : ByteArray), (⟨#[98]⟩ : ByteArray), (⟨#[]⟩ : ByteArray)] (Int.tmod y78 3)), v93, y95, 2, y177, upk (ac rfl (ac rfl (ac rfl (ac rfl (ac rfl (ac rfl (ac rfl (ac rfl (ac rfl an))))))))), H260.u6.u6.u6.u6.u6.u6.u6, hm⟩
          · refine st_condf hb175 rfl ?_
            refine st_seq ?_
            refine st_region ?_
            refine r_pure (.bool (y169 == 1)) rfl ?_
            refine r_pure (.bool (y169 == 1)) rfl ?_
            refine r_seq ?_
            rcases ite_some hm with ⟨hb486, hm⟩ | ⟨hb486, hm⟩
            · refine st_condt hb486 rfl ?_
              refine Flow.run' [[], [0], [0, 1], [], [3], [3, 4], [0, 1, 2], [0, 1, 2, 3, 4, 5, 6]] [(130, 0), (131, 1), (132, 2), (133, 3), (134, 4), (135, 5), (10, 6), (11, 7)] [(fun η487 v => v.1 = .pointer (some ⟨b70, 2, none⟩)), (fun η487 v => v.1 = .int .i64 ((rd l_ v50).Kind)), (fun η487 v => v.1 = .int .i64 (Int.tmod ((rd l_ v50).Kind) 7)), (fun η487 v => v.1 = .pointer (some ⟨b70, 3, none⟩)), (fun η487 v => v.1 = .int .i64 ((rd l_ v50).Of)), (fun η487 v => v.1 = .int .i64 (Int.tmod ((rd l_ v50).Of) 3)), (fun η487 v => v.1 = .int .i64 (Int.tmod ((rd l_ v50).Kind) 7)), (fun η487 v => v.1 = .int .i64 (Int.tmod ((rd l_ v50).Of) 3))] [] rfl (by kernel_rfl) (by kernel_rfl) H174 ⟨?_, ?_, ?_, ?_, ?_, ?_, ?_, ?_, trivial⟩ ?_
              · intro η487 wd492 Δ493 hE488 hR489 hA490 H491
                refine sp_op [(6, .pointer (some ⟨b70, 0, none⟩))] (ac rfl an) ?_
                refine r_fa FA31_2 ⟨b70, 2, none⟩ rfl rfl ?_
                exact r_nil (n_lp ⟨_, rfl, undef, rfl, H491⟩)
              · intro η487 wd498 Δ499 hE494 hR495 hA496 H497
                have H497 : Hp w0 ((Δ499 ++ (Row K43 (.slice A101 y95.length c103) y95 :: RwN NK37 (.slice A38 xs41.length c40) xs41 av42 :: Ins NK37 xs41 av42 :: Bx b17 52 [.slice A38 xs41.length c40] :: RwN NK37 (.slice A45 xs48.length c47) xs48 av49 :: Ins NK37 xs48 av49 :: Bx b22 28 [.slice A45 xs48.length c47] :: Bx b70 31 [.int .i64 ((rd l_ v50).Entity), .int .i64 ((rd l_ v50).Period), .int .i64 ((rd l_ v50).Kind), .int .i64 ((rd l_ v50).Of), .slice ((ads7 (Int.toNat v50)).1) (((rd l_ v50).Accounts).length) ((ads7 (Int.toNat v50)).2), .slice ((ads8 (Int.toNat v50)).1) (((rd l_ v50).Amounts).length) ((ads8 (Int.toNat v50)).2), .int .i64 ((rd l_ v50).At), .int .i64 ((rd l_ v50).What)] :: Γ))) wd498 := H497
                refine sp_op [(130, .pointer (some ⟨b70, 2, none⟩))] (ac (hE494 0 (by decide)) an) ?_
                refine r_ld1 (.int .i64 ((rd l_ v50).Kind)) LD3 rfl (((H497).tl.g7).cell _ rfl) ?_
                exact r_nil (n_lp ⟨_, rfl, undef, rfl, H497⟩)
              · intro η487 wd504 Δ505 hE500 hR501 hA502 H503
                refine sp_op [(131, .int .i64 ((rd l_ v50).Kind))] (ac (hE500 1 (by decide)) an) ?_
                refine r_rem (by decide) rfl rfl ?_
                exact r_nil (n_lp ⟨_, rfl, undef, rfl, H503⟩)
              · intro η487 wd510 Δ511 hE506 hR507 hA508 H509
                refine sp_op [(6, .pointer (some ⟨b70, 0, none⟩))] (ac rfl an) ?_
                refine r_fa FA31_3 ⟨b70, 3, none⟩ rfl rfl ?_
                exact r_nil (n_lp ⟨_, rfl, undef, rfl, H509⟩)
              · intro η487 wd516 Δ517 hE512 hR513 hA514 H515
                have H515 : Hp w0 ((Δ517 ++ (Row K43 (.slice A101 y95.length c103) y95 :: RwN NK37 (.slice A38 xs41.length c40) xs41 av42 :: Ins NK37 xs41 av42 :: Bx b17 52 [.slice A38 xs41.length c40] :: RwN NK37 (.slice A45 xs48.length c47) xs48 av49 :: Ins NK37 xs48 av49 :: Bx b22 28 [.slice A45 xs48.length c47] :: Bx b70 31 [.int .i64 ((rd l_ v50).Entity), .int .i64 ((rd l_ v50).Period), .int .i64 ((rd l_ v50).Kind), .int .i64 ((rd l_ v50).Of), .slice ((ads7 (Int.toNat v50)).1) (((rd l_ v50).Accounts).length) ((ads7 (Int.toNat v50)).2), .slice ((ads8 (Int.toNat v50)).1) (((rd l_ v50).Amounts).length) ((ads8 (Int.toNat v50)).2), .int .i64 ((rd l_ v50).At), .int .i64 ((rd l_ v50).What)] :: Γ))) wd516 := H515
                refine sp_op [(133, .pointer (some ⟨b70, 3, none⟩))] (ac (hE512 3 (by decide)) an) ?_
                refine r_ld1 (.int .i64 ((rd l_ v50).Of)) LD3 rfl (((H515).tl.g7).cell _ rfl) ?_
                exact r_nil (n_lp ⟨_, rfl, undef, rfl, H515⟩)
              · intro η487 wd522 Δ523 hE518 hR519 hA520 H521
                refine sp_op [(134, .int .i64 ((rd l_ v50).Of))] (ac (hE518 4 (by decide)) an) ?_
                refine r_rem (by decide) rfl rfl ?_
                exact r_nil (n_lp ⟨_, rfl, undef, rfl, H521⟩)
              · intro η487 wd528 Δ529 hE524 hR525 hA526 H527
                refine sp_op [(132, .int .i64 (Int.tmod ((rd l_ v50).Kind) 7))] (ac (hE524 2 (by decide)) an) ?_
                refine r_pure (.int .i64 (Int.tmod ((rd l_ v50).Kind) 7)) rfl ?_
                exact r_nil (n_lp ⟨_, rfl, undef, rfl, H527⟩)
              · intro η487 wd534 Δ535 hE530 hR531 hA532 H533
                refine sp_op [(135, .int .i64 (Int.tmod ((rd l_ v50).Of) 3))] (ac (hE530 5 (by decide)) an) ?_
                refine r_pure (.int .i64 (Int.tmod ((rd l_ v50).Of) 3)) rfl ?_
                exact r_nil (n_lp ⟨_, rfl, undef, rfl, H533⟩)
              · intro η487 wd537 hV538 H536
                have H539 : Hp w0 (Row K43 (.slice A101 y95.length c103) y95 :: RwN NK37 (.slice A38 xs41.length c40) xs41 av42 :: Ins NK37 xs41 av42 :: Bx b17 52 [.slice A38 xs41.length c40] :: RwN NK37 (.slice A45 xs48.length c47) xs48 av49 :: Ins NK37 xs48 av49 :: Bx b22 28 [.slice A45 xs48.length c47] :: Γ) wd537 := H536.u7.d
                refine n_frame [(0, .slice A1 l_.length c2), (3, .pointer (some ⟨b17, 0, none⟩)), (4, .pointer (some ⟨b22, 0, none⟩)), (5, .int .i64 v50), (7, .string (rd [(⟨#[97]⟩ : ByteArray), (⟨#[98]⟩ : ByteArray), (⟨#[]⟩ : ByteArray)] (Int.tmod y78 3))), (8, .int .i64 v93), (9, .slice A101 y95.length c103), (10, .int .i64 (Int.tmod ((rd l_ v50).Kind) 7)), (11, .int .i64 (Int.tmod ((rd l_ v50).Of) 3))] (ac rfl (ac rfl (ac rfl (ac rfl (ac rfl (ac rfl (ac rfl (ac (hV538 6 rfl) (ac (hV538 7 rfl) an))))))))) ?_
                refine n_bl ?_
                refine n_cut ⟨A101, y95.length, c103, (rd [(⟨#[97]⟩ : ByteArray), (⟨#[98]⟩ : ByteArray), (⟨#[]⟩ : ByteArray)] (Int.tmod y78 3)), v93, y95, Int.tmod ((rd l_ v50).Kind) 7, Int.tmod ((rd l_ v50).Of) 3, upk (ac rfl (ac rfl (ac rfl (ac rfl (ac rfl (ac rfl (ac rfl (ac rfl (ac rfl an))))))))), H539.u6.u6.u6.u6.u6.u6, hm⟩
            · refine st_condf hb486 rfl ?_
              refine st_skip ?_
              refine n_bl ?_
              refine n_cut ⟨A101, y95.length, c103, (rd [(⟨#[97]⟩ : ByteArray), (⟨#[98]⟩ : ByteArray), (⟨#[]⟩ : ByteArray)] (Int.tmod y78 3)), v93, y95, 1, 0, upk (ac rfl (ac rfl (ac rfl (ac rfl (ac rfl (ac rfl (ac rfl (ac rfl (ac rfl an))))))))), H174.u7.d.u6.u6.u6.u6.u6.u6, hm⟩
        · rintro ρ w ⟨A106, n107, c108, s104, v105, xs109, v110, v111, ⟨base, rfl⟩, H112, hm⟩
          obtain rfl := (H112.g6).leneq
          unfold scutagelaw07_StorePlays.j3 at hm
          refine st_cut (fun ρ w => (∃ base, ρ = updl base [(0, .slice A1 l_.length c2), (3, .pointer (some ⟨b17, 0, none⟩)), (4, .pointer (some ⟨b22, 0, none⟩)), (5, .int .i64 v50), (7, .string s104), (8, .int .i64 v105), (9, .slice A106 xs109.length c108), (10, .int .i64 v110), (11, .int .i64 v111)]) ∧ Hp w0 (RwN NK37 (.slice A38 xs41.length c40) xs41 av42 :: Ins NK37 xs41 av42 :: Bx b17 52 [.slice A38 xs41.length c40] :: RwN NK37 (.slice A45 xs48.length c47) xs48 av49 :: Ins NK37 xs48 av49 :: Bx b22 28 [.slice A45 xs48.length c47] :: Row K43 (.slice A106 xs109.length c108) xs109 :: Γ) w ∧ scutagelaw07_StorePlays.j4 xs41 s104 v105 v110 v111 xs109 xs48 (scutagelaw07_StorePlays.l1 l_ fuel60) v50 = some tl53) ?_ ?_
          · refine st_seq ?_
            refine st_region ?_
            refine r_pure (.int .i64 v50) rfl ?_
            refine r_pure (.bool (v50 == 7)) rfl ?_
            refine r_seq ?_
            rcases ite_some hm with ⟨hb142, hm⟩ | ⟨hb142, hm⟩
            · refine st_condt hb142 rfl ?_
              refine st_seq ?_
              refine st_region ?_
              refine r_pure (.pointer (some ⟨b17, 0, none⟩)) rfl ?_
              obtain ⟨y143, hy144, hm⟩ := bind_some hm
              refine r_callf Try.call8 (store_Store_Clone_ok b17 (⟨xs41⟩ : store_Store) A38 xs41.length c40 rfl (((H112).g0).cap) (adv av42) (fun _ H => (H.g0.rd)) (fun j x hj => ⟨((H112).g1 j x hj).1, fun u H => (H.g1 j x hj).2⟩) (fun _ H => (H.g2)) y143 H112 hy144) ?_
              rintro e146 wd145 ⟨b149, A150, n151, c152, av153, rfl, H148⟩
              obtain rfl := (H148.g1).leneq
              refine ⟨_, rfl, ?_⟩
              refine r_pure (.pointer (some ⟨b149, 0, none⟩)) rfl ?_
              refine r_seq ?_
              refine st_seq ?_
              refine st_seq ?_
              refine st_region ?_
              refine r_pure (.pointer (some ⟨b149, 0, none⟩)) rfl ?_
              refine r_eqn Try.underlying23 rfl rfl ?_
              refine r_seq ?_
              refine st_condf rfl rfl ?_
              refine st_skip ?_
              refine n_sq ?_
              refine st_region ?_
              refine r_pure (.pointer (some ⟨b149, 0, none⟩)) rfl ?_
              refine r_build [.int .i64 1, .int .i64 5] FL43 rfl ?_
              refine r_build [.int .i64 2, .int .i64 (-5)] FL43 rfl ?_
              refine r_buildSlice (K := K43) [(⟨1, 5⟩ : api_Line), (⟨2, (-5)⟩ : api_Line)] EL34 rfl rfl rfl (by decide) (by decide) rfl H148 ?_
              intro b154 wd156 H155
              obtain ⟨⟨y157, y158, y159⟩, hy160, hm⟩ := bind_some hm
              refine r_callf Try.call9 (store_Store_Post_ok b149 (⟨y143.f_l⟩ : store_Store) A150 c152 av153 (⟨#[97]⟩ : ByteArray) 0 1 0 [(⟨1, 5⟩ : api_Line), (⟨2, (-5)⟩ : api_Line)] (some ⟨b154, 0, none⟩) 2 2 rfl (((H155.u3.u3.u3.d.d.d).g0).cap) (fun _ H => (H.g0.rd)) y157 y158 y159 H155.u3.u3.u3 hy160) ?_
              rintro e162 wd161 ⟨A165, n166, c167, av168, rfl, H164⟩
              obtain rfl := (H164.g1).leneq
              refine ⟨_, rfl, ?_⟩
              refine r_nil ?_
              refine n_cut ⟨upk (ac rfl (ac rfl (ac rfl (ac rfl (ac rfl (ac rfl (ac rfl (ac rfl (ac rfl an))))))))), H164.d.d.d.d.u6.u6.u6.u6.u6.u6.u6, hm⟩
            · refine st_condf hb142 rfl ?_
              refine st_skip ?_
              refine n_cut ⟨upk (ac rfl (ac rfl (ac rfl (ac rfl (ac rfl (ac rfl (ac rfl (ac rfl (ac rfl an))))))))), H112.u6.u6.u6.u6.u6.u6.u6, hm⟩
          · rintro ρ w ⟨⟨base, rfl⟩, H113, hm⟩
            unfold scutagelaw07_StorePlays.j4 at hm
            refine st_seq ?_
            refine st_region ?_
            refine r_pure (.pointer (some ⟨b17, 0, none⟩)) rfl ?_
            refine r_pure (.string s104) rfl ?_
            refine r_pure (.int .i64 v105) rfl ?_
            refine r_pure (.int .i64 v110) rfl ?_
            refine r_pure (.int .i64 v111) rfl ?_
            refine r_pure (.slice A106 xs109.length c108) rfl ?_
            obtain ⟨⟨y114, y115, y116⟩, hy117, hm⟩ := bind_some hm
            refine r_callf Try.call9 (store_Store_Post_ok b17 (⟨xs41⟩ : store_Store) A38 c40 av42 s104 v105 v110 v111 xs109 A106 xs109.length c108 rfl (((H113.u1.u1.u2.d.d.d).g3).cap) (fun _ H => (H.g3.rd)) y114 y115 y116 H113.u1.u1.u2 hy117) ?_
            rintro e119 wd118 ⟨A122, n123, c124, av125, rfl, H121⟩
            obtain rfl := (H121.g1).leneq
            refine ⟨_, rfl, ?_⟩
            refine r_pure (.tuple #[.int .i64 y114, .int .i64 y115]) rfl ?_
            refine r_pure (.int .i64 y114) rfl ?_
            refine r_pure (.int .i64 y115) rfl ?_
            refine r_pure (.int .i64 y114) rfl ?_
            refine r_pure (.int .i64 y115) rfl ?_
            refine r_seq ?_
            refine st_seq ?_
            refine st_region ?_
            refine r_pure (.pointer (some ⟨b22, 0, none⟩)) rfl ?_
            refine r_pure (.string s104) rfl ?_
            refine r_pure (.int .i64 v105) rfl ?_
            refine r_pure (.int .i64 v110) rfl ?_
            refine r_pure (.int .i64 v111) rfl ?_
            refine r_pure (.slice A106 xs109.length c108) rfl ?_
            obtain ⟨⟨y126, y127, y128⟩, hy129, hm⟩ := bind_some hm
            refine r_callf Try.call10 (scutageref01_Store_Post_ok b22 (⟨xs48⟩ : scutageref01_Store) A45 c47 av49 s104 v105 v110 v111 xs109 A106 xs109.length c108 rfl (((H121.u4.u4.u5.d.d.d).g3).cap) (fun _ H => (H.g3.rd)) y126 y127 y128 H121.u4.u4.u5 hy129) ?_
            rintro e131 wd130 ⟨A134, n135, c136, av137, rfl, H133⟩
            obtain rfl := (H133.g1).leneq
            refine ⟨_, rfl, ?_⟩
            refine r_pure (.tuple #[.int .i64 y126, .int .i64 y127]) rfl ?_
            refine r_pure (.int .i64 y126) rfl ?_
            refine r_pure (.int .i64 y127) rfl ?_
            refine r_pure (.int .i64 y126) rfl ?_
            refine r_pure (.int .i64 y127) rfl ?_
            refine r_seq ?_
            refine st_cut (fun ρ w => ∃ q138 : Bool, (∃ base, ρ = updl base [(0, .slice A1 l_.length c2), (3, .pointer (some ⟨b17, 0, none⟩)), (4, .pointer (some ⟨b22, 0, none⟩)), (5, .int .i64 v50), (174, .bool q138)]) ∧ Hp w0 (RwN NK37 (.slice A122 y116.f_l.length c124) y116.f_l av125 :: Ins NK37 y116.f_l av125 :: Bx b17 52 [.slice A122 y116.f_l.length c124] :: RwN NK37 (.slice A134 y128.f_J.length c136) y128.f_J av137 :: Ins NK37 y128.f_J av137 :: Bx b22 28 [.slice A134 y128.f_J.length c136] :: Γ) w ∧ scutagelaw07_StorePlays.j5 (scutagelaw07_StorePlays.l1 l_ fuel60) y116 y128 v50 q138 = some tl53) ?_ ?_
            · refine st_region ?_
              refine r_pure (.int .i64 y114) rfl ?_
              refine r_pure (.int .i64 y126) rfl ?_
              refine r_pure (.bool (y114 != y126)) rfl ?_
              refine r_pure (.bool (y114 != y126)) rfl ?_
              rcases ite_some hm with ⟨hb141, hm⟩ | ⟨hb141, hm⟩
              · refine r_not (wn_f rfl rfl (by decide) rfl hb141) ?_
                refine r_not (wn_f rfl rfl (by decide) rfl hb141) ?_
                refine r_not (wn_f rfl rfl (by decide) rfl hb141) ?_
                refine r_pick_t (.bool true) hb141 rfl rfl ?_
                refine r_nil ?_
                refine n_cut ⟨true, upk (ac rfl (ac rfl (ac rfl (ac rfl (ac rfl an))))), H133.u6.d.u2.u2.u3.u5.u5, hm⟩
              · refine r_pure (.int .i64 y115) rfl ?_ (wn_t rfl rfl (by decide) rfl hb141)
                refine r_pure (.int .i64 y127) rfl ?_ (wn_t rfl rfl (by decide) rfl hb141)
                refine r_pure (.bool (y115 != y127)) rfl ?_ (wn_t rfl rfl (by decide) rfl hb141)
                refine r_pick_f (.bool (y115 != y127)) hb141 rfl rfl ?_
                refine r_nil ?_
                refine n_cut ⟨y115 != y127, upk (ac rfl (ac rfl (ac rfl (ac rfl (ac rfl an))))), H133.u6.d.u2.u2.u3.u5.u5, hm⟩
            · rintro ρ w ⟨q138, ⟨base, rfl⟩, H139, hm⟩
              unfold scutagelaw07_StorePlays.j5 at hm
              rcases ite_some hm with ⟨hb140, hm⟩ | ⟨hb140, hm⟩
              · refine st_condt hb140 rfl ?_
                refine st_seq ?_
                refine st_region ?_
                refine r_pure (.bool false) rfl ?_
                refine r_seq ?_
                have hq_ := Option.some.inj hm
                subst hq_
                have hq_ := Option.some.inj (show some (false : Bool) = some r0_ from hm52)
                subst hq_
                refine st_ret1 rfl rfl (Nat.le_of_ble_eq_true rfl) rfl ?_
                exact ⟨rfl, H139.d.d.d.d.d.d⟩
              · refine st_condf hb140 rfl ?_
                refine st_skip ?_
                refine n_bl ?_
                refine n_sq ?_
                refine st_region ?_
                refine r_pure (.int .i64 v50) rfl ?_
                refine r_pure (.int .i64 (w64 (v50 + 1))) rfl ?_
                refine r_pure (.int .i64 (w64 (v50 + 1))) rfl ?_
                refine r_nil ?_
                refine n_round (IH62 _ _ _ ⟨y116.f_l, y128.f_J, w64 (v50 + 1), A122, y116.f_l.length, c124, av125, A134, y128.f_J.length, c136, av137, rfl, upk (ac rfl (ac rfl (ac rfl (ac rfl an)))), H139.u5.u5.u5.u5.u5.u5⟩ hm)
    · refine st_condf hb65 rfl ?_
      have hq_ := Option.some.inj hm
      refine st_exit rfl ?_
      subst hq_
      refine n_sq ?_
      refine st_seq ?_
      refine st_seq ?_
      obtain ⟨y542, hy543, hm⟩ := bind_some hm52
      obtain ⟨y552, hy553, hm⟩ := bind_some hm
      refine Flow.run' [[], [0], [], [2], [2, 3], [2, 3, 4], [0, 1, 2, 3, 4, 5], [0, 1, 2, 3, 4, 5, 6]] [(175, 0), (176, 1), (177, 2), (178, 3), (179, 4), (180, 5), (181, 6), (182, 7)] [(fun η541 v => v.1 = .pointer (some ⟨b17, 0, none⟩)), (fun η541 v => v.1 = .slice (vA (v.1)) y542.length (vC (v.1))), (fun η541 v => v.1 = .pointer (some ⟨b22, 0, none⟩)), (fun η541 v => v.1 = .pointer (some ⟨b22, 0, none⟩)), (fun η541 v => v.1 = .pointer (some ⟨b22, 0, none⟩)), (fun η541 v => v.1 = .slice A45 xs48.length c47), (fun η541 v => v.1 = .bool y552), (fun η541 v => v.1 = .bool (!y552))] [⟨(some 1), none, fun η541 => RwN NK37 (.slice (vA ((η541 1).1)) y542.length (vC ((η541 1).1))) y542 (vT 1 ((η541 1).2))⟩, ⟨(some 1), none, fun η541 => Ins NK37 y542 (vT 1 ((η541 1).2))⟩] rfl (by kernel_rfl) (by kernel_rfl) H64 ⟨?_, ?_, ?_, ?_, ?_, ?_, ?_, ?_, trivial⟩ ?_
      · intro η541 wd562 Δ563 hE558 hR559 hA560 H561
        refine sp_op [(3, .pointer (some ⟨b17, 0, none⟩))] (ac rfl an) ?_
        refine r_pure (.pointer (some ⟨b17, 0, none⟩)) rfl ?_
        exact r_nil (n_lp ⟨_, rfl, undef, rfl, H561⟩)
      · intro η541 wd568 Δ569 hE564 hR565 hA566 H567
        have H567 : Hp w0 ((Δ569 ++ (RwN NK37 (.slice A38 xs41.length c40) xs41 av42 :: Ins NK37 xs41 av42 :: Bx b17 52 [.slice A38 xs41.length c40] :: RwN NK37 (.slice A45 xs48.length c47) xs48 av49 :: Ins NK37 xs48 av49 :: Bx b22 28 [.slice A45 xs48.length c47] :: Γ))) wd568 := H567
        refine sp_op [(175, .pointer (some ⟨b17, 0, none⟩))] (ac (hE564 0 (by decide)) an) ?_
        refine r_callf Try.call12 (store_Store_Journals_ok b17 (⟨xs41⟩ : store_Store) A38 xs41.length c40 rfl ((((H567)).tl.g0).cap) (adv av42) (fun _ H => ((H).tl.g0.rd)) (fun j x hj => ⟨(((H567)).tl.g1 j x hj).1, fun u H => ((H).tl.g1 j x hj).2⟩) (fun _ H => ((H).tl.g2)) y542 H567 hy543) ?_
        rintro e573 wd572 ⟨A576, n577, c578, av579, rfl, H575⟩
        obtain rfl := (H575.g0).leneq
        refine ⟨_, rfl, ?_⟩
        exact r_nil (n_lp ⟨_, rfl, (.tuple #[.slice A576 y542.length c578, av579]), rfl, H575.u1.u1⟩)
      · intro η541 wd584 Δ585 hE580 hR581 hA582 H583
        refine sp_op [(4, .pointer (some ⟨b22, 0, none⟩))] (ac rfl an) ?_
        refine r_pure (.pointer (some ⟨b22, 0, none⟩)) rfl ?_
        exact r_nil (n_lp ⟨_, rfl, undef, rfl, H583⟩)
      · intro η541 wd590 Δ591 hE586 hR587 hA588 H589
        refine sp_op [(177, .pointer (some ⟨b22, 0, none⟩))] (ac (hE586 2 (by decide)) an) ?_
        refine r_pure (.pointer (some ⟨b22, 0, none⟩)) rfl ?_
        exact r_nil (n_lp ⟨_, rfl, undef, rfl, H589⟩)
      · intro η541 wd596 Δ597 hE592 hR593 hA594 H595
        refine sp_op [(178, .pointer (some ⟨b22, 0, none⟩))] (ac (hE592 3 (by decide)) an) ?_
        refine r_fa FA28_0 ⟨b22, 0, none⟩ rfl rfl ?_
        exact r_nil (n_lp ⟨_, rfl, undef, rfl, H595⟩)
      · intro η541 wd602 Δ603 hE598 hR599 hA600 H601
        have H601 : Hp w0 ((Δ603 ++ (RwN NK37 (.slice A38 xs41.length c40) xs41 av42 :: Ins NK37 xs41 av42 :: Bx b17 52 [.slice A38 xs41.length c40] :: RwN NK37 (.slice A45 xs48.length c47) xs48 av49 :: Ins NK37 xs48 av49 :: Bx b22 28 [.slice A45 xs48.length c47] :: Γ))) wd602 := H601
        refine sp_op [(179, .pointer (some ⟨b22, 0, none⟩))] (ac (hE598 4 (by decide)) an) ?_
        refine r_ld1 (.slice A45 xs48.length c47) LD26 rfl (((H601).tl.g5).cell _ rfl) ?_
        exact r_nil (n_lp ⟨_, rfl, undef, rfl, H601⟩)
      · intro η541 wd608 Δ609 hE604 hR605 hA606 H607
        have H607 : Hp w0 ((Δ609 ++ (RwN NK37 (.slice A38 xs41.length c40) xs41 av42 :: Ins NK37 xs41 av42 :: Bx b17 52 [.slice A38 xs41.length c40] :: RwN NK37 (.slice A45 xs48.length c47) xs48 av49 :: Ins NK37 xs48 av49 :: Bx b22 28 [.slice A45 xs48.length c47] :: Γ))) wd608 := H607
        refine sp_op [(176, .slice (vA ((η541 1).1)) y542.length (vC ((η541 1).1))), (180, .slice A45 xs48.length c47)] (ac (hE604 1 (by decide)) (ac (hE604 5 (by decide)) an)) ?_
        refine r_callf Try.call11 (scutagelaw07_Journals_ok y542 (vA ((η541 1).1)) y542.length (vC ((η541 1).1)) rfl (((show (RwN NK37 (.slice (vA ((η541 1).1)) y542.length (vC ((η541 1).1))) y542 (vT 1 ((η541 1).2))) _ from ((H607)).memr (hR605 _ (List.mem_of_getElem? (i := 0) rfl) rfl))).cap) (adv (vT 1 ((η541 1).2))) (fun _ H => ((show (RwN NK37 (.slice (vA ((η541 1).1)) y542.length (vC ((η541 1).1))) y542 (vT 1 ((η541 1).2))) _ from (H).memr (hR605 _ (List.mem_of_getElem? (i := 0) rfl) rfl)).rd)) (fun j x hj => ⟨((show (Ins NK37 y542 (vT 1 ((η541 1).2))) _ from ((H607)).memr (hR605 _ (List.mem_of_getElem? (i := 1) rfl) rfl)) j x hj).1, fun u H => ((show (Ins NK37 y542 (vT 1 ((η541 1).2))) _ from (H).memr (hR605 _ (List.mem_of_getElem? (i := 1) rfl) rfl)) j x hj).2⟩) xs48 A45 xs48.length c47 rfl ((((H607)).tl.g3).cap) (adv av49) (fun _ H => ((H).tl.g3.rd)) (fun j x hj => ⟨(((H607)).tl.g4 j x hj).1, fun u H => ((H).tl.g4 j x hj).2⟩) y552 H607 hy553) ?_
        rintro e613 wd612 ⟨rfl, H615⟩
        refine ⟨_, rfl, ?_⟩
        exact r_nil (n_lp ⟨_, rfl, undef, rfl, H615⟩)
      · intro η541 wd620 Δ621 hE616 hR617 hA618 H619
        refine sp_op [(181, .bool y552)] (ac (hE616 6 (by decide)) an) ?_
        refine r_pure (.bool (!y552)) rfl ?_
        exact r_nil (n_lp ⟨_, rfl, undef, rfl, H619⟩)
      · intro η541 wd623 hV624 H622
        have H625 : Hp w0 (RwN NK37 (.slice A38 xs41.length c40) xs41 av42 :: Ins NK37 xs41 av42 :: Bx b17 52 [.slice A38 xs41.length c40] :: RwN NK37 (.slice A45 xs48.length c47) xs48 av49 :: Ins NK37 xs48 av49 :: Bx b22 28 [.slice A45 xs48.length c47] :: Γ) wd623 := H622.d.d
        refine n_frame [(3, .pointer (some ⟨b17, 0, none⟩)), (4, .pointer (some ⟨b22, 0, none⟩)), (182, .bool (!y552))] (ac rfl (ac rfl (ac (hV624 7 rfl) an))) ?_
        refine n_sq ?_
        rcases ite_some hm with ⟨hb626, hm⟩ | ⟨hb626, hm⟩
        · refine st_condt hb626 rfl ?_
          refine st_seq ?_
          refine st_region ?_
          refine r_pure (.bool false) rfl ?_
          refine r_seq ?_
          have hq_ := Option.some.inj hm
          subst hq_
          refine st_ret1 rfl rfl (Nat.le_of_ble_eq_true rfl) rfl ?_
          exact ⟨rfl, H625.d.d.d.d.d.d⟩
        · refine st_condf hb626 rfl ?_
          refine st_skip ?_
          refine n_sq ?_
          refine st_seq ?_
          refine st_seq ?_
          refine st_region ?_
          refine r_pure (.int .i64 (-1)) rfl ?_
          refine r_seq ?_
          refine st_block ?_
          obtain ⟨tl631, hl632, hm630⟩ := bind_some hm
          refine st_loopF (scutagelaw07_StorePlays.l2 xs41 xs48) (fun s ρ w => ∃ v628 : Int, v628 = s ∧ (∃ base, ρ = updl base [(3, .pointer (some ⟨b17, 0, none⟩)), (4, .pointer (some ⟨b22, 0, none⟩)), (17, .int .i64 v628)]) ∧ Hp w0 (RwN NK37 (.slice A38 xs41.length c40) xs41 av42 :: Ins NK37 xs41 av42 :: Bx b17 52 [.slice A38 xs41.length c40] :: RwN NK37 (.slice A45 xs48.length c47) xs48 av49 :: Ins NK37 xs48 av49 :: Bx b22 28 [.slice A45 xs48.length c47] :: Γ) w) hl632 (fun _ => rfl) ⟨(-1), rfl, upk (ac rfl (ac rfl (ac rfl an))), H625.u5.u5.u5.u5.u5.u5⟩ ?_
          rintro fuel638 IH640 s ρ w ⟨v628, rfl, ⟨base, rfl⟩, H629⟩ hm
          rw [scutagelaw07_StorePlays.l2] at hm
          refine st_seq ?_
          refine st_seq ?_
          refine st_region ?_
          refine r_pure (.int .i64 v628) rfl ?_
          refine r_pure (.bool (decide (v628 < 6))) rfl ?_
          refine r_seq ?_
          rcases ite_some hm with ⟨hb641, hm⟩ | ⟨hb641, hm⟩
          · refine st_condt hb641 rfl ?_
            refine st_skip ?_
            refine n_sq ?_
            refine st_seq ?_
            refine st_block ?_
            refine st_seq ?_
            refine st_region ?_
            refine r_buildSliceF (K := K9) [(⟨#[97]⟩ : ByteArray), (⟨#[98]⟩ : ByteArray), (⟨#[120]⟩ : ByteArray)] EL32 rfl rfl rfl (by decide) (by decide) ⟨rfl, rfl, ⟨rfl, rfl, ⟨rfl, rfl, trivial⟩⟩⟩ H629 ?_
            intro b642 wd644 H643
            refine r_len Try.underlying32 rfl ?_
            refine r_pure (.int .i64 0) rfl ?_
            refine r_seq ?_
            refine st_block ?_
            obtain ⟨tl649, hl650, hm648⟩ := bind_some hm
            refine st_loopF (scutagelaw07_StorePlays.l3 xs41 v628 xs48) (fun s ρ w => ∃ v646 : Int, v646 = s ∧ (∃ base, ρ = updl base [(3, .pointer (some ⟨b17, 0, none⟩)), (4, .pointer (some ⟨b22, 0, none⟩)), (17, .int .i64 v628), (187, .slice (some ⟨b642, 0, none⟩) 3 3), (188, .int .i64 (3 : Int)), (189, .int .i64 v646)]) ∧ Hp w0 (RwN NK37 (.slice A38 xs41.length c40) xs41 av42 :: Ins NK37 xs41 av42 :: Bx b17 52 [.slice A38 xs41.length c40] :: RwN NK37 (.slice A45 xs48.length c47) xs48 av49 :: Ins NK37 xs48 av49 :: Bx b22 28 [.slice A45 xs48.length c47] :: Row K9 (.slice (some ⟨b642, 0, none⟩) 3 3) [(⟨#[97]⟩ : ByteArray), (⟨#[98]⟩ : ByteArray), (⟨#[120]⟩ : ByteArray)] :: Γ) w) hl650 (fun _ => rfl) ⟨0, rfl, upk (ac rfl (ac rfl (ac rfl (ac rfl (ac rfl (ac rfl an)))))), H643.u6.u6.u6.u6.u6.u6⟩ ?_
            rintro fuel656 IH658 s ρ w ⟨v646, rfl, ⟨base, rfl⟩, H647⟩ hm
            rw [scutagelaw07_StorePlays.l3] at hm
            refine st_seq ?_
            refine st_region ?_
            refine r_pure (.bool (decide (v646 < (3 : Int)))) rfl ?_
            refine r_seq ?_
            refine st_seq ?_
            rcases ite_some hm with ⟨hb659, hm⟩ | ⟨hb659, hm⟩
            · refine st_condt hb659 rfl ?_
              refine st_skip ?_
              refine n_sq ?_
              refine st_seq ?_
              refine st_block ?_
              refine st_seq ?_
              refine st_region ?_
              obtain ⟨⟨h0660, h1661⟩, hm⟩ := gd_some hm
              have hj662 := rd_get h0660 h1661
              refine r_ix IX32 rfl rfl rfl h0660 (by have h1_ := (H647.g6).leneq; have h2_ := h1661; rw [← h1_] at h2_; exact h2_) ?_
              refine r_ld1 (.string (rd [(⟨#[97]⟩ : ByteArray), (⟨#[98]⟩ : ByteArray), (⟨#[120]⟩ : ByteArray)] v646)) LD9 rfl ((H647.g6.rd).c0A rfl hj662 _ rfl) ?_
              refine r_pure (.string (rd [(⟨#[97]⟩ : ByteArray), (⟨#[98]⟩ : ByteArray), (⟨#[120]⟩ : ByteArray)] v646)) rfl ?_
              refine r_seq ?_
              refine st_seq ?_
              refine st_seq ?_
              refine st_region ?_
              refine r_pure (.pointer (some ⟨b17, 0, none⟩)) rfl ?_
              refine r_pure (.string (rd [(⟨#[97]⟩ : ByteArray), (⟨#[98]⟩ : ByteArray), (⟨#[120]⟩ : ByteArray)] v646)) rfl ?_
              refine r_pure (.int .i64 v628) rfl ?_
              obtain ⟨y663, hy664, hm⟩ := bind_some hm
              refine r_callf Try.call14 (store_Store_Trial_ok b17 (⟨xs41⟩ : store_Store) A38 xs41.length c40 rfl (((H647).g0).cap) (adv av42) (fun _ H => (H.g0.rd)) (fun j x hj => ⟨((H647).g1 j x hj).1, fun u H => (H.g1 j x hj).2⟩) (fun _ H => (H.g2)) (rd [(⟨#[97]⟩ : ByteArray), (⟨#[98]⟩ : ByteArray), (⟨#[120]⟩ : ByteArray)] v646) v628 y663 H647 hy664) ?_
              rintro e666 wd665 ⟨A669, n670, c671, rfl, H668⟩
              obtain rfl := (H668.g0).leneq
              refine ⟨_, rfl, ?_⟩
              refine r_pure (.pointer (some ⟨b22, 0, none⟩)) rfl ?_
              refine r_pure (.string (rd [(⟨#[97]⟩ : ByteArray), (⟨#[98]⟩ : ByteArray), (⟨#[120]⟩ : ByteArray)] v646)) rfl ?_
              refine r_pure (.int .i64 v628) rfl ?_
              obtain ⟨y672, hy673, hm⟩ := bind_some hm
              refine r_callf Try.call15 (scutageref01_Store_Trial_ok b22 (⟨xs48⟩ : scutageref01_Store) A45 xs48.length c47 rfl (((H668).g4).cap) (adv av49) (fun _ H => (H.g4.rd)) (fun j x hj => ⟨((H668).g5 j x hj).1, fun u H => (H.g5 j x hj).2⟩) (fun _ H => (H.g6)) (rd [(⟨#[97]⟩ : ByteArray), (⟨#[98]⟩ : ByteArray), (⟨#[120]⟩ : ByteArray)] v646) v628 y672 H668 hy673) ?_
              rintro e675 wd674 ⟨A678, n679, c680, rfl, H677⟩
              obtain rfl := (H677.g0).leneq
              refine ⟨_, rfl, ?_⟩
              obtain ⟨y681, hy682, hm⟩ := bind_some hm
              refine r_callf Try.call13 (scutagekeep_Same_api_Line_ok y663 A669 y663.length c671 rfl (((H677).g1).cap) (fun _ H => (H.g1.rd)) y672 A678 y672.length c680 rfl (((H677).g0).cap) (fun _ H => (H.g0.rd)) y681 H677 hy682) ?_
              rintro e684 wd683 ⟨rfl, H686⟩
              refine ⟨_, rfl, ?_⟩
              refine r_pure (.bool (!y681)) rfl ?_
              refine r_seq ?_
              rcases ite_some hm with ⟨hb687, hm⟩ | ⟨hb687, hm⟩
              · refine st_condt hb687 rfl ?_
                refine st_seq ?_
                refine st_region ?_
                refine r_pure (.bool false) rfl ?_
                refine r_seq ?_
                have hq_ := Option.some.inj hm
                subst hq_
                have hq_ := Option.some.inj (show some (Sum.inl (false : Bool)) = some tl631 from hm648)
                subst hq_
                have hq_ := Option.some.inj (show some (false : Bool) = some r0_ from hm630)
                subst hq_
                refine st_ret1 rfl rfl (Nat.le_of_ble_eq_true rfl) rfl ?_
                exact ⟨rfl, H686.d.d.d.d.d.d.d.d.d⟩
              · refine st_condf hb687 rfl ?_
                refine st_skip ?_
                refine n_sq ?_
                refine st_seq ?_
                refine st_region ?_
                refine r_pure (.int .i64 0) rfl ?_
                refine r_seq ?_
                refine st_block ?_
                obtain ⟨tl692, hl693, hm691⟩ := bind_some hm
                refine st_loopF (scutagelaw07_StorePlays.l4 xs41 v646 v628 xs48) (fun s ρ w => ∃ v689 : Int, v689 = s ∧ (∃ base, ρ = updl base [(3, .pointer (some ⟨b17, 0, none⟩)), (4, .pointer (some ⟨b22, 0, none⟩)), (17, .int .i64 v628), (19, .string (rd [(⟨#[97]⟩ : ByteArray), (⟨#[98]⟩ : ByteArray), (⟨#[120]⟩ : ByteArray)] v646)), (20, .int .i64 v689), (187, .slice (some ⟨b642, 0, none⟩) 3 3), (188, .int .i64 (3 : Int)), (189, .int .i64 v646)]) ∧ Hp w0 (RwN NK37 (.slice A38 xs41.length c40) xs41 av42 :: Ins NK37 xs41 av42 :: Bx b17 52 [.slice A38 xs41.length c40] :: RwN NK37 (.slice A45 xs48.length c47) xs48 av49 :: Ins NK37 xs48 av49 :: Bx b22 28 [.slice A45 xs48.length c47] :: Row K9 (.slice (some ⟨b642, 0, none⟩) 3 3) [(⟨#[97]⟩ : ByteArray), (⟨#[98]⟩ : ByteArray), (⟨#[120]⟩ : ByteArray)] :: Γ) w) hl693 (fun _ => rfl) ⟨0, rfl, upk (ac rfl (ac rfl (ac rfl (ac rfl (ac rfl (ac rfl (ac rfl (ac rfl an)))))))), H686.d.d.u6.u6.u6.u6.u6.u6.u6⟩ ?_
                rintro fuel699 IH701 s ρ w ⟨v689, rfl, ⟨base, rfl⟩, H690⟩ hm
                rw [scutagelaw07_StorePlays.l4] at hm
                refine st_seq ?_
                refine st_seq ?_
                refine st_region ?_
                refine r_pure (.int .i64 v689) rfl ?_
                refine r_pure (.bool (decide (v689 < 9))) rfl ?_
                refine r_seq ?_
                rcases ite_some hm with ⟨hb702, hm⟩ | ⟨hb702, hm⟩
                · refine st_condt hb702 rfl ?_
                  refine st_skip ?_
                  refine n_sq ?_
                  refine st_seq ?_
                  refine st_block ?_
                  refine st_seq ?_
                  refine st_region ?_
                  refine r_pure (.pointer (some ⟨b17, 0, none⟩)) rfl ?_
                  refine r_pure (.string (rd [(⟨#[97]⟩ : ByteArray), (⟨#[98]⟩ : ByteArray), (⟨#[120]⟩ : ByteArray)] v646)) rfl ?_
                  refine r_pure (.int .i64 v689) rfl ?_
                  refine r_pure (.int .i64 v628) rfl ?_
                  obtain ⟨y703, hy704, hm⟩ := bind_some hm
                  refine r_callf Try.call16 (store_Store_Balance_ok b17 (⟨xs41⟩ : store_Store) A38 xs41.length c40 rfl (((H690).g0).cap) (adv av42) (fun _ H => (H.g0.rd)) (fun j x hj => ⟨((H690).g1 j x hj).1, fun u H => (H.g1 j x hj).2⟩) (fun _ H => (H.g2)) (rd [(⟨#[97]⟩ : ByteArray), (⟨#[98]⟩ : ByteArray), (⟨#[120]⟩ : ByteArray)] v646) v689 v628 y703 H690 hy704) ?_
                  rintro e706 wd705 ⟨rfl, H708⟩
                  refine ⟨_, rfl, ?_⟩
                  refine r_pure (.pointer (some ⟨b22, 0, none⟩)) rfl ?_
                  refine r_pure (.string (rd [(⟨#[97]⟩ : ByteArray), (⟨#[98]⟩ : ByteArray), (⟨#[120]⟩ : ByteArray)] v646)) rfl ?_
                  refine r_pure (.int .i64 v689) rfl ?_
                  refine r_pure (.int .i64 v628) rfl ?_
                  obtain ⟨y709, hy710, hm⟩ := bind_some hm
                  refine r_callf Try.call17 (scutageref01_Store_Balance_ok b22 (⟨xs48⟩ : scutageref01_Store) A45 xs48.length c47 rfl (((H708).g3).cap) (adv av49) (fun _ H => (H.g3.rd)) (fun j x hj => ⟨((H708).g4 j x hj).1, fun u H => (H.g4 j x hj).2⟩) (fun _ H => (H.g5)) (rd [(⟨#[97]⟩ : ByteArray), (⟨#[98]⟩ : ByteArray), (⟨#[120]⟩ : ByteArray)] v646) v689 v628 y709 H708 hy710) ?_
                  rintro e712 wd711 ⟨rfl, H714⟩
                  refine ⟨_, rfl, ?_⟩
                  refine r_pure (.bool (y703 != y709)) rfl ?_
                  refine r_seq ?_
                  rcases ite_some hm with ⟨hb715, hm⟩ | ⟨hb715, hm⟩
                  · refine st_condt hb715 rfl ?_
                    refine st_seq ?_
                    refine st_region ?_
                    refine r_pure (.bool false) rfl ?_
                    refine r_seq ?_
                    have hq_ := Option.some.inj hm
                    subst hq_
                    have hq_ := Option.some.inj (show some (Sum.inl (false : Bool)) = some tl649 from hm691)
                    subst hq_
                    have hq_ := Option.some.inj (show some (Sum.inl (false : Bool)) = some tl631 from hm648)
                    subst hq_
                    have hq_ := Option.some.inj (show some (false : Bool) = some r0_ from hm630)
                    subst hq_
                    refine st_ret1 rfl rfl (Nat.le_of_ble_eq_true rfl) rfl ?_
                    exact ⟨rfl, H714.d.d.d.d.d.d.d⟩
                  · refine st_condf hb715 rfl ?_
                    refine st_skip ?_
                    refine n_bl ?_
                    refine n_sq ?_
                    refine st_region ?_
                    refine r_pure (.int .i64 v689) rfl ?_
                    refine r_pure (.int .i64 (w64 (v689 + 1))) rfl ?_
                    refine r_pure (.int .i64 (w64 (v689 + 1))) rfl ?_
                    refine r_nil ?_
                    refine n_round (IH701 _ _ _ ⟨w64 (v689 + 1), rfl, upk (ac rfl (ac rfl (ac rfl (ac rfl (ac rfl (ac rfl (ac rfl (ac rfl an)))))))), H714.u6.u6.u6.u6.u6.u6.u6⟩ hm)
                · refine st_condf hb702 rfl ?_
                  have hq_ := Option.some.inj hm
                  refine st_exit rfl ?_
                  subst hq_
                  refine n_bl ?_
                  refine n_sq ?_
                  refine st_region ?_
                  refine r_pure (.int .i64 (w64 (v646 + 1))) rfl ?_
                  refine r_pure (.int .i64 (w64 (v646 + 1))) rfl ?_
                  refine r_nil ?_
                  refine n_round (IH658 _ _ _ ⟨w64 (v646 + 1), rfl, upk (ac rfl (ac rfl (ac rfl (ac rfl (ac rfl (ac rfl an)))))), H690.u6.u6.u6.u6.u6.u6.u6⟩ hm691)
            · refine st_condf hb659 rfl ?_
              have hq_ := Option.some.inj hm
              refine st_exit rfl ?_
              subst hq_
              refine n_bl ?_
              refine n_sq ?_
              refine st_region ?_
              refine r_pure (.int .i64 v628) rfl ?_
              refine r_pure (.int .i64 (w64 (v628 + 1))) rfl ?_
              refine r_pure (.int .i64 (w64 (v628 + 1))) rfl ?_
              refine r_nil ?_
              refine n_round (IH640 _ _ _ ⟨w64 (v628 + 1), rfl, upk (ac rfl (ac rfl (ac rfl an))), H647.u6.d.u5.u5.u5.u5.u5.u5⟩ hm648)
          · refine st_condf hb641 rfl ?_
            have hq_ := Option.some.inj hm
            refine st_exit rfl ?_
            subst hq_
            refine n_sq ?_
            refine st_seq ?_
            refine st_region ?_
            obtain ⟨y716, hy717, hm⟩ := bind_some hm630
            refine r_callf Try.call18 (scutagelaw07_wakes_ok  y716 H629 hy717) ?_
            rintro e719 wd718 ⟨rfl, H721⟩
            refine ⟨_, rfl, ?_⟩
            refine r_pure (.bool y716) rfl ?_
            refine r_seq ?_
            have hq_ := Option.some.inj hm
            subst hq_
            refine st_ret1 rfl rfl (Nat.le_of_ble_eq_true rfl) rfl ?_
            exact ⟨rfl, H721.d.d.d.d.d.d⟩


end Go.Proofs.Ytdhekpodgemneaa
