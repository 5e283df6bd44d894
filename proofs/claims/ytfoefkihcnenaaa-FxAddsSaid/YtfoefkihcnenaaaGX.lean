/- The Go functions come to their models: printed by gen.py. -/
import Derived.Test.YtfoefkihcnenaaaGX0
set_option linter.unusedVariables false
set_option linter.unusedSimpArgs false
set_option maxRecDepth 100000
namespace Go.Proofs.Ytfoefkihcnenaaa
open Go Go.RowKit
attribute [local irreducible] W R N L Hp Row SlR Bx

set_option maxHeartbeats 2000000 in
theorem scutagelaw25_FxAdds_ok {w0 w : World} {Γ : List (World → Prop)} (kinds : List Int) (A1 : Option Addr) (n6 c2 : Nat) (hn5 : n6 = kinds.length) (hc3 : kinds.length ≤ c2) (hv4 : ∀ u, Hp w0 Γ u → SlR K3 A1 kinds u) (amounts : List Int) (A7 : Option Addr) (n12 c8 : Nat) (hn11 : n12 = amounts.length) (hc9 : amounts.length ≤ c8) (hv10 : ∀ u, Hp w0 Γ u → SlR K3 A7 amounts u) (other : List Int) (A13 : Option Addr) (n18 c14 : Nat) (hn17 : n18 = other.length) (hc15 : other.length ≤ c14) (hv16 : ∀ u, Hp w0 Γ u → SlR K3 A13 other u) (r0_ : Bool) (H : Hp w0 (Γ) w) (hm : scutagelaw25_FxAdds kinds amounts other = some r0_) : Calls Try.prog 5 #[.slice A1 n6 c2, .slice A7 n12 c8, .slice A13 n18 c14] w (fun e w => e = .returned (.bool r0_) ∧ Hp w0 (Γ) w) := by
  subst hn5
  subst hn11
  subst hn17
  unfold scutagelaw25_FxAdds at hm
  refine st_enter Try.func5 rfl Try.ntmps5 (Nat.le_of_ble_eq_true rfl) ?_
  refine st_seq ?_
  refine st_region ?_
  refine r_pure (.bool false) rfl ?_
  refine r_seq ?_
  refine st_seq ?_
  refine st_region ?_
  refine r_pure (.slice A1 kinds.length c2) rfl ?_
  refine r_pure (.slice A7 amounts.length c8) rfl ?_
  obtain ⟨y19, hy20, hm⟩ := bind_some hm
  refine r_callf Try.call10 (scutagelaw25_items_ok kinds A1 kinds.length c2 rfl hc3 (fun _ H => (hv4 _ H)) amounts A7 amounts.length c8 rfl hc9 (fun _ H => (hv10 _ H)) 15 y19 H hy20) ?_
  rintro e22 wd21 ⟨A25, n26, c27, rfl, H24⟩
  obtain rfl := (H24.g0).leneq
  refine ⟨_, rfl, ?_⟩
  refine r_pure (.slice A13 other.length c14) rfl ?_
  refine r_pure (.slice A7 amounts.length c8) rfl ?_
  obtain ⟨y28, hy29, hm⟩ := bind_some hm
  refine r_callf Try.call10 (scutagelaw25_items_ok other A13 other.length c14 rfl hc15 (fun _ H => (hv16 _ H.d)) amounts A7 amounts.length c8 rfl hc9 (fun _ H => (hv10 _ H.d)) 15 y28 H24 hy29) ?_
  rintro e31 wd30 ⟨A34, n35, c36, rfl, H33⟩
  obtain rfl := (H33.g0).leneq
  refine ⟨_, rfl, ?_⟩
  refine r_pure (.slice A25 y19.length c27) rfl ?_
  refine r_pure (.slice A34 y28.length c36) rfl ?_
  refine r_seq ?_
  refine st_seq ?_
  refine st_region ?_
  refine r_makeMap MT39 H33 ?_
  intro b37 wd39 H38
  refine r_pure (.map (some b37)) rfl ?_
  refine r_seq ?_
  refine st_seq ?_
  refine st_seq ?_
  refine st_region ?_
  refine r_pure (.slice A25 y19.length c27) rfl ?_
  refine r_len Try.underlying25 rfl ?_
  refine r_pure (.int .i64 0) rfl ?_
  refine r_seq ?_
  refine st_block ?_
  have hlim63 := (H38.g2.rd).lim
  obtain ⟨tl46, hl47, hm45⟩ := bind_some hm
  refine st_loopL (scutagelaw25_FxAdds.l1) (fun ys52 s ρ w => ∃ i48 : Int, ∃ xs42 : List api_Item, ∃ mm43 : List (Int × Int), ∃ dn49 : List api_Item, (i48, xs42, mm43) = s ∧ y19 = dn49 ++ ys52 ∧ i48 = (dn49.length : Int) ∧ (∃ base, ρ = updl base [(7, .slice A25 y19.length c27), (8, .slice A34 y28.length c36), (9, .map (some b37)), (23, .int .i64 (y19.length : Int)), (24, .int .i64 i48)]) ∧ Hp w0 (Row K24 (.slice A25 y19.length c27) xs42 :: Row K24 (.slice A34 y28.length c36) y28 :: MpI Try.prog 3 3 b37 mm43 :: Γ) w) hl47 ⟨0, y19, ([] : List (Int × Int)), [], rfl, rfl, rfl, upk (ac rfl (ac rfl (ac rfl (ac rfl (ac rfl an))))), H38.u1.u2⟩ ?_
  rintro m ys52 IH56 s ρ w ⟨i48, xs42, mm43, dn49, rfl, hxs50, hi51, ⟨base, rfl⟩, H44⟩ hm
  rcases ys52 with _ | ⟨y53, ys52⟩
  · rw [scutagelaw25_FxAdds.l1] at hm
    have hb57 := range_end hxs50 hi51
    refine st_seq ?_
    refine st_region ?_
    refine r_pure (.bool (decide (i48 < (y19.length : Int)))) rfl ?_
    refine r_seq ?_
    refine st_seq ?_
    refine st_condf hb57 rfl ?_
    have hq_ := Option.some.inj hm
    refine st_exit rfl ?_
    subst hq_
    refine n_sq ?_
    refine st_seq ?_
    refine st_seq ?_
    refine st_region ?_
    refine r_pure (.slice A34 y28.length c36) rfl ?_
    refine r_len Try.underlying25 rfl ?_
    refine r_pure (.int .i64 0) rfl ?_
    refine r_seq ?_
    refine st_block ?_
    have hlim87 := (H44.g1.rd).lim
    obtain ⟨tl70, hl71, hm69⟩ := bind_some hm45
    refine st_loopL (scutagelaw25_FxAdds.l2) (fun ys76 s ρ w => ∃ i72 : Int, ∃ xs66 : List api_Item, ∃ mm67 : List (Int × Int), ∃ dn73 : List api_Item, (i72, xs66, mm67) = s ∧ y28 = dn73 ++ ys76 ∧ i72 = (dn73.length : Int) ∧ (∃ base, ρ = updl base [(7, .slice A25 y19.length c27), (8, .slice A34 y28.length c36), (9, .map (some b37)), (50, .int .i64 (y28.length : Int)), (51, .int .i64 i72)]) ∧ Hp w0 (Row K24 (.slice A25 y19.length c27) xs42 :: Row K24 (.slice A34 y28.length c36) xs66 :: MpI Try.prog 3 3 b37 mm67 :: Γ) w) hl71 ⟨0, y28, mm43, [], rfl, rfl, rfl, upk (ac rfl (ac rfl (ac rfl (ac rfl (ac rfl an))))), H44.u2.u2.u2⟩ ?_
    rintro m ys76 IH80 s ρ w ⟨i72, xs66, mm67, dn73, rfl, hxs74, hi75, ⟨base, rfl⟩, H68⟩ hm
    rcases ys76 with _ | ⟨y77, ys76⟩
    · rw [scutagelaw25_FxAdds.l2] at hm
      have hb81 := range_end hxs74 hi75
      refine st_seq ?_
      refine st_region ?_
      refine r_pure (.bool (decide (i72 < (y28.length : Int)))) rfl ?_
      refine r_seq ?_
      refine st_seq ?_
      refine st_condf hb81 rfl ?_
      have hq_ := Option.some.inj hm
      refine st_exit rfl ?_
      subst hq_
      refine n_sq ?_
      refine st_seq ?_
      refine st_region ?_
      refine r_pure (.slice A25 y19.length c27) rfl ?_
      refine r_pure (.slice A34 y28.length c36) rfl ?_
      obtain ⟨y88, hy89, hm⟩ := bind_some hm69
      refine r_callf Try.call8 (fx_Add_ok xs42 A25 y19.length c27 (((H68).g0).leneq) (((H68).g0).cap) (fun _ H => (H.g0.rd)) xs66 A34 y28.length c36 (((H68).g1).leneq) (((H68).g1).cap) (fun _ H => (H.g1.rd)) y88 H68 hy89) ?_
      rintro e91 wd90 ⟨A94, n95, c96, rfl, H93⟩
      obtain rfl := (H93.g0).leneq
      refine ⟨_, rfl, ?_⟩
      refine r_pure (.slice A94 y88.length c96) rfl ?_
      refine r_seq ?_
      refine st_seq ?_
      refine st_seq ?_
      refine st_region ?_
      refine r_pure (.slice A94 y88.length c96) rfl ?_
      refine r_len Try.underlying25 rfl ?_
      refine r_pure (.int .i64 0) rfl ?_
      refine r_seq ?_
      refine st_block ?_
      have hlim116 := (H93.g0.rd).lim
      obtain ⟨tl99, hl100, hm98⟩ := bind_some hm
      refine st_loopL (scutagelaw25_FxAdds.l3 y88 mm67) (fun ys105 s ρ w => ∃ i101 : Int, ∃ dn102 : List api_Item, i101 = s ∧ y88 = dn102 ++ ys105 ∧ i101 = (dn102.length : Int) ∧ (∃ base, ρ = updl base [(7, .slice A25 y19.length c27), (8, .slice A34 y28.length c36), (9, .map (some b37)), (12, .slice A94 y88.length c96), (79, .slice A94 y88.length c96), (80, .int .i64 (y88.length : Int)), (81, .int .i64 i101)]) ∧ Hp w0 (Row K24 (.slice A25 y19.length c27) xs42 :: Row K24 (.slice A34 y28.length c36) xs66 :: MpI Try.prog 3 3 b37 mm67 :: Row K24 (.slice A94 y88.length c96) y88 :: Γ) w) hl100 ⟨0, [], rfl, rfl, rfl, upk (ac rfl (ac rfl (ac rfl (ac rfl (ac rfl (ac rfl (ac rfl an))))))), H93.u3.u3.u3⟩ ?_
      rintro m ys105 IH109 s ρ w ⟨i101, dn102, rfl, hxs103, hi104, ⟨base, rfl⟩, H97⟩ hm
      rcases ys105 with _ | ⟨y106, ys105⟩
      · rw [scutagelaw25_FxAdds.l3] at hm
        have hb110 := range_end hxs103 hi104
        refine st_seq ?_
        refine st_region ?_
        refine r_pure (.bool (decide (i101 < (y88.length : Int)))) rfl ?_
        refine r_seq ?_
        refine st_seq ?_
        refine st_condf hb110 rfl ?_
        have hq_ := Option.some.inj hm
        refine st_exit rfl ?_
        subst hq_
        refine n_sq ?_
        refine st_cut (fun ρ w => ∃ q117 : Bool, (∃ base, ρ = updl base [(6, .bool q117)]) ∧ Hp w0 (Γ) w ∧ scutagelaw25_FxAdds.j1 q117 = some r0_) ?_ ?_
        · refine st_region ?_
          refine r_pure (.slice A94 y88.length c96) rfl ?_
          refine r_len Try.underlying25 rfl ?_
          refine r_pure (.map (some b37)) rfl ?_
          refine r_maplen MT39 rfl H97.g2 ?_
          refine r_pure (.bool ((y88.length : Int) == (mm67.length : Int))) rfl ?_
          refine r_pure (.bool ((y88.length : Int) == (mm67.length : Int))) rfl ?_
          rcases ite_some hm98 with ⟨hb119, hm⟩ | ⟨hb119, hm⟩
          · refine r_pure (.slice A94 y88.length c96) rfl ?_ (wn_t rfl rfl (by decide) rfl hb119)
            refine r_pure (.slice A34 y28.length c36) rfl ?_ (wn_t rfl rfl (by decide) rfl hb119)
            refine r_pure (.slice A25 y19.length c27) rfl ?_ (wn_t rfl rfl (by decide) rfl hb119)
            obtain ⟨y120, hy121, hm⟩ := bind_some hm
            refine r_callf Try.call8 (fx_Add_ok xs66 A34 y28.length c36 (((H97).g1).leneq) (((H97).g1).cap) (fun _ H => (H.g1.rd)) xs42 A25 y19.length c27 (((H97).g0).leneq) (((H97).g0).cap) (fun _ H => (H.g0.rd)) y120 H97 hy121) ?_ (wn_t rfl rfl (by decide) rfl hb119)
            rintro e123 wd122 ⟨A126, n127, c128, rfl, H125⟩
            obtain rfl := (H125.g0).leneq
            refine ⟨_, rfl, ?_⟩
            obtain ⟨y129, hy130, hm⟩ := bind_some hm
            refine r_callf Try.call13 (scutagekeep_Same_api_Item_ok y88 A94 y88.length c96 rfl (((H125).g4).cap) (fun _ H => (H.g4.rd)) y120 A126 y120.length c128 rfl (((H125).g0).cap) (fun _ H => (H.g0.rd)) y129 H125 hy130) ?_ (wn_t rfl rfl (by decide) rfl hb119)
            rintro e132 wd131 ⟨rfl, H134⟩
            refine ⟨_, rfl, ?_⟩
            refine r_pick_t (.bool y129) hb119 rfl rfl ?_
            refine r_pure (.bool y129) rfl ?_
            rcases ite_some hm with ⟨hb135, hm⟩ | ⟨hb135, hm⟩
            · refine r_pure (.slice A94 y88.length c96) rfl ?_ (wn_t rfl rfl (by decide) rfl hb135)
              obtain ⟨y136, hy137, hm⟩ := bind_some hm
              refine r_callf Try.call8 (fx_Add_ok y88 A94 y88.length c96 rfl (((H134).g4).cap) (fun _ H => (H.g4.rd)) ([] : List api_Item) none 0 0 rfl (Nat.le_refl _) (fun _ H => (SlR.nil _ _ _)) y136 H134 hy137) ?_ (wn_t rfl rfl (by decide) rfl hb135)
              rintro e139 wd138 ⟨A142, n143, c144, rfl, H141⟩
              obtain rfl := (H141.g0).leneq
              refine ⟨_, rfl, ?_⟩
              refine r_pure (.slice A94 y88.length c96) rfl ?_ (wn_t rfl rfl (by decide) rfl hb135)
              obtain ⟨y145, hy146, hm⟩ := bind_some hm
              refine r_callf Try.call13 (scutagekeep_Same_api_Item_ok y136 A142 y136.length c144 rfl (((H141).g0).cap) (fun _ H => (H.g0.rd)) y88 A94 y88.length c96 rfl (((H141).g5).cap) (fun _ H => (H.g5.rd)) y145 H141 hy146) ?_ (wn_t rfl rfl (by decide) rfl hb135)
              rintro e148 wd147 ⟨rfl, H150⟩
              refine ⟨_, rfl, ?_⟩
              refine r_pick_t (.bool y145) hb135 rfl rfl ?_
              refine r_pure (.bool y145) rfl ?_
              rcases ite_some hm with ⟨hb151, hm⟩ | ⟨hb151, hm⟩
              · obtain ⟨y152, hy153, hm⟩ := bind_some hm
                refine r_callf Try.call9 (scutagelaw25_wakes_ok  y152 H150 hy153) ?_ (wn_t rfl rfl (by decide) rfl hb151)
                rintro e155 wd154 ⟨rfl, H157⟩
                refine ⟨_, rfl, ?_⟩
                refine r_pick_t (.bool y152) hb151 rfl rfl ?_
                refine r_pure (.bool y152) rfl ?_
                refine r_nil ?_
                refine n_cut ⟨y152, upk (ac rfl an), H157.d.d.d.d.d.d, hm⟩
              · refine r_not (wn_f rfl rfl (by decide) rfl hb151) ?_
                refine r_pick_f (.bool false) hb151 rfl rfl ?_
                refine r_pure (.bool false) rfl ?_
                refine r_nil ?_
                refine n_cut ⟨false, upk (ac rfl an), H150.d.d.d.d.d.d, hm⟩
            · refine r_not (wn_f rfl rfl (by decide) rfl hb135) ?_
              refine r_not (wn_f rfl rfl (by decide) rfl hb135) ?_
              refine r_not (wn_f rfl rfl (by decide) rfl hb135) ?_
              refine r_not (wn_f rfl rfl (by decide) rfl hb135) ?_
              refine r_pick_f (.bool false) hb135 rfl rfl ?_
              refine r_pure (.bool false) rfl ?_
              refine r_not (wn_f rfl rfl (by decide) rfl rfl) ?_
              refine r_pick_f (.bool false) rfl rfl rfl ?_
              refine r_pure (.bool false) rfl ?_
              refine r_nil ?_
              refine n_cut ⟨false, upk (ac rfl an), H134.d.d.d.d.d, hm⟩
          · refine r_not (wn_f rfl rfl (by decide) rfl hb119) ?_
            refine r_not (wn_f rfl rfl (by decide) rfl hb119) ?_
            refine r_not (wn_f rfl rfl (by decide) rfl hb119) ?_
            refine r_not (wn_f rfl rfl (by decide) rfl hb119) ?_
            refine r_not (wn_f rfl rfl (by decide) rfl hb119) ?_
            refine r_pick_f (.bool false) hb119 rfl rfl ?_
            refine r_pure (.bool false) rfl ?_
            refine r_not (wn_f rfl rfl (by decide) rfl rfl) ?_
            refine r_not (wn_f rfl rfl (by decide) rfl rfl) ?_
            refine r_not (wn_f rfl rfl (by decide) rfl rfl) ?_
            refine r_not (wn_f rfl rfl (by decide) rfl rfl) ?_
            refine r_pick_f (.bool false) rfl rfl rfl ?_
            refine r_pure (.bool false) rfl ?_
            refine r_not (wn_f rfl rfl (by decide) rfl rfl) ?_
            refine r_pick_f (.bool false) rfl rfl rfl ?_
            refine r_pure (.bool false) rfl ?_
            refine r_nil ?_
            refine n_cut ⟨false, upk (ac rfl an), H97.d.d.d.d, hm⟩
        · rintro ρ w ⟨q117, ⟨base, rfl⟩, H118, hm⟩
          unfold scutagelaw25_FxAdds.j1 at hm
          have hq_ := Option.some.inj hm
          subst hq_
          refine st_ret1 rfl rfl (Nat.le_of_ble_eq_true rfl) rfl ?_
          exact ⟨rfl, H118⟩
      · rw [scutagelaw25_FxAdds.l3] at hm
        have hb111 := range_in hxs103 hi104
        obtain ⟨h0112, h1113, hj114⟩ := range_ix hxs103 hi104
        have hnx115 := range_next hxs103 hi104 hlim116
        refine st_seq ?_
        refine st_region ?_
        refine r_pure (.bool (decide (i101 < (y88.length : Int)))) rfl ?_
        refine r_seq ?_
        refine st_seq ?_
        refine st_condt hb111 rfl ?_
        refine st_skip ?_
        refine n_sq ?_
        refine st_seq ?_
        refine st_block ?_
        refine st_seq ?_
        refine st_region ?_
        refine r_pure (.int .i64 i101) rfl ?_
        have hA158 := (H97.g3.rd).adO hj114
        refine r_ix IX25 rfl rfl hA158 h0112 h1113 ?_
        refine r_ldA [.int .i64 y106.Kind, .int .i64 y106.Amount] LD24 rfl rfl ((H97.g3.rd).csA hA158 hj114) ?_
        refine r_alloc [.int .i64 0, .int .i64 0] Try.zeroValue24 H97 rfl ?_
        intro b159 wd161 H160
        refine r_pure (.int .i64 i101) rfl ?_
        refine r_stA [.int .i64 y106.Kind, .int .i64 y106.Amount] LD24 rfl rfl rfl rfl H160 (Nat.le_of_ble_eq_true rfl) rfl ?_
        intro wd163 H162
        refine r_seq ?_
        refine st_cut (fun ρ w => ∃ q164 : Bool, (∃ base, ρ = updl base [(7, .slice A25 y19.length c27), (8, .slice A34 y28.length c36), (9, .map (some b37)), (12, .slice A94 y88.length c96), (79, .slice A94 y88.length c96), (80, .int .i64 (y88.length : Int)), (81, .int .i64 i101), (107, .bool q164)]) ∧ Hp w0 (Row K24 (.slice A25 y19.length c27) xs42 :: Row K24 (.slice A34 y28.length c36) xs66 :: MpI Try.prog 3 3 b37 mm67 :: Row K24 (.slice A94 y88.length c96) y88 :: Γ) w ∧ scutagelaw25_FxAdds.j2 (scutagelaw25_FxAdds.l3 y88 mm67 ys105) i101 q164 = some tl99) ?_ ?_
        · rcases ite_some hm with ⟨hb168, hm⟩ | ⟨hb168, hm⟩
          · obtain ⟨⟨h0169, h1170⟩, hm⟩ := gd_some hm
            have hj171 := rd_get h0169 h1170
            rcases ite_some hm with ⟨hb172, hm⟩ | ⟨hb172, hm⟩
            · refine Flow.run' [[], [0], [0, 1], [0, 1, 2], [0, 1, 2, 3], [0, 1, 2], [0, 1, 2], [0, 1, 2, 6], [0, 1, 2, 5, 6, 7], [0, 1, 2, 5, 6, 7, 8], [0, 1, 2, 5, 6, 7, 8, 9], [0, 1, 2, 3, 4, 5, 6, 7, 8, 9, 10], [0, 1, 2, 3, 4, 5, 6, 7, 8, 9, 10, 11], [0, 1, 2, 3, 4, 5, 6, 7, 8, 9, 10, 11, 12], [0, 1, 2, 3, 4, 5, 6, 7, 8, 9, 10, 11, 12, 13], [0, 1, 2, 3, 4, 5, 6, 7, 8, 9, 10, 11, 12, 13, 14], [0, 1, 2, 3, 4, 5, 6, 7, 8, 9, 10, 11, 12, 13], [0, 1, 2, 3, 4, 5, 6, 7, 8, 9, 10, 11, 12, 13], [0, 1, 2, 3, 4, 5, 6, 7, 8, 9, 10, 11, 12, 13, 17], [0, 1, 2, 3, 4, 5, 6, 7, 8, 9, 10, 11, 12, 13, 16, 17, 18], [0, 1, 2, 3, 4, 5, 6, 7, 8, 9, 10, 11, 12, 13, 14, 15, 16, 17, 18, 19], [0, 1, 2, 3, 4, 5, 6, 7, 8, 9, 10, 11, 12, 13, 14, 15, 16, 17, 18, 19, 20]] [(86, 0), (87, 1), (88, 2), (89, 3), (90, 4), (91, 5), (92, 6), (93, 7), (94, 8), (95, 9), (96, 10), (97, 11), (98, 12), (99, 13), (100, 14), (101, 15), (102, 16), (103, 17), (104, 18), (105, 19), (106, 20), (107, 21)] [(fun η167 v => v.1 = .int .i64 i101), (fun η167 v => v.1 = .bool (decide (i101 > 0))), (fun η167 v => v.1 = .bool (decide (i101 > 0))), (fun η167 v => v.1 = .pointer (some ⟨b159, 0, none⟩)), (fun η167 v => v.1 = .int .i64 y106.Kind), (fun η167 v => v.1 = .slice A94 y88.length c96), (fun η167 v => v.1 = .int .i64 i101), (fun η167 v => v.1 = .int .i64 (w64 (i101 - 1))), (fun η167 v => v.1 = .pointer (some ((oA A94).add (Int.toNat (w64 (i101 - 1)) * 2)))), (fun η167 v => v.1 = .pointer (some (((oA A94).add (Int.toNat (w64 (i101 - 1)) * 2)).add 0))), (fun η167 v => v.1 = .int .i64 ((rd y88 (w64 (i101 - 1))).Kind)), (fun η167 v => v.1 = .bool (decide (y106.Kind ≤ (rd y88 (w64 (i101 - 1))).Kind))), (fun η167 v => v.1 = .bool (decide (y106.Kind ≤ (rd y88 (w64 (i101 - 1))).Kind))), (fun η167 v => v.1 = .bool (decide (y106.Kind ≤ (rd y88 (w64 (i101 - 1))).Kind))), (fun η167 v => v.1 = undef), (fun η167 v => v.1 = undef), (fun η167 v => v.1 = undef), (fun η167 v => v.1 = undef), (fun η167 v => v.1 = undef), (fun η167 v => v.1 = undef), (fun η167 v => v.1 = undef), (fun η167 v => v.1 = .bool true)] [] rfl (by kernel_rfl) (by kernel_rfl) H162 ⟨?_, ?_, ?_, ?_, ?_, ?_, ?_, ?_, ?_, ?_, ?_, ?_, ?_, ?_, ?_, ?_, ?_, ?_, ?_, ?_, ?_, ?_, trivial⟩ ?_
              · intro η167 wd176 Δ177 hE173 hR174 H175
                have H175 : Hp w0 ((Δ177 ++ (Bx b159 24 [.int .i64 y106.Kind, .int .i64 y106.Amount] :: Row K24 (.slice A25 y19.length c27) xs42 :: Row K24 (.slice A34 y28.length c36) xs66 :: MpI Try.prog 3 3 b37 mm67 :: Row K24 (.slice A94 y88.length c96) y88 :: Γ))) wd176 := H175
                refine sp_op [(13, .int .i64 i101)] (ac rfl an) ?_
                refine r_pure (.int .i64 i101) rfl ?_
                exact r_nil (n_lp ⟨_, rfl, undef, rfl, H175⟩)
              · intro η167 wd181 Δ182 hE178 hR179 H180
                have H180 : Hp w0 ((Δ182 ++ (Bx b159 24 [.int .i64 y106.Kind, .int .i64 y106.Amount] :: Row K24 (.slice A25 y19.length c27) xs42 :: Row K24 (.slice A34 y28.length c36) xs66 :: MpI Try.prog 3 3 b37 mm67 :: Row K24 (.slice A94 y88.length c96) y88 :: Γ))) wd181 := H180
                refine sp_op [(86, .int .i64 i101)] (ac (hE178 0 (by decide)) an) ?_
                refine r_pure (.bool (decide (i101 > 0))) rfl ?_
                exact r_nil (n_lp ⟨_, rfl, undef, rfl, H180⟩)
              · intro η167 wd186 Δ187 hE183 hR184 H185
                have H185 : Hp w0 ((Δ187 ++ (Bx b159 24 [.int .i64 y106.Kind, .int .i64 y106.Amount] :: Row K24 (.slice A25 y19.length c27) xs42 :: Row K24 (.slice A34 y28.length c36) xs66 :: MpI Try.prog 3 3 b37 mm67 :: Row K24 (.slice A94 y88.length c96) y88 :: Γ))) wd186 := H185
                refine sp_op [(87, .bool (decide (i101 > 0)))] (ac (hE183 1 (by decide)) an) ?_
                refine r_pure (.bool (decide (i101 > 0))) rfl ?_
                exact r_nil (n_lp ⟨_, rfl, undef, rfl, H185⟩)
              · intro η167 wd191 Δ192 hE188 hR189 H190
                have H190 : Hp w0 ((Δ192 ++ (Bx b159 24 [.int .i64 y106.Kind, .int .i64 y106.Amount] :: Row K24 (.slice A25 y19.length c27) xs42 :: Row K24 (.slice A34 y28.length c36) xs66 :: MpI Try.prog 3 3 b37 mm67 :: Row K24 (.slice A94 y88.length c96) y88 :: Γ))) wd191 := H190
                refine sp_op [(14, .pointer (some ⟨b159, 0, none⟩)), (88, .bool (decide (i101 > 0)))] (ac rfl (ac (hE188 2 (by decide)) an)) ?_
                refine r_fa FA24_0 ⟨b159, 0, none⟩ rfl rfl ?_ (wn_t rfl rfl (by decide) rfl hb168)
                exact r_nil (n_lp ⟨_, rfl, undef, rfl, H190⟩)
              · intro η167 wd196 Δ197 hE193 hR194 H195
                have H195 : Hp w0 ((Δ197 ++ (Bx b159 24 [.int .i64 y106.Kind, .int .i64 y106.Amount] :: Row K24 (.slice A25 y19.length c27) xs42 :: Row K24 (.slice A34 y28.length c36) xs66 :: MpI Try.prog 3 3 b37 mm67 :: Row K24 (.slice A94 y88.length c96) y88 :: Γ))) wd196 := H195
                refine sp_op [(88, .bool (decide (i101 > 0))), (89, .pointer (some ⟨b159, 0, none⟩))] (ac (hE193 2 (by decide)) (ac (hE193 3 (by decide)) an)) ?_
                refine r_ld1 (.int .i64 y106.Kind) LD3 rfl (((H195).tl.g0).cell _ rfl) ?_ (wn_t rfl rfl (by decide) rfl hb168)
                exact r_nil (n_lp ⟨_, rfl, undef, rfl, H195⟩)
              · intro η167 wd201 Δ202 hE198 hR199 H200
                have H200 : Hp w0 ((Δ202 ++ (Bx b159 24 [.int .i64 y106.Kind, .int .i64 y106.Amount] :: Row K24 (.slice A25 y19.length c27) xs42 :: Row K24 (.slice A34 y28.length c36) xs66 :: MpI Try.prog 3 3 b37 mm67 :: Row K24 (.slice A94 y88.length c96) y88 :: Γ))) wd201 := H200
                refine sp_op [(12, .slice A94 y88.length c96), (88, .bool (decide (i101 > 0)))] (ac rfl (ac (hE198 2 (by decide)) an)) ?_
                refine r_pure (.slice A94 y88.length c96) rfl ?_ (wn_t rfl rfl (by decide) rfl hb168)
                exact r_nil (n_lp ⟨_, rfl, undef, rfl, H200⟩)
              · intro η167 wd206 Δ207 hE203 hR204 H205
                have H205 : Hp w0 ((Δ207 ++ (Bx b159 24 [.int .i64 y106.Kind, .int .i64 y106.Amount] :: Row K24 (.slice A25 y19.length c27) xs42 :: Row K24 (.slice A34 y28.length c36) xs66 :: MpI Try.prog 3 3 b37 mm67 :: Row K24 (.slice A94 y88.length c96) y88 :: Γ))) wd206 := H205
                refine sp_op [(13, .int .i64 i101), (88, .bool (decide (i101 > 0)))] (ac rfl (ac (hE203 2 (by decide)) an)) ?_
                refine r_pure (.int .i64 i101) rfl ?_ (wn_t rfl rfl (by decide) rfl hb168)
                exact r_nil (n_lp ⟨_, rfl, undef, rfl, H205⟩)
              · intro η167 wd211 Δ212 hE208 hR209 H210
                have H210 : Hp w0 ((Δ212 ++ (Bx b159 24 [.int .i64 y106.Kind, .int .i64 y106.Amount] :: Row K24 (.slice A25 y19.length c27) xs42 :: Row K24 (.slice A34 y28.length c36) xs66 :: MpI Try.prog 3 3 b37 mm67 :: Row K24 (.slice A94 y88.length c96) y88 :: Γ))) wd211 := H210
                refine sp_op [(88, .bool (decide (i101 > 0))), (92, .int .i64 i101)] (ac (hE208 2 (by decide)) (ac (hE208 6 (by decide)) an)) ?_
                refine r_pure (.int .i64 (w64 (i101 - 1))) rfl ?_ (wn_t rfl rfl (by decide) rfl hb168)
                exact r_nil (n_lp ⟨_, rfl, undef, rfl, H210⟩)
              · intro η167 wd216 Δ217 hE213 hR214 H215
                have H215 : Hp w0 ((Δ217 ++ (Bx b159 24 [.int .i64 y106.Kind, .int .i64 y106.Amount] :: Row K24 (.slice A25 y19.length c27) xs42 :: Row K24 (.slice A34 y28.length c36) xs66 :: MpI Try.prog 3 3 b37 mm67 :: Row K24 (.slice A94 y88.length c96) y88 :: Γ))) wd216 := H215
                refine sp_op [(88, .bool (decide (i101 > 0))), (91, .slice A94 y88.length c96), (93, .int .i64 (w64 (i101 - 1)))] (ac (hE213 2 (by decide)) (ac (hE213 5 (by decide)) (ac (hE213 7 (by decide)) an))) ?_
                refine r_ix IX25 rfl rfl hA158 h0169 h1170 ?_ (wn_t rfl rfl (by decide) rfl hb168)
                exact r_nil (n_lp ⟨_, rfl, undef, rfl, H215⟩)
              · intro η167 wd224 Δ225 hE221 hR222 H223
                have H223 : Hp w0 ((Δ225 ++ (Bx b159 24 [.int .i64 y106.Kind, .int .i64 y106.Amount] :: Row K24 (.slice A25 y19.length c27) xs42 :: Row K24 (.slice A34 y28.length c36) xs66 :: MpI Try.prog 3 3 b37 mm67 :: Row K24 (.slice A94 y88.length c96) y88 :: Γ))) wd224 := H223
                refine sp_op [(88, .bool (decide (i101 > 0))), (94, .pointer (some ((oA A94).add (Int.toNat (w64 (i101 - 1)) * 2))))] (ac (hE221 2 (by decide)) (ac (hE221 8 (by decide)) an)) ?_
                refine r_fa FA24_0 (((oA A94).add (Int.toNat (w64 (i101 - 1)) * 2)).add 0) rfl rfl ?_ (wn_t rfl rfl (by decide) rfl hb168)
                exact r_nil (n_lp ⟨_, rfl, undef, rfl, H223⟩)
              · intro η167 wd229 Δ230 hE226 hR227 H228
                have H228 : Hp w0 ((Δ230 ++ (Bx b159 24 [.int .i64 y106.Kind, .int .i64 y106.Amount] :: Row K24 (.slice A25 y19.length c27) xs42 :: Row K24 (.slice A34 y28.length c36) xs66 :: MpI Try.prog 3 3 b37 mm67 :: Row K24 (.slice A94 y88.length c96) y88 :: Γ))) wd229 := H228
                refine sp_op [(88, .bool (decide (i101 > 0))), (95, .pointer (some (((oA A94).add (Int.toNat (w64 (i101 - 1)) * 2)).add 0)))] (ac (hE226 2 (by decide)) (ac (hE226 9 (by decide)) an)) ?_
                refine r_ld1 (.int .i64 ((rd y88 (w64 (i101 - 1))).Kind)) LD3 rfl (((H228).tl.g4.rd).cA hA158 hj171 0 _ rfl) ?_ (wn_t rfl rfl (by decide) rfl hb168)
                exact r_nil (n_lp ⟨_, rfl, undef, rfl, H228⟩)
              · intro η167 wd234 Δ235 hE231 hR232 H233
                have H233 : Hp w0 ((Δ235 ++ (Bx b159 24 [.int .i64 y106.Kind, .int .i64 y106.Amount] :: Row K24 (.slice A25 y19.length c27) xs42 :: Row K24 (.slice A34 y28.length c36) xs66 :: MpI Try.prog 3 3 b37 mm67 :: Row K24 (.slice A94 y88.length c96) y88 :: Γ))) wd234 := H233
                refine sp_op [(88, .bool (decide (i101 > 0))), (90, .int .i64 y106.Kind), (96, .int .i64 ((rd y88 (w64 (i101 - 1))).Kind))] (ac (hE231 2 (by decide)) (ac (hE231 4 (by decide)) (ac (hE231 10 (by decide)) an))) ?_
                refine r_pure (.bool (decide (y106.Kind ≤ (rd y88 (w64 (i101 - 1))).Kind))) rfl ?_ (wn_t rfl rfl (by decide) rfl hb168)
                exact r_nil (n_lp ⟨_, rfl, undef, rfl, H233⟩)
              · intro η167 wd239 Δ240 hE236 hR237 H238
                have H238 : Hp w0 ((Δ240 ++ (Bx b159 24 [.int .i64 y106.Kind, .int .i64 y106.Amount] :: Row K24 (.slice A25 y19.length c27) xs42 :: Row K24 (.slice A34 y28.length c36) xs66 :: MpI Try.prog 3 3 b37 mm67 :: Row K24 (.slice A94 y88.length c96) y88 :: Γ))) wd239 := H238
                refine sp_op [(88, .bool (decide (i101 > 0))), (97, .bool (decide (y106.Kind ≤ (rd y88 (w64 (i101 - 1))).Kind)))] (ac (hE236 2 (by decide)) (ac (hE236 11 (by decide)) an)) ?_
                refine r_pick_t (.bool (decide (y106.Kind ≤ (rd y88 (w64 (i101 - 1))).Kind))) hb168 rfl rfl ?_
                exact r_nil (n_lp ⟨_, rfl, undef, rfl, H238⟩)
              · intro η167 wd244 Δ245 hE241 hR242 H243
                have H243 : Hp w0 ((Δ245 ++ (Bx b159 24 [.int .i64 y106.Kind, .int .i64 y106.Amount] :: Row K24 (.slice A25 y19.length c27) xs42 :: Row K24 (.slice A34 y28.length c36) xs66 :: MpI Try.prog 3 3 b37 mm67 :: Row K24 (.slice A94 y88.length c96) y88 :: Γ))) wd244 := H243
                refine sp_op [(98, .bool (decide (y106.Kind ≤ (rd y88 (w64 (i101 - 1))).Kind)))] (ac (hE241 12 (by decide)) an) ?_
                refine r_pure (.bool (decide (y106.Kind ≤ (rd y88 (w64 (i101 - 1))).Kind))) rfl ?_
                exact r_nil (n_lp ⟨_, rfl, undef, rfl, H243⟩)
              · intro η167 wd249 Δ250 hE246 hR247 H248
                have H248 : Hp w0 ((Δ250 ++ (Bx b159 24 [.int .i64 y106.Kind, .int .i64 y106.Amount] :: Row K24 (.slice A25 y19.length c27) xs42 :: Row K24 (.slice A34 y28.length c36) xs66 :: MpI Try.prog 3 3 b37 mm67 :: Row K24 (.slice A94 y88.length c96) y88 :: Γ))) wd249 := H248
                refine sp_op [(14, .pointer (some ⟨b159, 0, none⟩)), (99, .bool (decide (y106.Kind ≤ (rd y88 (w64 (i101 - 1))).Kind)))] (ac rfl (ac (hE246 13 (by decide)) an)) ?_
                refine r_not (wn_f rfl rfl (by decide) rfl hb172) ?_
                exact r_nil (n_lp ⟨_, rfl, undef, rfl, H248⟩)
              · intro η167 wd254 Δ255 hE251 hR252 H253
                have H253 : Hp w0 ((Δ255 ++ (Bx b159 24 [.int .i64 y106.Kind, .int .i64 y106.Amount] :: Row K24 (.slice A25 y19.length c27) xs42 :: Row K24 (.slice A34 y28.length c36) xs66 :: MpI Try.prog 3 3 b37 mm67 :: Row K24 (.slice A94 y88.length c96) y88 :: Γ))) wd254 := H253
                refine sp_op [(99, .bool (decide (y106.Kind ≤ (rd y88 (w64 (i101 - 1))).Kind))), (100, undef)] (ac (hE251 13 (by decide)) (ac (hE251 14 (by decide)) an)) ?_
                refine r_not (wn_f rfl rfl (by decide) rfl hb172) ?_
                exact r_nil (n_lp ⟨_, rfl, undef, rfl, H253⟩)
              · intro η167 wd259 Δ260 hE256 hR257 H258
                have H258 : Hp w0 ((Δ260 ++ (Bx b159 24 [.int .i64 y106.Kind, .int .i64 y106.Amount] :: Row K24 (.slice A25 y19.length c27) xs42 :: Row K24 (.slice A34 y28.length c36) xs66 :: MpI Try.prog 3 3 b37 mm67 :: Row K24 (.slice A94 y88.length c96) y88 :: Γ))) wd259 := H258
                refine sp_op [(9, .map (some b37)), (99, .bool (decide (y106.Kind ≤ (rd y88 (w64 (i101 - 1))).Kind)))] (ac rfl (ac (hE256 13 (by decide)) an)) ?_
                refine r_not (wn_f rfl rfl (by decide) rfl hb172) ?_
                exact r_nil (n_lp ⟨_, rfl, undef, rfl, H258⟩)
              · intro η167 wd264 Δ265 hE261 hR262 H263
                have H263 : Hp w0 ((Δ265 ++ (Bx b159 24 [.int .i64 y106.Kind, .int .i64 y106.Amount] :: Row K24 (.slice A25 y19.length c27) xs42 :: Row K24 (.slice A34 y28.length c36) xs66 :: MpI Try.prog 3 3 b37 mm67 :: Row K24 (.slice A94 y88.length c96) y88 :: Γ))) wd264 := H263
                refine sp_op [(14, .pointer (some ⟨b159, 0, none⟩)), (99, .bool (decide (y106.Kind ≤ (rd y88 (w64 (i101 - 1))).Kind)))] (ac rfl (ac (hE261 13 (by decide)) an)) ?_
                refine r_not (wn_f rfl rfl (by decide) rfl hb172) ?_
                exact r_nil (n_lp ⟨_, rfl, undef, rfl, H263⟩)
              · intro η167 wd269 Δ270 hE266 hR267 H268
                have H268 : Hp w0 ((Δ270 ++ (Bx b159 24 [.int .i64 y106.Kind, .int .i64 y106.Amount] :: Row K24 (.slice A25 y19.length c27) xs42 :: Row K24 (.slice A34 y28.length c36) xs66 :: MpI Try.prog 3 3 b37 mm67 :: Row K24 (.slice A94 y88.length c96) y88 :: Γ))) wd269 := H268
                refine sp_op [(99, .bool (decide (y106.Kind ≤ (rd y88 (w64 (i101 - 1))).Kind))), (103, undef)] (ac (hE266 13 (by decide)) (ac (hE266 17 (by decide)) an)) ?_
                refine r_not (wn_f rfl rfl (by decide) rfl hb172) ?_
                exact r_nil (n_lp ⟨_, rfl, undef, rfl, H268⟩)
              · intro η167 wd274 Δ275 hE271 hR272 H273
                have H273 : Hp w0 ((Δ275 ++ (Bx b159 24 [.int .i64 y106.Kind, .int .i64 y106.Amount] :: Row K24 (.slice A25 y19.length c27) xs42 :: Row K24 (.slice A34 y28.length c36) xs66 :: MpI Try.prog 3 3 b37 mm67 :: Row K24 (.slice A94 y88.length c96) y88 :: Γ))) wd274 := H273
                refine sp_op [(99, .bool (decide (y106.Kind ≤ (rd y88 (w64 (i101 - 1))).Kind))), (102, undef), (104, undef)] (ac (hE271 13 (by decide)) (ac (hE271 16 (by decide)) (ac (hE271 18 (by decide)) an))) ?_
                refine r_not (wn_f rfl rfl (by decide) rfl hb172) ?_
                exact r_nil (n_lp ⟨_, rfl, undef, rfl, H273⟩)
              · intro η167 wd279 Δ280 hE276 hR277 H278
                have H278 : Hp w0 ((Δ280 ++ (Bx b159 24 [.int .i64 y106.Kind, .int .i64 y106.Amount] :: Row K24 (.slice A25 y19.length c27) xs42 :: Row K24 (.slice A34 y28.length c36) xs66 :: MpI Try.prog 3 3 b37 mm67 :: Row K24 (.slice A94 y88.length c96) y88 :: Γ))) wd279 := H278
                refine sp_op [(99, .bool (decide (y106.Kind ≤ (rd y88 (w64 (i101 - 1))).Kind))), (101, undef), (105, undef)] (ac (hE276 13 (by decide)) (ac (hE276 15 (by decide)) (ac (hE276 19 (by decide)) an))) ?_
                refine r_not (wn_f rfl rfl (by decide) rfl hb172) ?_
                exact r_nil (n_lp ⟨_, rfl, undef, rfl, H278⟩)
              · intro η167 wd284 Δ285 hE281 hR282 H283
                have H283 : Hp w0 ((Δ285 ++ (Bx b159 24 [.int .i64 y106.Kind, .int .i64 y106.Amount] :: Row K24 (.slice A25 y19.length c27) xs42 :: Row K24 (.slice A34 y28.length c36) xs66 :: MpI Try.prog 3 3 b37 mm67 :: Row K24 (.slice A94 y88.length c96) y88 :: Γ))) wd284 := H283
                refine sp_op [(99, .bool (decide (y106.Kind ≤ (rd y88 (w64 (i101 - 1))).Kind))), (106, undef)] (ac (hE281 13 (by decide)) (ac (hE281 20 (by decide)) an)) ?_
                refine r_pick_t (.bool true) hb172 rfl rfl ?_
                exact r_nil (n_lp ⟨_, rfl, undef, rfl, H283⟩)
              · intro η167 wd287 hV288 H286
                have H289 : Hp w0 (Bx b159 24 [.int .i64 y106.Kind, .int .i64 y106.Amount] :: Row K24 (.slice A25 y19.length c27) xs42 :: Row K24 (.slice A34 y28.length c36) xs66 :: MpI Try.prog 3 3 b37 mm67 :: Row K24 (.slice A94 y88.length c96) y88 :: Γ) wd287 := H286
                refine n_frame [(7, .slice A25 y19.length c27), (8, .slice A34 y28.length c36), (9, .map (some b37)), (12, .slice A94 y88.length c96), (79, .slice A94 y88.length c96), (80, .int .i64 (y88.length : Int)), (81, .int .i64 i101), (89, .pointer (some ⟨b159, 0, none⟩)), (90, .int .i64 y106.Kind), (91, .slice A94 y88.length c96), (92, .int .i64 i101), (93, .int .i64 (w64 (i101 - 1))), (94, .pointer (some ((oA A94).add (Int.toNat (w64 (i101 - 1)) * 2)))), (95, .pointer (some (((oA A94).add (Int.toNat (w64 (i101 - 1)) * 2)).add 0))), (96, .int .i64 ((rd y88 (w64 (i101 - 1))).Kind)), (97, .bool (decide (y106.Kind ≤ (rd y88 (w64 (i101 - 1))).Kind))), (100, undef), (101, undef), (102, undef), (103, undef), (104, undef), (105, undef), (106, undef), (107, .bool true)] (ac rfl (ac rfl (ac rfl (ac rfl (ac rfl (ac rfl (ac rfl (ac (hV288 3 rfl) (ac (hV288 4 rfl) (ac (hV288 5 rfl) (ac (hV288 6 rfl) (ac (hV288 7 rfl) (ac (hV288 8 rfl) (ac (hV288 9 rfl) (ac (hV288 10 rfl) (ac (hV288 11 rfl) (ac (hV288 14 rfl) (ac (hV288 15 rfl) (ac (hV288 16 rfl) (ac (hV288 17 rfl) (ac (hV288 18 rfl) (ac (hV288 19 rfl) (ac (hV288 20 rfl) (ac (hV288 21 rfl) an)))))))))))))))))))))))) ?_
                refine n_cut ⟨true, upk (ac rfl (ac rfl (ac rfl (ac rfl (ac rfl (ac rfl (ac rfl (ac rfl an)))))))), H289.d.u3.u3.u3.u3, hm⟩
            · obtain ⟨h290, hm⟩ := gd_some hm
              refine Flow.run' [[], [0], [0, 1], [0, 1, 2], [0, 1, 2, 3], [0, 1, 2], [0, 1, 2], [0, 1, 2, 6], [0, 1, 2, 5, 6, 7], [0, 1, 2, 5, 6, 7, 8], [0, 1, 2, 5, 6, 7, 8, 9], [0, 1, 2, 3, 4, 5, 6, 7, 8, 9, 10], [0, 1, 2, 3, 4, 5, 6, 7, 8, 9, 10, 11], [0, 1, 2, 3, 4, 5, 6, 7, 8, 9, 10, 11, 12], [0, 1, 2, 3, 4, 5, 6, 7, 8, 9, 10, 11, 12, 13], [0, 1, 2, 3, 4, 5, 6, 7, 8, 9, 10, 11, 12, 13, 14], [0, 1, 2, 3, 4, 5, 6, 7, 8, 9, 10, 11, 12, 13], [0, 1, 2, 3, 4, 5, 6, 7, 8, 9, 10, 11, 12, 13], [0, 1, 2, 3, 4, 5, 6, 7, 8, 9, 10, 11, 12, 13, 17], [0, 1, 2, 3, 4, 5, 6, 7, 8, 9, 10, 11, 12, 13, 16, 17, 18], [0, 1, 2, 3, 4, 5, 6, 7, 8, 9, 10, 11, 12, 13, 14, 15, 16, 17, 18, 19], [0, 1, 2, 3, 4, 5, 6, 7, 8, 9, 10, 11, 12, 13, 14, 15, 16, 17, 18, 19, 20]] [(86, 0), (87, 1), (88, 2), (89, 3), (90, 4), (91, 5), (92, 6), (93, 7), (94, 8), (95, 9), (96, 10), (97, 11), (98, 12), (99, 13), (100, 14), (101, 15), (102, 16), (103, 17), (104, 18), (105, 19), (106, 20), (107, 21)] [(fun η167 v => v.1 = .int .i64 i101), (fun η167 v => v.1 = .bool (decide (i101 > 0))), (fun η167 v => v.1 = .bool (decide (i101 > 0))), (fun η167 v => v.1 = .pointer (some ⟨b159, 0, none⟩)), (fun η167 v => v.1 = .int .i64 y106.Kind), (fun η167 v => v.1 = .slice A94 y88.length c96), (fun η167 v => v.1 = .int .i64 i101), (fun η167 v => v.1 = .int .i64 (w64 (i101 - 1))), (fun η167 v => v.1 = .pointer (some ((oA A94).add (Int.toNat (w64 (i101 - 1)) * 2)))), (fun η167 v => v.1 = .pointer (some (((oA A94).add (Int.toNat (w64 (i101 - 1)) * 2)).add 0))), (fun η167 v => v.1 = .int .i64 ((rd y88 (w64 (i101 - 1))).Kind)), (fun η167 v => v.1 = .bool (decide (y106.Kind ≤ (rd y88 (w64 (i101 - 1))).Kind))), (fun η167 v => v.1 = .bool (decide (y106.Kind ≤ (rd y88 (w64 (i101 - 1))).Kind))), (fun η167 v => v.1 = .bool (decide (y106.Kind ≤ (rd y88 (w64 (i101 - 1))).Kind))), (fun η167 v => v.1 = .pointer (some ⟨b159, 1, none⟩)), (fun η167 v => v.1 = .int .i64 y106.Amount), (fun η167 v => v.1 = .map (some b37)), (fun η167 v => v.1 = .pointer (some ⟨b159, 0, none⟩)), (fun η167 v => v.1 = .int .i64 y106.Kind), (fun η167 v => v.1 = .int .i64 (mgetD mm67 y106.Kind)), (fun η167 v => v.1 = .bool (y106.Amount != mgetD mm67 y106.Kind)), (fun η167 v => v.1 = .bool (y106.Amount != mgetD mm67 y106.Kind))] [] rfl (by kernel_rfl) (by kernel_rfl) H162 ⟨?_, ?_, ?_, ?_, ?_, ?_, ?_, ?_, ?_, ?_, ?_, ?_, ?_, ?_, ?_, ?_, ?_, ?_, ?_, ?_, ?_, ?_, trivial⟩ ?_
              · intro η167 wd294 Δ295 hE291 hR292 H293
                have H293 : Hp w0 ((Δ295 ++ (Bx b159 24 [.int .i64 y106.Kind, .int .i64 y106.Amount] :: Row K24 (.slice A25 y19.length c27) xs42 :: Row K24 (.slice A34 y28.length c36) xs66 :: MpI Try.prog 3 3 b37 mm67 :: Row K24 (.slice A94 y88.length c96) y88 :: Γ))) wd294 := H293
                refine sp_op [(13, .int .i64 i101)] (ac rfl an) ?_
                refine r_pure (.int .i64 i101) rfl ?_
                exact r_nil (n_lp ⟨_, rfl, undef, rfl, H293⟩)
              · intro η167 wd299 Δ300 hE296 hR297 H298
                have H298 : Hp w0 ((Δ300 ++ (Bx b159 24 [.int .i64 y106.Kind, .int .i64 y106.Amount] :: Row K24 (.slice A25 y19.length c27) xs42 :: Row K24 (.slice A34 y28.length c36) xs66 :: MpI Try.prog 3 3 b37 mm67 :: Row K24 (.slice A94 y88.length c96) y88 :: Γ))) wd299 := H298
                refine sp_op [(86, .int .i64 i101)] (ac (hE296 0 (by decide)) an) ?_
                refine r_pure (.bool (decide (i101 > 0))) rfl ?_
                exact r_nil (n_lp ⟨_, rfl, undef, rfl, H298⟩)
              · intro η167 wd304 Δ305 hE301 hR302 H303
                have H303 : Hp w0 ((Δ305 ++ (Bx b159 24 [.int .i64 y106.Kind, .int .i64 y106.Amount] :: Row K24 (.slice A25 y19.length c27) xs42 :: Row K24 (.slice A34 y28.length c36) xs66 :: MpI Try.prog 3 3 b37 mm67 :: Row K24 (.slice A94 y88.length c96) y88 :: Γ))) wd304 := H303
                refine sp_op [(87, .bool (decide (i101 > 0)))] (ac (hE301 1 (by decide)) an) ?_
                refine r_pure (.bool (decide (i101 > 0))) rfl ?_
                exact r_nil (n_lp ⟨_, rfl, undef, rfl, H303⟩)
              · intro η167 wd309 Δ310 hE306 hR307 H308
                have H308 : Hp w0 ((Δ310 ++ (Bx b159 24 [.int .i64 y106.Kind, .int .i64 y106.Amount] :: Row K24 (.slice A25 y19.length c27) xs42 :: Row K24 (.slice A34 y28.length c36) xs66 :: MpI Try.prog 3 3 b37 mm67 :: Row K24 (.slice A94 y88.length c96) y88 :: Γ))) wd309 := H308
                refine sp_op [(14, .pointer (some ⟨b159, 0, none⟩)), (88, .bool (decide (i101 > 0)))] (ac rfl (ac (hE306 2 (by decide)) an)) ?_
                refine r_fa FA24_0 ⟨b159, 0, none⟩ rfl rfl ?_ (wn_t rfl rfl (by decide) rfl hb168)
                exact r_nil (n_lp ⟨_, rfl, undef, rfl, H308⟩)
              · intro η167 wd314 Δ315 hE311 hR312 H313
                have H313 : Hp w0 ((Δ315 ++ (Bx b159 24 [.int .i64 y106.Kind, .int .i64 y106.Amount] :: Row K24 (.slice A25 y19.length c27) xs42 :: Row K24 (.slice A34 y28.length c36) xs66 :: MpI Try.prog 3 3 b37 mm67 :: Row K24 (.slice A94 y88.length c96) y88 :: Γ))) wd314 := H313
                refine sp_op [(88, .bool (decide (i101 > 0))), (89, .pointer (some ⟨b159, 0, none⟩))] (ac (hE311 2 (by decide)) (ac (hE311 3 (by decide)) an)) ?_
                refine r_ld1 (.int .i64 y106.Kind) LD3 rfl (((H313).tl.g0).cell _ rfl) ?_ (wn_t rfl rfl (by decide) rfl hb168)
                exact r_nil (n_lp ⟨_, rfl, undef, rfl, H313⟩)
              · intro η167 wd319 Δ320 hE316 hR317 H318
                have H318 : Hp w0 ((Δ320 ++ (Bx b159 24 [.int .i64 y106.Kind, .int .i64 y106.Amount] :: Row K24 (.slice A25 y19.length c27) xs42 :: Row K24 (.slice A34 y28.length c36) xs66 :: MpI Try.prog 3 3 b37 mm67 :: Row K24 (.slice A94 y88.length c96) y88 :: Γ))) wd319 := H318
                refine sp_op [(12, .slice A94 y88.length c96), (88, .bool (decide (i101 > 0)))] (ac rfl (ac (hE316 2 (by decide)) an)) ?_
                refine r_pure (.slice A94 y88.length c96) rfl ?_ (wn_t rfl rfl (by decide) rfl hb168)
                exact r_nil (n_lp ⟨_, rfl, undef, rfl, H318⟩)
              · intro η167 wd324 Δ325 hE321 hR322 H323
                have H323 : Hp w0 ((Δ325 ++ (Bx b159 24 [.int .i64 y106.Kind, .int .i64 y106.Amount] :: Row K24 (.slice A25 y19.length c27) xs42 :: Row K24 (.slice A34 y28.length c36) xs66 :: MpI Try.prog 3 3 b37 mm67 :: Row K24 (.slice A94 y88.length c96) y88 :: Γ))) wd324 := H323
                refine sp_op [(13, .int .i64 i101), (88, .bool (decide (i101 > 0)))] (ac rfl (ac (hE321 2 (by decide)) an)) ?_
                refine r_pure (.int .i64 i101) rfl ?_ (wn_t rfl rfl (by decide) rfl hb168)
                exact r_nil (n_lp ⟨_, rfl, undef, rfl, H323⟩)
              · intro η167 wd329 Δ330 hE326 hR327 H328
                have H328 : Hp w0 ((Δ330 ++ (Bx b159 24 [.int .i64 y106.Kind, .int .i64 y106.Amount] :: Row K24 (.slice A25 y19.length c27) xs42 :: Row K24 (.slice A34 y28.length c36) xs66 :: MpI Try.prog 3 3 b37 mm67 :: Row K24 (.slice A94 y88.length c96) y88 :: Γ))) wd329 := H328
                refine sp_op [(88, .bool (decide (i101 > 0))), (92, .int .i64 i101)] (ac (hE326 2 (by decide)) (ac (hE326 6 (by decide)) an)) ?_
                refine r_pure (.int .i64 (w64 (i101 - 1))) rfl ?_ (wn_t rfl rfl (by decide) rfl hb168)
                exact r_nil (n_lp ⟨_, rfl, undef, rfl, H328⟩)
              · intro η167 wd334 Δ335 hE331 hR332 H333
                have H333 : Hp w0 ((Δ335 ++ (Bx b159 24 [.int .i64 y106.Kind, .int .i64 y106.Amount] :: Row K24 (.slice A25 y19.length c27) xs42 :: Row K24 (.slice A34 y28.length c36) xs66 :: MpI Try.prog 3 3 b37 mm67 :: Row K24 (.slice A94 y88.length c96) y88 :: Γ))) wd334 := H333
                refine sp_op [(88, .bool (decide (i101 > 0))), (91, .slice A94 y88.length c96), (93, .int .i64 (w64 (i101 - 1)))] (ac (hE331 2 (by decide)) (ac (hE331 5 (by decide)) (ac (hE331 7 (by decide)) an))) ?_
                refine r_ix IX25 rfl rfl hA158 h0169 h1170 ?_ (wn_t rfl rfl (by decide) rfl hb168)
                exact r_nil (n_lp ⟨_, rfl, undef, rfl, H333⟩)
              · intro η167 wd342 Δ343 hE339 hR340 H341
                have H341 : Hp w0 ((Δ343 ++ (Bx b159 24 [.int .i64 y106.Kind, .int .i64 y106.Amount] :: Row K24 (.slice A25 y19.length c27) xs42 :: Row K24 (.slice A34 y28.length c36) xs66 :: MpI Try.prog 3 3 b37 mm67 :: Row K24 (.slice A94 y88.length c96) y88 :: Γ))) wd342 := H341
                refine sp_op [(88, .bool (decide (i101 > 0))), (94, .pointer (some ((oA A94).add (Int.toNat (w64 (i101 - 1)) * 2))))] (ac (hE339 2 (by decide)) (ac (hE339 8 (by decide)) an)) ?_
                refine r_fa FA24_0 (((oA A94).add (Int.toNat (w64 (i101 - 1)) * 2)).add 0) rfl rfl ?_ (wn_t rfl rfl (by decide) rfl hb168)
                exact r_nil (n_lp ⟨_, rfl, undef, rfl, H341⟩)
              · intro η167 wd347 Δ348 hE344 hR345 H346
                have H346 : Hp w0 ((Δ348 ++ (Bx b159 24 [.int .i64 y106.Kind, .int .i64 y106.Amount] :: Row K24 (.slice A25 y19.length c27) xs42 :: Row K24 (.slice A34 y28.length c36) xs66 :: MpI Try.prog 3 3 b37 mm67 :: Row K24 (.slice A94 y88.length c96) y88 :: Γ))) wd347 := H346
                refine sp_op [(88, .bool (decide (i101 > 0))), (95, .pointer (some (((oA A94).add (Int.toNat (w64 (i101 - 1)) * 2)).add 0)))] (ac (hE344 2 (by decide)) (ac (hE344 9 (by decide)) an)) ?_
                refine r_ld1 (.int .i64 ((rd y88 (w64 (i101 - 1))).Kind)) LD3 rfl (((H346).tl.g4.rd).cA hA158 hj171 0 _ rfl) ?_ (wn_t rfl rfl (by decide) rfl hb168)
                exact r_nil (n_lp ⟨_, rfl, undef, rfl, H346⟩)
              · intro η167 wd352 Δ353 hE349 hR350 H351
                have H351 : Hp w0 ((Δ353 ++ (Bx b159 24 [.int .i64 y106.Kind, .int .i64 y106.Amount] :: Row K24 (.slice A25 y19.length c27) xs42 :: Row K24 (.slice A34 y28.length c36) xs66 :: MpI Try.prog 3 3 b37 mm67 :: Row K24 (.slice A94 y88.length c96) y88 :: Γ))) wd352 := H351
                refine sp_op [(88, .bool (decide (i101 > 0))), (90, .int .i64 y106.Kind), (96, .int .i64 ((rd y88 (w64 (i101 - 1))).Kind))] (ac (hE349 2 (by decide)) (ac (hE349 4 (by decide)) (ac (hE349 10 (by decide)) an))) ?_
                refine r_pure (.bool (decide (y106.Kind ≤ (rd y88 (w64 (i101 - 1))).Kind))) rfl ?_ (wn_t rfl rfl (by decide) rfl hb168)
                exact r_nil (n_lp ⟨_, rfl, undef, rfl, H351⟩)
              · intro η167 wd357 Δ358 hE354 hR355 H356
                have H356 : Hp w0 ((Δ358 ++ (Bx b159 24 [.int .i64 y106.Kind, .int .i64 y106.Amount] :: Row K24 (.slice A25 y19.length c27) xs42 :: Row K24 (.slice A34 y28.length c36) xs66 :: MpI Try.prog 3 3 b37 mm67 :: Row K24 (.slice A94 y88.length c96) y88 :: Γ))) wd357 := H356
                refine sp_op [(88, .bool (decide (i101 > 0))), (97, .bool (decide (y106.Kind ≤ (rd y88 (w64 (i101 - 1))).Kind)))] (ac (hE354 2 (by decide)) (ac (hE354 11 (by decide)) an)) ?_
                refine r_pick_t (.bool (decide (y106.Kind ≤ (rd y88 (w64 (i101 - 1))).Kind))) hb168 rfl rfl ?_
                exact r_nil (n_lp ⟨_, rfl, undef, rfl, H356⟩)
              · intro η167 wd362 Δ363 hE359 hR360 H361
                have H361 : Hp w0 ((Δ363 ++ (Bx b159 24 [.int .i64 y106.Kind, .int .i64 y106.Amount] :: Row K24 (.slice A25 y19.length c27) xs42 :: Row K24 (.slice A34 y28.length c36) xs66 :: MpI Try.prog 3 3 b37 mm67 :: Row K24 (.slice A94 y88.length c96) y88 :: Γ))) wd362 := H361
                refine sp_op [(98, .bool (decide (y106.Kind ≤ (rd y88 (w64 (i101 - 1))).Kind)))] (ac (hE359 12 (by decide)) an) ?_
                refine r_pure (.bool (decide (y106.Kind ≤ (rd y88 (w64 (i101 - 1))).Kind))) rfl ?_
                exact r_nil (n_lp ⟨_, rfl, undef, rfl, H361⟩)
              · intro η167 wd367 Δ368 hE364 hR365 H366
                have H366 : Hp w0 ((Δ368 ++ (Bx b159 24 [.int .i64 y106.Kind, .int .i64 y106.Amount] :: Row K24 (.slice A25 y19.length c27) xs42 :: Row K24 (.slice A34 y28.length c36) xs66 :: MpI Try.prog 3 3 b37 mm67 :: Row K24 (.slice A94 y88.length c96) y88 :: Γ))) wd367 := H366
                refine sp_op [(14, .pointer (some ⟨b159, 0, none⟩)), (99, .bool (decide (y106.Kind ≤ (rd y88 (w64 (i101 - 1))).Kind)))] (ac rfl (ac (hE364 13 (by decide)) an)) ?_
                refine r_fa FA24_1 ⟨b159, 1, none⟩ rfl rfl ?_ (wn_t rfl rfl (by decide) rfl hb172)
                exact r_nil (n_lp ⟨_, rfl, undef, rfl, H366⟩)
              · intro η167 wd372 Δ373 hE369 hR370 H371
                have H371 : Hp w0 ((Δ373 ++ (Bx b159 24 [.int .i64 y106.Kind, .int .i64 y106.Amount] :: Row K24 (.slice A25 y19.length c27) xs42 :: Row K24 (.slice A34 y28.length c36) xs66 :: MpI Try.prog 3 3 b37 mm67 :: Row K24 (.slice A94 y88.length c96) y88 :: Γ))) wd372 := H371
                refine sp_op [(99, .bool (decide (y106.Kind ≤ (rd y88 (w64 (i101 - 1))).Kind))), (100, .pointer (some ⟨b159, 1, none⟩))] (ac (hE369 13 (by decide)) (ac (hE369 14 (by decide)) an)) ?_
                refine r_ld1 (.int .i64 y106.Amount) LD3 rfl (((H371).tl.g0).cell _ rfl) ?_ (wn_t rfl rfl (by decide) rfl hb172)
                exact r_nil (n_lp ⟨_, rfl, undef, rfl, H371⟩)
              · intro η167 wd377 Δ378 hE374 hR375 H376
                have H376 : Hp w0 ((Δ378 ++ (Bx b159 24 [.int .i64 y106.Kind, .int .i64 y106.Amount] :: Row K24 (.slice A25 y19.length c27) xs42 :: Row K24 (.slice A34 y28.length c36) xs66 :: MpI Try.prog 3 3 b37 mm67 :: Row K24 (.slice A94 y88.length c96) y88 :: Γ))) wd377 := H376
                refine sp_op [(9, .map (some b37)), (99, .bool (decide (y106.Kind ≤ (rd y88 (w64 (i101 - 1))).Kind)))] (ac rfl (ac (hE374 13 (by decide)) an)) ?_
                refine r_pure (.map (some b37)) rfl ?_ (wn_t rfl rfl (by decide) rfl hb172)
                exact r_nil (n_lp ⟨_, rfl, undef, rfl, H376⟩)
              · intro η167 wd382 Δ383 hE379 hR380 H381
                have H381 : Hp w0 ((Δ383 ++ (Bx b159 24 [.int .i64 y106.Kind, .int .i64 y106.Amount] :: Row K24 (.slice A25 y19.length c27) xs42 :: Row K24 (.slice A34 y28.length c36) xs66 :: MpI Try.prog 3 3 b37 mm67 :: Row K24 (.slice A94 y88.length c96) y88 :: Γ))) wd382 := H381
                refine sp_op [(14, .pointer (some ⟨b159, 0, none⟩)), (99, .bool (decide (y106.Kind ≤ (rd y88 (w64 (i101 - 1))).Kind)))] (ac rfl (ac (hE379 13 (by decide)) an)) ?_
                refine r_fa FA24_0 ⟨b159, 0, none⟩ rfl rfl ?_ (wn_t rfl rfl (by decide) rfl hb172)
                exact r_nil (n_lp ⟨_, rfl, undef, rfl, H381⟩)
              · intro η167 wd387 Δ388 hE384 hR385 H386
                have H386 : Hp w0 ((Δ388 ++ (Bx b159 24 [.int .i64 y106.Kind, .int .i64 y106.Amount] :: Row K24 (.slice A25 y19.length c27) xs42 :: Row K24 (.slice A34 y28.length c36) xs66 :: MpI Try.prog 3 3 b37 mm67 :: Row K24 (.slice A94 y88.length c96) y88 :: Γ))) wd387 := H386
                refine sp_op [(99, .bool (decide (y106.Kind ≤ (rd y88 (w64 (i101 - 1))).Kind))), (103, .pointer (some ⟨b159, 0, none⟩))] (ac (hE384 13 (by decide)) (ac (hE384 17 (by decide)) an)) ?_
                refine r_ld1 (.int .i64 y106.Kind) LD3 rfl (((H386).tl.g0).cell _ rfl) ?_ (wn_t rfl rfl (by decide) rfl hb172)
                exact r_nil (n_lp ⟨_, rfl, undef, rfl, H386⟩)
              · intro η167 wd392 Δ393 hE389 hR390 H391
                have H391 : Hp w0 ((Δ393 ++ (Bx b159 24 [.int .i64 y106.Kind, .int .i64 y106.Amount] :: Row K24 (.slice A25 y19.length c27) xs42 :: Row K24 (.slice A34 y28.length c36) xs66 :: MpI Try.prog 3 3 b37 mm67 :: Row K24 (.slice A94 y88.length c96) y88 :: Γ))) wd392 := H391
                refine sp_op [(99, .bool (decide (y106.Kind ≤ (rd y88 (w64 (i101 - 1))).Kind))), (102, .map (some b37)), (104, .int .i64 y106.Kind)] (ac (hE389 13 (by decide)) (ac (hE389 16 (by decide)) (ac (hE389 18 (by decide)) an))) ?_
                refine r_lookup MT39 rfl rfl (H391).tl.g3 h290 ?_ (wn_t rfl rfl (by decide) rfl hb172)
                exact r_nil (n_lp ⟨_, rfl, undef, rfl, H391⟩)
              · intro η167 wd398 Δ399 hE395 hR396 H397
                have H397 : Hp w0 ((Δ399 ++ (Bx b159 24 [.int .i64 y106.Kind, .int .i64 y106.Amount] :: Row K24 (.slice A25 y19.length c27) xs42 :: Row K24 (.slice A34 y28.length c36) xs66 :: MpI Try.prog 3 3 b37 mm67 :: Row K24 (.slice A94 y88.length c96) y88 :: Γ))) wd398 := H397
                refine sp_op [(99, .bool (decide (y106.Kind ≤ (rd y88 (w64 (i101 - 1))).Kind))), (101, .int .i64 y106.Amount), (105, .int .i64 (mgetD mm67 y106.Kind))] (ac (hE395 13 (by decide)) (ac (hE395 15 (by decide)) (ac (hE395 19 (by decide)) an))) ?_
                refine r_pure (.bool (y106.Amount != mgetD mm67 y106.Kind)) rfl ?_ (wn_t rfl rfl (by decide) rfl hb172)
                exact r_nil (n_lp ⟨_, rfl, undef, rfl, H397⟩)
              · intro η167 wd403 Δ404 hE400 hR401 H402
                have H402 : Hp w0 ((Δ404 ++ (Bx b159 24 [.int .i64 y106.Kind, .int .i64 y106.Amount] :: Row K24 (.slice A25 y19.length c27) xs42 :: Row K24 (.slice A34 y28.length c36) xs66 :: MpI Try.prog 3 3 b37 mm67 :: Row K24 (.slice A94 y88.length c96) y88 :: Γ))) wd403 := H402
                refine sp_op [(99, .bool (decide (y106.Kind ≤ (rd y88 (w64 (i101 - 1))).Kind))), (106, .bool (y106.Amount != mgetD mm67 y106.Kind))] (ac (hE400 13 (by decide)) (ac (hE400 20 (by decide)) an)) ?_
                refine r_pick_f (.bool (y106.Amount != mgetD mm67 y106.Kind)) hb172 rfl rfl ?_
                exact r_nil (n_lp ⟨_, rfl, undef, rfl, H402⟩)
              · intro η167 wd406 hV407 H405
                have H408 : Hp w0 (Bx b159 24 [.int .i64 y106.Kind, .int .i64 y106.Amount] :: Row K24 (.slice A25 y19.length c27) xs42 :: Row K24 (.slice A34 y28.length c36) xs66 :: MpI Try.prog 3 3 b37 mm67 :: Row K24 (.slice A94 y88.length c96) y88 :: Γ) wd406 := H405
                refine n_frame [(7, .slice A25 y19.length c27), (8, .slice A34 y28.length c36), (9, .map (some b37)), (12, .slice A94 y88.length c96), (79, .slice A94 y88.length c96), (80, .int .i64 (y88.length : Int)), (81, .int .i64 i101), (89, .pointer (some ⟨b159, 0, none⟩)), (90, .int .i64 y106.Kind), (91, .slice A94 y88.length c96), (92, .int .i64 i101), (93, .int .i64 (w64 (i101 - 1))), (94, .pointer (some ((oA A94).add (Int.toNat (w64 (i101 - 1)) * 2)))), (95, .pointer (some (((oA A94).add (Int.toNat (w64 (i101 - 1)) * 2)).add 0))), (96, .int .i64 ((rd y88 (w64 (i101 - 1))).Kind)), (97, .bool (decide (y106.Kind ≤ (rd y88 (w64 (i101 - 1))).Kind))), (100, .pointer (some ⟨b159, 1, none⟩)), (101, .int .i64 y106.Amount), (102, .map (some b37)), (103, .pointer (some ⟨b159, 0, none⟩)), (104, .int .i64 y106.Kind), (105, .int .i64 (mgetD mm67 y106.Kind)), (106, .bool (y106.Amount != mgetD mm67 y106.Kind)), (107, .bool (y106.Amount != mgetD mm67 y106.Kind))] (ac rfl (ac rfl (ac rfl (ac rfl (ac rfl (ac rfl (ac rfl (ac (hV407 3 rfl) (ac (hV407 4 rfl) (ac (hV407 5 rfl) (ac (hV407 6 rfl) (ac (hV407 7 rfl) (ac (hV407 8 rfl) (ac (hV407 9 rfl) (ac (hV407 10 rfl) (ac (hV407 11 rfl) (ac (hV407 14 rfl) (ac (hV407 15 rfl) (ac (hV407 16 rfl) (ac (hV407 17 rfl) (ac (hV407 18 rfl) (ac (hV407 19 rfl) (ac (hV407 20 rfl) (ac (hV407 21 rfl) an)))))))))))))))))))))))) ?_
                refine n_cut ⟨y106.Amount != mgetD mm67 y106.Kind, upk (ac rfl (ac rfl (ac rfl (ac rfl (ac rfl (ac rfl (ac rfl (ac rfl an)))))))), H408.d.u3.u3.u3.u3, hm⟩
          · obtain ⟨h409, hm⟩ := gd_some hm
            refine Flow.run' [[], [0], [0, 1], [0, 1, 2], [0, 1, 2, 3], [0, 1, 2], [0, 1, 2], [0, 1, 2, 6], [0, 1, 2, 5, 6, 7], [0, 1, 2, 5, 6, 7, 8], [0, 1, 2, 5, 6, 7, 8, 9], [0, 1, 2, 3, 4, 5, 6, 7, 8, 9, 10], [0, 1, 2, 3, 4, 5, 6, 7, 8, 9, 10, 11], [0, 1, 2, 3, 4, 5, 6, 7, 8, 9, 10, 11, 12], [0, 1, 2, 3, 4, 5, 6, 7, 8, 9, 10, 11, 12, 13], [0, 1, 2, 3, 4, 5, 6, 7, 8, 9, 10, 11, 12, 13, 14], [0, 1, 2, 3, 4, 5, 6, 7, 8, 9, 10, 11, 12, 13], [0, 1, 2, 3, 4, 5, 6, 7, 8, 9, 10, 11, 12, 13], [0, 1, 2, 3, 4, 5, 6, 7, 8, 9, 10, 11, 12, 13, 17], [0, 1, 2, 3, 4, 5, 6, 7, 8, 9, 10, 11, 12, 13, 16, 17, 18], [0, 1, 2, 3, 4, 5, 6, 7, 8, 9, 10, 11, 12, 13, 14, 15, 16, 17, 18, 19], [0, 1, 2, 3, 4, 5, 6, 7, 8, 9, 10, 11, 12, 13, 14, 15, 16, 17, 18, 19, 20]] [(86, 0), (87, 1), (88, 2), (89, 3), (90, 4), (91, 5), (92, 6), (93, 7), (94, 8), (95, 9), (96, 10), (97, 11), (98, 12), (99, 13), (100, 14), (101, 15), (102, 16), (103, 17), (104, 18), (105, 19), (106, 20), (107, 21)] [(fun η167 v => v.1 = .int .i64 i101), (fun η167 v => v.1 = .bool (decide (i101 > 0))), (fun η167 v => v.1 = .bool (decide (i101 > 0))), (fun η167 v => v.1 = undef), (fun η167 v => v.1 = undef), (fun η167 v => v.1 = undef), (fun η167 v => v.1 = undef), (fun η167 v => v.1 = undef), (fun η167 v => v.1 = undef), (fun η167 v => v.1 = undef), (fun η167 v => v.1 = undef), (fun η167 v => v.1 = undef), (fun η167 v => v.1 = .bool false), (fun η167 v => v.1 = .bool false), (fun η167 v => v.1 = .pointer (some ⟨b159, 1, none⟩)), (fun η167 v => v.1 = .int .i64 y106.Amount), (fun η167 v => v.1 = .map (some b37)), (fun η167 v => v.1 = .pointer (some ⟨b159, 0, none⟩)), (fun η167 v => v.1 = .int .i64 y106.Kind), (fun η167 v => v.1 = .int .i64 (mgetD mm67 y106.Kind)), (fun η167 v => v.1 = .bool (y106.Amount != mgetD mm67 y106.Kind)), (fun η167 v => v.1 = .bool (y106.Amount != mgetD mm67 y106.Kind))] [] rfl (by kernel_rfl) (by kernel_rfl) H162 ⟨?_, ?_, ?_, ?_, ?_, ?_, ?_, ?_, ?_, ?_, ?_, ?_, ?_, ?_, ?_, ?_, ?_, ?_, ?_, ?_, ?_, ?_, trivial⟩ ?_
            · intro η167 wd413 Δ414 hE410 hR411 H412
              have H412 : Hp w0 ((Δ414 ++ (Bx b159 24 [.int .i64 y106.Kind, .int .i64 y106.Amount] :: Row K24 (.slice A25 y19.length c27) xs42 :: Row K24 (.slice A34 y28.length c36) xs66 :: MpI Try.prog 3 3 b37 mm67 :: Row K24 (.slice A94 y88.length c96) y88 :: Γ))) wd413 := H412
              refine sp_op [(13, .int .i64 i101)] (ac rfl an) ?_
              refine r_pure (.int .i64 i101) rfl ?_
              exact r_nil (n_lp ⟨_, rfl, undef, rfl, H412⟩)
            · intro η167 wd418 Δ419 hE415 hR416 H417
              have H417 : Hp w0 ((Δ419 ++ (Bx b159 24 [.int .i64 y106.Kind, .int .i64 y106.Amount] :: Row K24 (.slice A25 y19.length c27) xs42 :: Row K24 (.slice A34 y28.length c36) xs66 :: MpI Try.prog 3 3 b37 mm67 :: Row K24 (.slice A94 y88.length c96) y88 :: Γ))) wd418 := H417
              refine sp_op [(86, .int .i64 i101)] (ac (hE415 0 (by decide)) an) ?_
              refine r_pure (.bool (decide (i101 > 0))) rfl ?_
              exact r_nil (n_lp ⟨_, rfl, undef, rfl, H417⟩)
            · intro η167 wd423 Δ424 hE420 hR421 H422
              have H422 : Hp w0 ((Δ424 ++ (Bx b159 24 [.int .i64 y106.Kind, .int .i64 y106.Amount] :: Row K24 (.slice A25 y19.length c27) xs42 :: Row K24 (.slice A34 y28.length c36) xs66 :: MpI Try.prog 3 3 b37 mm67 :: Row K24 (.slice A94 y88.length c96) y88 :: Γ))) wd423 := H422
              refine sp_op [(87, .bool (decide (i101 > 0)))] (ac (hE420 1 (by decide)) an) ?_
              refine r_pure (.bool (decide (i101 > 0))) rfl ?_
              exact r_nil (n_lp ⟨_, rfl, undef, rfl, H422⟩)
            · intro η167 wd428 Δ429 hE425 hR426 H427
              have H427 : Hp w0 ((Δ429 ++ (Bx b159 24 [.int .i64 y106.Kind, .int .i64 y106.Amount] :: Row K24 (.slice A25 y19.length c27) xs42 :: Row K24 (.slice A34 y28.length c36) xs66 :: MpI Try.prog 3 3 b37 mm67 :: Row K24 (.slice A94 y88.length c96) y88 :: Γ))) wd428 := H427
              refine sp_op [(14, .pointer (some ⟨b159, 0, none⟩)), (88, .bool (decide (i101 > 0)))] (ac rfl (ac (hE425 2 (by decide)) an)) ?_
              refine r_not (wn_f rfl rfl (by decide) rfl hb168) ?_
              exact r_nil (n_lp ⟨_, rfl, undef, rfl, H427⟩)
            · intro η167 wd433 Δ434 hE430 hR431 H432
              have H432 : Hp w0 ((Δ434 ++ (Bx b159 24 [.int .i64 y106.Kind, .int .i64 y106.Amount] :: Row K24 (.slice A25 y19.length c27) xs42 :: Row K24 (.slice A34 y28.length c36) xs66 :: MpI Try.prog 3 3 b37 mm67 :: Row K24 (.slice A94 y88.length c96) y88 :: Γ))) wd433 := H432
              refine sp_op [(88, .bool (decide (i101 > 0))), (89, undef)] (ac (hE430 2 (by decide)) (ac (hE430 3 (by decide)) an)) ?_
              refine r_not (wn_f rfl rfl (by decide) rfl hb168) ?_
              exact r_nil (n_lp ⟨_, rfl, undef, rfl, H432⟩)
            · intro η167 wd438 Δ439 hE435 hR436 H437
              have H437 : Hp w0 ((Δ439 ++ (Bx b159 24 [.int .i64 y106.Kind, .int .i64 y106.Amount] :: Row K24 (.slice A25 y19.length c27) xs42 :: Row K24 (.slice A34 y28.length c36) xs66 :: MpI Try.prog 3 3 b37 mm67 :: Row K24 (.slice A94 y88.length c96) y88 :: Γ))) wd438 := H437
              refine sp_op [(12, .slice A94 y88.length c96), (88, .bool (decide (i101 > 0)))] (ac rfl (ac (hE435 2 (by decide)) an)) ?_
              refine r_not (wn_f rfl rfl (by decide) rfl hb168) ?_
              exact r_nil (n_lp ⟨_, rfl, undef, rfl, H437⟩)
            · intro η167 wd443 Δ444 hE440 hR441 H442
              have H442 : Hp w0 ((Δ444 ++ (Bx b159 24 [.int .i64 y106.Kind, .int .i64 y106.Amount] :: Row K24 (.slice A25 y19.length c27) xs42 :: Row K24 (.slice A34 y28.length c36) xs66 :: MpI Try.prog 3 3 b37 mm67 :: Row K24 (.slice A94 y88.length c96) y88 :: Γ))) wd443 := H442
              refine sp_op [(13, .int .i64 i101), (88, .bool (decide (i101 > 0)))] (ac rfl (ac (hE440 2 (by decide)) an)) ?_
              refine r_not (wn_f rfl rfl (by decide) rfl hb168) ?_
              exact r_nil (n_lp ⟨_, rfl, undef, rfl, H442⟩)
            · intro η167 wd448 Δ449 hE445 hR446 H447
              have H447 : Hp w0 ((Δ449 ++ (Bx b159 24 [.int .i64 y106.Kind, .int .i64 y106.Amount] :: Row K24 (.slice A25 y19.length c27) xs42 :: Row K24 (.slice A34 y28.length c36) xs66 :: MpI Try.prog 3 3 b37 mm67 :: Row K24 (.slice A94 y88.length c96) y88 :: Γ))) wd448 := H447
              refine sp_op [(88, .bool (decide (i101 > 0))), (92, undef)] (ac (hE445 2 (by decide)) (ac (hE445 6 (by decide)) an)) ?_
              refine r_not (wn_f rfl rfl (by decide) rfl hb168) ?_
              exact r_nil (n_lp ⟨_, rfl, undef, rfl, H447⟩)
            · intro η167 wd453 Δ454 hE450 hR451 H452
              have H452 : Hp w0 ((Δ454 ++ (Bx b159 24 [.int .i64 y106.Kind, .int .i64 y106.Amount] :: Row K24 (.slice A25 y19.length c27) xs42 :: Row K24 (.slice A34 y28.length c36) xs66 :: MpI Try.prog 3 3 b37 mm67 :: Row K24 (.slice A94 y88.length c96) y88 :: Γ))) wd453 := H452
              refine sp_op [(88, .bool (decide (i101 > 0))), (91, undef), (93, undef)] (ac (hE450 2 (by decide)) (ac (hE450 5 (by decide)) (ac (hE450 7 (by decide)) an))) ?_
              refine r_not (wn_f rfl rfl (by decide) rfl hb168) ?_
              exact r_nil (n_lp ⟨_, rfl, undef, rfl, H452⟩)
            · intro η167 wd458 Δ459 hE455 hR456 H457
              have H457 : Hp w0 ((Δ459 ++ (Bx b159 24 [.int .i64 y106.Kind, .int .i64 y106.Amount] :: Row K24 (.slice A25 y19.length c27) xs42 :: Row K24 (.slice A34 y28.length c36) xs66 :: MpI Try.prog 3 3 b37 mm67 :: Row K24 (.slice A94 y88.length c96) y88 :: Γ))) wd458 := H457
              refine sp_op [(88, .bool (decide (i101 > 0))), (94, undef)] (ac (hE455 2 (by decide)) (ac (hE455 8 (by decide)) an)) ?_
              refine r_not (wn_f rfl rfl (by decide) rfl hb168) ?_
              exact r_nil (n_lp ⟨_, rfl, undef, rfl, H457⟩)
            · intro η167 wd463 Δ464 hE460 hR461 H462
              have H462 : Hp w0 ((Δ464 ++ (Bx b159 24 [.int .i64 y106.Kind, .int .i64 y106.Amount] :: Row K24 (.slice A25 y19.length c27) xs42 :: Row K24 (.slice A34 y28.length c36) xs66 :: MpI Try.prog 3 3 b37 mm67 :: Row K24 (.slice A94 y88.length c96) y88 :: Γ))) wd463 := H462
              refine sp_op [(88, .bool (decide (i101 > 0))), (95, undef)] (ac (hE460 2 (by decide)) (ac (hE460 9 (by decide)) an)) ?_
              refine r_not (wn_f rfl rfl (by decide) rfl hb168) ?_
              exact r_nil (n_lp ⟨_, rfl, undef, rfl, H462⟩)
            · intro η167 wd468 Δ469 hE465 hR466 H467
              have H467 : Hp w0 ((Δ469 ++ (Bx b159 24 [.int .i64 y106.Kind, .int .i64 y106.Amount] :: Row K24 (.slice A25 y19.length c27) xs42 :: Row K24 (.slice A34 y28.length c36) xs66 :: MpI Try.prog 3 3 b37 mm67 :: Row K24 (.slice A94 y88.length c96) y88 :: Γ))) wd468 := H467
              refine sp_op [(88, .bool (decide (i101 > 0))), (90, undef), (96, undef)] (ac (hE465 2 (by decide)) (ac (hE465 4 (by decide)) (ac (hE465 10 (by decide)) an))) ?_
              refine r_not (wn_f rfl rfl (by decide) rfl hb168) ?_
              exact r_nil (n_lp ⟨_, rfl, undef, rfl, H467⟩)
            · intro η167 wd473 Δ474 hE470 hR471 H472
              have H472 : Hp w0 ((Δ474 ++ (Bx b159 24 [.int .i64 y106.Kind, .int .i64 y106.Amount] :: Row K24 (.slice A25 y19.length c27) xs42 :: Row K24 (.slice A34 y28.length c36) xs66 :: MpI Try.prog 3 3 b37 mm67 :: Row K24 (.slice A94 y88.length c96) y88 :: Γ))) wd473 := H472
              refine sp_op [(88, .bool (decide (i101 > 0))), (97, undef)] (ac (hE470 2 (by decide)) (ac (hE470 11 (by decide)) an)) ?_
              refine r_pick_f (.bool false) hb168 rfl rfl ?_
              exact r_nil (n_lp ⟨_, rfl, undef, rfl, H472⟩)
            · intro η167 wd478 Δ479 hE475 hR476 H477
              have H477 : Hp w0 ((Δ479 ++ (Bx b159 24 [.int .i64 y106.Kind, .int .i64 y106.Amount] :: Row K24 (.slice A25 y19.length c27) xs42 :: Row K24 (.slice A34 y28.length c36) xs66 :: MpI Try.prog 3 3 b37 mm67 :: Row K24 (.slice A94 y88.length c96) y88 :: Γ))) wd478 := H477
              refine sp_op [(98, .bool false)] (ac (hE475 12 (by decide)) an) ?_
              refine r_pure (.bool false) rfl ?_
              exact r_nil (n_lp ⟨_, rfl, undef, rfl, H477⟩)
            · intro η167 wd483 Δ484 hE480 hR481 H482
              have H482 : Hp w0 ((Δ484 ++ (Bx b159 24 [.int .i64 y106.Kind, .int .i64 y106.Amount] :: Row K24 (.slice A25 y19.length c27) xs42 :: Row K24 (.slice A34 y28.length c36) xs66 :: MpI Try.prog 3 3 b37 mm67 :: Row K24 (.slice A94 y88.length c96) y88 :: Γ))) wd483 := H482
              refine sp_op [(14, .pointer (some ⟨b159, 0, none⟩)), (99, .bool false)] (ac rfl (ac (hE480 13 (by decide)) an)) ?_
              refine r_fa FA24_1 ⟨b159, 1, none⟩ rfl rfl ?_ (wn_t rfl rfl (by decide) rfl rfl)
              exact r_nil (n_lp ⟨_, rfl, undef, rfl, H482⟩)
            · intro η167 wd488 Δ489 hE485 hR486 H487
              have H487 : Hp w0 ((Δ489 ++ (Bx b159 24 [.int .i64 y106.Kind, .int .i64 y106.Amount] :: Row K24 (.slice A25 y19.length c27) xs42 :: Row K24 (.slice A34 y28.length c36) xs66 :: MpI Try.prog 3 3 b37 mm67 :: Row K24 (.slice A94 y88.length c96) y88 :: Γ))) wd488 := H487
              refine sp_op [(99, .bool false), (100, .pointer (some ⟨b159, 1, none⟩))] (ac (hE485 13 (by decide)) (ac (hE485 14 (by decide)) an)) ?_
              refine r_ld1 (.int .i64 y106.Amount) LD3 rfl (((H487).tl.g0).cell _ rfl) ?_ (wn_t rfl rfl (by decide) rfl rfl)
              exact r_nil (n_lp ⟨_, rfl, undef, rfl, H487⟩)
            · intro η167 wd493 Δ494 hE490 hR491 H492
              have H492 : Hp w0 ((Δ494 ++ (Bx b159 24 [.int .i64 y106.Kind, .int .i64 y106.Amount] :: Row K24 (.slice A25 y19.length c27) xs42 :: Row K24 (.slice A34 y28.length c36) xs66 :: MpI Try.prog 3 3 b37 mm67 :: Row K24 (.slice A94 y88.length c96) y88 :: Γ))) wd493 := H492
              refine sp_op [(9, .map (some b37)), (99, .bool false)] (ac rfl (ac (hE490 13 (by decide)) an)) ?_
              refine r_pure (.map (some b37)) rfl ?_ (wn_t rfl rfl (by decide) rfl rfl)
              exact r_nil (n_lp ⟨_, rfl, undef, rfl, H492⟩)
            · intro η167 wd498 Δ499 hE495 hR496 H497
              have H497 : Hp w0 ((Δ499 ++ (Bx b159 24 [.int .i64 y106.Kind, .int .i64 y106.Amount] :: Row K24 (.slice A25 y19.length c27) xs42 :: Row K24 (.slice A34 y28.length c36) xs66 :: MpI Try.prog 3 3 b37 mm67 :: Row K24 (.slice A94 y88.length c96) y88 :: Γ))) wd498 := H497
              refine sp_op [(14, .pointer (some ⟨b159, 0, none⟩)), (99, .bool false)] (ac rfl (ac (hE495 13 (by decide)) an)) ?_
              refine r_fa FA24_0 ⟨b159, 0, none⟩ rfl rfl ?_ (wn_t rfl rfl (by decide) rfl rfl)
              exact r_nil (n_lp ⟨_, rfl, undef, rfl, H497⟩)
            · intro η167 wd503 Δ504 hE500 hR501 H502
              have H502 : Hp w0 ((Δ504 ++ (Bx b159 24 [.int .i64 y106.Kind, .int .i64 y106.Amount] :: Row K24 (.slice A25 y19.length c27) xs42 :: Row K24 (.slice A34 y28.length c36) xs66 :: MpI Try.prog 3 3 b37 mm67 :: Row K24 (.slice A94 y88.length c96) y88 :: Γ))) wd503 := H502
              refine sp_op [(99, .bool false), (103, .pointer (some ⟨b159, 0, none⟩))] (ac (hE500 13 (by decide)) (ac (hE500 17 (by decide)) an)) ?_
              refine r_ld1 (.int .i64 y106.Kind) LD3 rfl (((H502).tl.g0).cell _ rfl) ?_ (wn_t rfl rfl (by decide) rfl rfl)
              exact r_nil (n_lp ⟨_, rfl, undef, rfl, H502⟩)
            · intro η167 wd508 Δ509 hE505 hR506 H507
              have H507 : Hp w0 ((Δ509 ++ (Bx b159 24 [.int .i64 y106.Kind, .int .i64 y106.Amount] :: Row K24 (.slice A25 y19.length c27) xs42 :: Row K24 (.slice A34 y28.length c36) xs66 :: MpI Try.prog 3 3 b37 mm67 :: Row K24 (.slice A94 y88.length c96) y88 :: Γ))) wd508 := H507
              refine sp_op [(99, .bool false), (102, .map (some b37)), (104, .int .i64 y106.Kind)] (ac (hE505 13 (by decide)) (ac (hE505 16 (by decide)) (ac (hE505 18 (by decide)) an))) ?_
              refine r_lookup MT39 rfl rfl (H507).tl.g3 h409 ?_ (wn_t rfl rfl (by decide) rfl rfl)
              exact r_nil (n_lp ⟨_, rfl, undef, rfl, H507⟩)
            · intro η167 wd514 Δ515 hE511 hR512 H513
              have H513 : Hp w0 ((Δ515 ++ (Bx b159 24 [.int .i64 y106.Kind, .int .i64 y106.Amount] :: Row K24 (.slice A25 y19.length c27) xs42 :: Row K24 (.slice A34 y28.length c36) xs66 :: MpI Try.prog 3 3 b37 mm67 :: Row K24 (.slice A94 y88.length c96) y88 :: Γ))) wd514 := H513
              refine sp_op [(99, .bool false), (101, .int .i64 y106.Amount), (105, .int .i64 (mgetD mm67 y106.Kind))] (ac (hE511 13 (by decide)) (ac (hE511 15 (by decide)) (ac (hE511 19 (by decide)) an))) ?_
              refine r_pure (.bool (y106.Amount != mgetD mm67 y106.Kind)) rfl ?_ (wn_t rfl rfl (by decide) rfl rfl)
              exact r_nil (n_lp ⟨_, rfl, undef, rfl, H513⟩)
            · intro η167 wd519 Δ520 hE516 hR517 H518
              have H518 : Hp w0 ((Δ520 ++ (Bx b159 24 [.int .i64 y106.Kind, .int .i64 y106.Amount] :: Row K24 (.slice A25 y19.length c27) xs42 :: Row K24 (.slice A34 y28.length c36) xs66 :: MpI Try.prog 3 3 b37 mm67 :: Row K24 (.slice A94 y88.length c96) y88 :: Γ))) wd519 := H518
              refine sp_op [(99, .bool false), (106, .bool (y106.Amount != mgetD mm67 y106.Kind))] (ac (hE516 13 (by decide)) (ac (hE516 20 (by decide)) an)) ?_
              refine r_pick_f (.bool (y106.Amount != mgetD mm67 y106.Kind)) rfl rfl rfl ?_
              exact r_nil (n_lp ⟨_, rfl, undef, rfl, H518⟩)
            · intro η167 wd522 hV523 H521
              have H524 : Hp w0 (Bx b159 24 [.int .i64 y106.Kind, .int .i64 y106.Amount] :: Row K24 (.slice A25 y19.length c27) xs42 :: Row K24 (.slice A34 y28.length c36) xs66 :: MpI Try.prog 3 3 b37 mm67 :: Row K24 (.slice A94 y88.length c96) y88 :: Γ) wd522 := H521
              refine n_frame [(7, .slice A25 y19.length c27), (8, .slice A34 y28.length c36), (9, .map (some b37)), (12, .slice A94 y88.length c96), (79, .slice A94 y88.length c96), (80, .int .i64 (y88.length : Int)), (81, .int .i64 i101), (89, undef), (90, undef), (91, undef), (92, undef), (93, undef), (94, undef), (95, undef), (96, undef), (97, undef), (100, .pointer (some ⟨b159, 1, none⟩)), (101, .int .i64 y106.Amount), (102, .map (some b37)), (103, .pointer (some ⟨b159, 0, none⟩)), (104, .int .i64 y106.Kind), (105, .int .i64 (mgetD mm67 y106.Kind)), (106, .bool (y106.Amount != mgetD mm67 y106.Kind)), (107, .bool (y106.Amount != mgetD mm67 y106.Kind))] (ac rfl (ac rfl (ac rfl (ac rfl (ac rfl (ac rfl (ac rfl (ac (hV523 3 rfl) (ac (hV523 4 rfl) (ac (hV523 5 rfl) (ac (hV523 6 rfl) (ac (hV523 7 rfl) (ac (hV523 8 rfl) (ac (hV523 9 rfl) (ac (hV523 10 rfl) (ac (hV523 11 rfl) (ac (hV523 14 rfl) (ac (hV523 15 rfl) (ac (hV523 16 rfl) (ac (hV523 17 rfl) (ac (hV523 18 rfl) (ac (hV523 19 rfl) (ac (hV523 20 rfl) (ac (hV523 21 rfl) an)))))))))))))))))))))))) ?_
              refine n_cut ⟨y106.Amount != mgetD mm67 y106.Kind, upk (ac rfl (ac rfl (ac rfl (ac rfl (ac rfl (ac rfl (ac rfl (ac rfl an)))))))), H524.d.u3.u3.u3.u3, hm⟩
        · rintro ρ w ⟨q164, ⟨base, rfl⟩, H165, hm⟩
          unfold scutagelaw25_FxAdds.j2 at hm
          rcases ite_some hm with ⟨hb166, hm⟩ | ⟨hb166, hm⟩
          · refine st_condt hb166 rfl ?_
            refine st_seq ?_
            refine st_region ?_
            refine r_pure (.bool false) rfl ?_
            refine r_seq ?_
            have hq_ := Option.some.inj hm
            subst hq_
            have hq_ := Option.some.inj (show some (false : Bool) = some r0_ from hm98)
            subst hq_
            refine st_ret1 rfl rfl (Nat.le_of_ble_eq_true rfl) rfl ?_
            exact ⟨rfl, H165.d.d.d.d⟩
          · refine st_condf hb166 rfl ?_
            refine st_skip ?_
            refine n_bl ?_
            refine n_sq ?_
            refine st_region ?_
            refine r_pure (.int .i64 (w64 (i101 + 1))) rfl ?_
            refine r_pure (.int .i64 (w64 (i101 + 1))) rfl ?_
            refine r_nil ?_
            refine n_round (IH109 _ _ rfl _ _ _ ⟨i101 + 1, dn102 ++ [y106], rfl, range_more hxs103, range_len hi104, upk (ac rfl (ac rfl (ac rfl (ac rfl (ac rfl (ac rfl (ac hnx115 an))))))), H165.u3.u3.u3.u3⟩ hm)
    · rw [scutagelaw25_FxAdds.l2] at hm
      have hb82 := range_in hxs74 hi75
      obtain ⟨h083, h184, hj85⟩ := range_ix hxs74 hi75
      have hnx86 := range_next hxs74 hi75 hlim87
      refine st_seq ?_
      refine st_region ?_
      refine r_pure (.bool (decide (i72 < (y28.length : Int)))) rfl ?_
      refine r_seq ?_
      refine st_seq ?_
      refine st_condt hb82 rfl ?_
      refine st_skip ?_
      refine n_sq ?_
      refine st_seq ?_
      refine st_block ?_
      refine st_seq ?_
      refine st_region ?_
      refine r_pure (.int .i64 i72) rfl ?_
      refine r_pure (.int .i64 i72) rfl ?_
      refine r_seq ?_
      refine st_seq ?_
      refine st_region ?_
      refine r_pure (.slice A34 y28.length c36) rfl ?_
      refine r_pure (.int .i64 i72) rfl ?_
      obtain ⟨⟨h0525, h1526⟩, hm⟩ := gd_some hm
      have hj527 := rd_get h0525 h1526
      have hA528 := (H68.g1.rd).adO hj527
      refine r_ix IX25 rfl rfl hA528 h0525 (by have h1_ := (H68.g1).leneq; have h2_ := h1526; rw [← h1_] at h2_; exact h2_) ?_
      refine r_fa FA24_1 (((oA A34).add (Int.toNat i72 * 2)).add 1) rfl rfl ?_
      refine r_ld1 (.int .i64 ((rd xs66 i72).Amount)) LD3 rfl ((H68.g1.rd).cA hA528 hj527 1 _ rfl) ?_
      refine r_rem (by decide) rfl rfl ?_
      refine r_ix IX25 rfl rfl hA528 h0525 (by have h1_ := (H68.g1).leneq; have h2_ := h1526; rw [← h1_] at h2_; exact h2_) ?_
      refine r_fa FA24_1 (((oA A34).add (Int.toNat i72 * 2)).add 1) rfl rfl ?_
      refine r_stx1 (K := K24) ((⟨(rd xs66 i72).Kind, Int.tmod ((rd xs66 i72).Amount) 1000000⟩ : api_Item)) hA528 LD3 rfl rfl rfl H68.u1 hj527 (by decide) rfl ?_
      intro wd530 H529
      refine r_seq ?_
      obtain ⟨⟨h0532, h1533⟩, hm⟩ := gd_some hm
      have hj534 := rd_get h0532 h1533
      obtain ⟨h535, hm⟩ := gd_some hm
      obtain ⟨⟨h536, h537, h538⟩, hm⟩ := gd_some hm
      refine Flow.run' [[], [], [], [1, 2], [1, 2, 3], [1, 2, 3, 4], [0, 1, 2, 3, 4, 5], [], [], [7, 8], [7, 8, 9], [7, 8, 9, 10], [0, 1, 2, 3, 4, 5, 6, 7, 8, 9, 10, 11], [0, 1, 2, 3, 4, 5, 6, 7, 8, 9, 10, 11, 12]] [(62, 0), (63, 1), (64, 2), (65, 3), (66, 4), (67, 5), (68, 6), (69, 7), (70, 8), (71, 9), (72, 10), (73, 11), (74, 12)] [(fun η531 v => v.1 = .map (some b37)), (fun η531 v => v.1 = .slice A34 y28.length c36), (fun η531 v => v.1 = .int .i64 i72), (fun η531 v => v.1 = .pointer (some ((oA A34).add (Int.toNat i72 * 2)))), (fun η531 v => v.1 = .pointer (some (((oA A34).add (Int.toNat i72 * 2)).add 0))), (fun η531 v => v.1 = .int .i64 ((rd (xs66.set (Int.toNat i72) (⟨(rd xs66 i72).Kind, Int.tmod ((rd xs66 i72).Amount) 1000000⟩ : api_Item)) i72).Kind)), (fun η531 v => v.1 = .int .i64 (mgetD mm67 ((rd (xs66.set (Int.toNat i72) (⟨(rd xs66 i72).Kind, Int.tmod ((rd xs66 i72).Amount) 1000000⟩ : api_Item)) i72).Kind))), (fun η531 v => v.1 = .slice A34 y28.length c36), (fun η531 v => v.1 = .int .i64 i72), (fun η531 v => v.1 = .pointer (some ((oA A34).add (Int.toNat i72 * 2)))), (fun η531 v => v.1 = .pointer (some (((oA A34).add (Int.toNat i72 * 2)).add 1))), (fun η531 v => v.1 = .int .i64 ((rd (xs66.set (Int.toNat i72) (⟨(rd xs66 i72).Kind, Int.tmod ((rd xs66 i72).Amount) 1000000⟩ : api_Item)) i72).Amount)), (fun η531 v => v.1 = .int .i64 (w64 (mgetD mm67 ((rd (xs66.set (Int.toNat i72) (⟨(rd xs66 i72).Kind, Int.tmod ((rd xs66 i72).Amount) 1000000⟩ : api_Item)) i72).Kind) + (rd (xs66.set (Int.toNat i72) (⟨(rd xs66 i72).Kind, Int.tmod ((rd xs66 i72).Amount) 1000000⟩ : api_Item)) i72).Amount))), (fun _ _ => True)] [⟨none, (some 13), fun η531 => MpI Try.prog 3 3 b37 mm67⟩, ⟨(some 13), none, fun η531 => MpI Try.prog 3 3 b37 (mput mm67 ((rd (xs66.set (Int.toNat i72) (⟨(rd xs66 i72).Kind, Int.tmod ((rd xs66 i72).Amount) 1000000⟩ : api_Item)) i72).Kind) (w64 (mgetD mm67 ((rd (xs66.set (Int.toNat i72) (⟨(rd xs66 i72).Kind, Int.tmod ((rd xs66 i72).Amount) 1000000⟩ : api_Item)) i72).Kind) + (rd (xs66.set (Int.toNat i72) (⟨(rd xs66 i72).Kind, Int.tmod ((rd xs66 i72).Amount) 1000000⟩ : api_Item)) i72).Amount)))⟩] rfl (by kernel_rfl) (by kernel_rfl) H529.u2 ⟨?_, ?_, ?_, ?_, ?_, ?_, ?_, ?_, ?_, ?_, ?_, ?_, ?_, ?_, trivial⟩ ?_
      · intro η531 wd544 Δ545 hE541 hR542 H543
        have H543 : Hp w0 ((Δ545 ++ (Row K24 (.slice A34 y28.length c36) (xs66.set (Int.toNat i72) (⟨(rd xs66 i72).Kind, Int.tmod ((rd xs66 i72).Amount) 1000000⟩ : api_Item)) :: Row K24 (.slice A25 y19.length c27) xs42 :: Γ))) wd544 := H543
        refine sp_op [(9, .map (some b37))] (ac rfl an) ?_
        refine r_pure (.map (some b37)) rfl ?_
        exact r_nil (n_lp ⟨_, rfl, undef, rfl, H543⟩)
      · intro η531 wd549 Δ550 hE546 hR547 H548
        have H548 : Hp w0 ((Δ550 ++ (Row K24 (.slice A34 y28.length c36) (xs66.set (Int.toNat i72) (⟨(rd xs66 i72).Kind, Int.tmod ((rd xs66 i72).Amount) 1000000⟩ : api_Item)) :: Row K24 (.slice A25 y19.length c27) xs42 :: Γ))) wd549 := H548
        refine sp_op [(8, .slice A34 y28.length c36)] (ac rfl an) ?_
        refine r_pure (.slice A34 y28.length c36) rfl ?_
        exact r_nil (n_lp ⟨_, rfl, undef, rfl, H548⟩)
      · intro η531 wd554 Δ555 hE551 hR552 H553
        have H553 : Hp w0 ((Δ555 ++ (Row K24 (.slice A34 y28.length c36) (xs66.set (Int.toNat i72) (⟨(rd xs66 i72).Kind, Int.tmod ((rd xs66 i72).Amount) 1000000⟩ : api_Item)) :: Row K24 (.slice A25 y19.length c27) xs42 :: Γ))) wd554 := H553
        refine sp_op [(11, .int .i64 i72)] (ac rfl an) ?_
        refine r_pure (.int .i64 i72) rfl ?_
        exact r_nil (n_lp ⟨_, rfl, undef, rfl, H553⟩)
      · intro η531 wd559 Δ560 hE556 hR557 H558
        have H558 : Hp w0 ((Δ560 ++ (Row K24 (.slice A34 y28.length c36) (xs66.set (Int.toNat i72) (⟨(rd xs66 i72).Kind, Int.tmod ((rd xs66 i72).Amount) 1000000⟩ : api_Item)) :: Row K24 (.slice A25 y19.length c27) xs42 :: Γ))) wd559 := H558
        refine sp_op [(63, .slice A34 y28.length c36), (64, .int .i64 i72)] (ac (hE556 1 (by decide)) (ac (hE556 2 (by decide)) an)) ?_
        refine r_ix IX25 rfl rfl hA528 h0532 (by have h1_ := ((H558).tl.g0).leneq; have h2_ := h1533; rw [← h1_] at h2_; exact h2_) ?_
        exact r_nil (n_lp ⟨_, rfl, undef, rfl, H558⟩)
      · intro η531 wd567 Δ568 hE564 hR565 H566
        have H566 : Hp w0 ((Δ568 ++ (Row K24 (.slice A34 y28.length c36) (xs66.set (Int.toNat i72) (⟨(rd xs66 i72).Kind, Int.tmod ((rd xs66 i72).Amount) 1000000⟩ : api_Item)) :: Row K24 (.slice A25 y19.length c27) xs42 :: Γ))) wd567 := H566
        refine sp_op [(65, .pointer (some ((oA A34).add (Int.toNat i72 * 2))))] (ac (hE564 3 (by decide)) an) ?_
        refine r_fa FA24_0 (((oA A34).add (Int.toNat i72 * 2)).add 0) rfl rfl ?_
        exact r_nil (n_lp ⟨_, rfl, undef, rfl, H566⟩)
      · intro η531 wd572 Δ573 hE569 hR570 H571
        have H571 : Hp w0 ((Δ573 ++ (Row K24 (.slice A34 y28.length c36) (xs66.set (Int.toNat i72) (⟨(rd xs66 i72).Kind, Int.tmod ((rd xs66 i72).Amount) 1000000⟩ : api_Item)) :: Row K24 (.slice A25 y19.length c27) xs42 :: Γ))) wd572 := H571
        refine sp_op [(66, .pointer (some (((oA A34).add (Int.toNat i72 * 2)).add 0)))] (ac (hE569 4 (by decide)) an) ?_
        refine r_ld1 (.int .i64 ((rd (xs66.set (Int.toNat i72) (⟨(rd xs66 i72).Kind, Int.tmod ((rd xs66 i72).Amount) 1000000⟩ : api_Item)) i72).Kind)) LD3 rfl (((H571).tl.g0.rd).cA hA528 hj534 0 _ rfl) ?_
        exact r_nil (n_lp ⟨_, rfl, undef, rfl, H571⟩)
      · intro η531 wd577 Δ578 hE574 hR575 H576
        have H576 : Hp w0 ((Δ578 ++ (Row K24 (.slice A34 y28.length c36) (xs66.set (Int.toNat i72) (⟨(rd xs66 i72).Kind, Int.tmod ((rd xs66 i72).Amount) 1000000⟩ : api_Item)) :: Row K24 (.slice A25 y19.length c27) xs42 :: Γ))) wd577 := H576
        refine sp_op [(62, .map (some b37)), (67, .int .i64 ((rd (xs66.set (Int.toNat i72) (⟨(rd xs66 i72).Kind, Int.tmod ((rd xs66 i72).Amount) 1000000⟩ : api_Item)) i72).Kind))] (ac (hE574 0 (by decide)) (ac (hE574 5 (by decide)) an)) ?_
        refine r_lookup MT39 rfl rfl (show (MpI Try.prog 3 3 b37 mm67) _ from (H576).memr (hR575 _ (List.mem_of_getElem? (i := 0) rfl) rfl)) h535 ?_
        exact r_nil (n_lp ⟨_, rfl, undef, rfl, H576⟩)
      · intro η531 wd583 Δ584 hE580 hR581 H582
        have H582 : Hp w0 ((Δ584 ++ (Row K24 (.slice A34 y28.length c36) (xs66.set (Int.toNat i72) (⟨(rd xs66 i72).Kind, Int.tmod ((rd xs66 i72).Amount) 1000000⟩ : api_Item)) :: Row K24 (.slice A25 y19.length c27) xs42 :: Γ))) wd583 := H582
        refine sp_op [(8, .slice A34 y28.length c36)] (ac rfl an) ?_
        refine r_pure (.slice A34 y28.length c36) rfl ?_
        exact r_nil (n_lp ⟨_, rfl, undef, rfl, H582⟩)
      · intro η531 wd588 Δ589 hE585 hR586 H587
        have H587 : Hp w0 ((Δ589 ++ (Row K24 (.slice A34 y28.length c36) (xs66.set (Int.toNat i72) (⟨(rd xs66 i72).Kind, Int.tmod ((rd xs66 i72).Amount) 1000000⟩ : api_Item)) :: Row K24 (.slice A25 y19.length c27) xs42 :: Γ))) wd588 := H587
        refine sp_op [(11, .int .i64 i72)] (ac rfl an) ?_
        refine r_pure (.int .i64 i72) rfl ?_
        exact r_nil (n_lp ⟨_, rfl, undef, rfl, H587⟩)
      · intro η531 wd593 Δ594 hE590 hR591 H592
        have H592 : Hp w0 ((Δ594 ++ (Row K24 (.slice A34 y28.length c36) (xs66.set (Int.toNat i72) (⟨(rd xs66 i72).Kind, Int.tmod ((rd xs66 i72).Amount) 1000000⟩ : api_Item)) :: Row K24 (.slice A25 y19.length c27) xs42 :: Γ))) wd593 := H592
        refine sp_op [(69, .slice A34 y28.length c36), (70, .int .i64 i72)] (ac (hE590 7 (by decide)) (ac (hE590 8 (by decide)) an)) ?_
        refine r_ix IX25 rfl rfl hA528 h0532 (by have h1_ := ((H592).tl.g0).leneq; have h2_ := h1533; rw [← h1_] at h2_; exact h2_) ?_
        exact r_nil (n_lp ⟨_, rfl, undef, rfl, H592⟩)
      · intro η531 wd598 Δ599 hE595 hR596 H597
        have H597 : Hp w0 ((Δ599 ++ (Row K24 (.slice A34 y28.length c36) (xs66.set (Int.toNat i72) (⟨(rd xs66 i72).Kind, Int.tmod ((rd xs66 i72).Amount) 1000000⟩ : api_Item)) :: Row K24 (.slice A25 y19.length c27) xs42 :: Γ))) wd598 := H597
        refine sp_op [(71, .pointer (some ((oA A34).add (Int.toNat i72 * 2))))] (ac (hE595 9 (by decide)) an) ?_
        refine r_fa FA24_1 (((oA A34).add (Int.toNat i72 * 2)).add 1) rfl rfl ?_
        exact r_nil (n_lp ⟨_, rfl, undef, rfl, H597⟩)
      · intro η531 wd603 Δ604 hE600 hR601 H602
        have H602 : Hp w0 ((Δ604 ++ (Row K24 (.slice A34 y28.length c36) (xs66.set (Int.toNat i72) (⟨(rd xs66 i72).Kind, Int.tmod ((rd xs66 i72).Amount) 1000000⟩ : api_Item)) :: Row K24 (.slice A25 y19.length c27) xs42 :: Γ))) wd603 := H602
        refine sp_op [(72, .pointer (some (((oA A34).add (Int.toNat i72 * 2)).add 1)))] (ac (hE600 10 (by decide)) an) ?_
        refine r_ld1 (.int .i64 ((rd (xs66.set (Int.toNat i72) (⟨(rd xs66 i72).Kind, Int.tmod ((rd xs66 i72).Amount) 1000000⟩ : api_Item)) i72).Amount)) LD3 rfl (((H602).tl.g0.rd).cA hA528 hj534 1 _ rfl) ?_
        exact r_nil (n_lp ⟨_, rfl, undef, rfl, H602⟩)
      · intro η531 wd608 Δ609 hE605 hR606 H607
        have H607 : Hp w0 ((Δ609 ++ (Row K24 (.slice A34 y28.length c36) (xs66.set (Int.toNat i72) (⟨(rd xs66 i72).Kind, Int.tmod ((rd xs66 i72).Amount) 1000000⟩ : api_Item)) :: Row K24 (.slice A25 y19.length c27) xs42 :: Γ))) wd608 := H607
        refine sp_op [(68, .int .i64 (mgetD mm67 ((rd (xs66.set (Int.toNat i72) (⟨(rd xs66 i72).Kind, Int.tmod ((rd xs66 i72).Amount) 1000000⟩ : api_Item)) i72).Kind))), (73, .int .i64 ((rd (xs66.set (Int.toNat i72) (⟨(rd xs66 i72).Kind, Int.tmod ((rd xs66 i72).Amount) 1000000⟩ : api_Item)) i72).Amount))] (ac (hE605 6 (by decide)) (ac (hE605 11 (by decide)) an)) ?_
        refine r_pure (.int .i64 (w64 (mgetD mm67 ((rd (xs66.set (Int.toNat i72) (⟨(rd xs66 i72).Kind, Int.tmod ((rd xs66 i72).Amount) 1000000⟩ : api_Item)) i72).Kind) + (rd (xs66.set (Int.toNat i72) (⟨(rd xs66 i72).Kind, Int.tmod ((rd xs66 i72).Amount) 1000000⟩ : api_Item)) i72).Amount))) rfl ?_
        exact r_nil (n_lp ⟨_, rfl, undef, rfl, H607⟩)
      · intro η531 wd613 Δ614 hE610 hR611 H612
        have H612 : Hp w0 (MpI Try.prog 3 3 b37 mm67 :: (Δ614 ++ (Row K24 (.slice A34 y28.length c36) (xs66.set (Int.toNat i72) (⟨(rd xs66 i72).Kind, Int.tmod ((rd xs66 i72).Amount) 1000000⟩ : api_Item)) :: Row K24 (.slice A25 y19.length c27) xs42 :: Γ))) wd613 := H612
        refine sp_op [(62, .map (some b37)), (67, .int .i64 ((rd (xs66.set (Int.toNat i72) (⟨(rd xs66 i72).Kind, Int.tmod ((rd xs66 i72).Amount) 1000000⟩ : api_Item)) i72).Kind)), (74, .int .i64 (w64 (mgetD mm67 ((rd (xs66.set (Int.toNat i72) (⟨(rd xs66 i72).Kind, Int.tmod ((rd xs66 i72).Amount) 1000000⟩ : api_Item)) i72).Kind) + (rd (xs66.set (Int.toNat i72) (⟨(rd xs66 i72).Kind, Int.tmod ((rd xs66 i72).Amount) 1000000⟩ : api_Item)) i72).Amount)))] (ac (hE610 0 (by decide)) (ac (hE610 5 (by decide)) (ac (hE610 12 (by decide)) an))) ?_
        refine r_mapUpdate MT39 rfl rfl rfl H612 ⟨h536, h537, h538⟩ ?_
        intro wd619 H618
        exact r_nil (n_lp ⟨_, rfl, (.tuple #[.pointer (some ⟨b37, 0, none⟩)]), trivial, H618⟩)
      · intro η531 wd621 hV622 H620
        have H623 : Hp w0 (MpI Try.prog 3 3 b37 (mput mm67 ((rd (xs66.set (Int.toNat i72) (⟨(rd xs66 i72).Kind, Int.tmod ((rd xs66 i72).Amount) 1000000⟩ : api_Item)) i72).Kind) (w64 (mgetD mm67 ((rd (xs66.set (Int.toNat i72) (⟨(rd xs66 i72).Kind, Int.tmod ((rd xs66 i72).Amount) 1000000⟩ : api_Item)) i72).Kind) + (rd (xs66.set (Int.toNat i72) (⟨(rd xs66 i72).Kind, Int.tmod ((rd xs66 i72).Amount) 1000000⟩ : api_Item)) i72).Amount))) :: Row K24 (.slice A34 y28.length c36) (xs66.set (Int.toNat i72) (⟨(rd xs66 i72).Kind, Int.tmod ((rd xs66 i72).Amount) 1000000⟩ : api_Item)) :: Row K24 (.slice A25 y19.length c27) xs42 :: Γ) wd621 := H620
        refine n_frame [(7, .slice A25 y19.length c27), (8, .slice A34 y28.length c36), (9, .map (some b37)), (50, .int .i64 (y28.length : Int)), (51, .int .i64 i72)] (ac rfl (ac rfl (ac rfl (ac rfl (ac rfl an))))) ?_
        refine n_bl ?_
        refine n_sq ?_
        refine st_region ?_
        refine r_pure (.int .i64 (w64 (i72 + 1))) rfl ?_
        refine r_pure (.int .i64 (w64 (i72 + 1))) rfl ?_
        refine r_nil ?_
        refine n_round (IH80 _ _ rfl _ _ _ ⟨i72 + 1, xs66.set (Int.toNat i72) (⟨(rd xs66 i72).Kind, Int.tmod ((rd xs66 i72).Amount) 1000000⟩ : api_Item), mput mm67 ((rd (xs66.set (Int.toNat i72) (⟨(rd xs66 i72).Kind, Int.tmod ((rd xs66 i72).Amount) 1000000⟩ : api_Item)) i72).Kind) (w64 (mgetD mm67 ((rd (xs66.set (Int.toNat i72) (⟨(rd xs66 i72).Kind, Int.tmod ((rd xs66 i72).Amount) 1000000⟩ : api_Item)) i72).Kind) + (rd (xs66.set (Int.toNat i72) (⟨(rd xs66 i72).Kind, Int.tmod ((rd xs66 i72).Amount) 1000000⟩ : api_Item)) i72).Amount)), dn73 ++ [y77], rfl, range_more hxs74, range_len hi75, upk (ac rfl (ac rfl (ac rfl (ac rfl (ac hnx86 an))))), H623.u1.u2⟩ hm)
  · rw [scutagelaw25_FxAdds.l1] at hm
    have hb58 := range_in hxs50 hi51
    obtain ⟨h059, h160, hj61⟩ := range_ix hxs50 hi51
    have hnx62 := range_next hxs50 hi51 hlim63
    refine st_seq ?_
    refine st_region ?_
    refine r_pure (.bool (decide (i48 < (y19.length : Int)))) rfl ?_
    refine r_seq ?_
    refine st_seq ?_
    refine st_condt hb58 rfl ?_
    refine st_skip ?_
    refine n_sq ?_
    refine st_seq ?_
    refine st_block ?_
    refine st_seq ?_
    refine st_region ?_
    refine r_pure (.int .i64 i48) rfl ?_
    refine r_pure (.int .i64 i48) rfl ?_
    refine r_seq ?_
    refine st_seq ?_
    refine st_region ?_
    refine r_pure (.slice A25 y19.length c27) rfl ?_
    refine r_pure (.int .i64 i48) rfl ?_
    obtain ⟨⟨h0624, h1625⟩, hm⟩ := gd_some hm
    have hj626 := rd_get h0624 h1625
    have hA627 := (H44.g0.rd).adO hj626
    refine r_ix IX25 rfl rfl hA627 h0624 (by have h1_ := (H44.g0).leneq; have h2_ := h1625; rw [← h1_] at h2_; exact h2_) ?_
    refine r_fa FA24_1 (((oA A25).add (Int.toNat i48 * 2)).add 1) rfl rfl ?_
    refine r_ld1 (.int .i64 ((rd xs42 i48).Amount)) LD3 rfl ((H44.g0.rd).cA hA627 hj626 1 _ rfl) ?_
    refine r_rem (by decide) rfl rfl ?_
    refine r_ix IX25 rfl rfl hA627 h0624 (by have h1_ := (H44.g0).leneq; have h2_ := h1625; rw [← h1_] at h2_; exact h2_) ?_
    refine r_fa FA24_1 (((oA A25).add (Int.toNat i48 * 2)).add 1) rfl rfl ?_
    refine r_stx1 (K := K24) ((⟨(rd xs42 i48).Kind, Int.tmod ((rd xs42 i48).Amount) 1000000⟩ : api_Item)) hA627 LD3 rfl rfl rfl H44 hj626 (by decide) rfl ?_
    intro wd629 H628
    refine r_seq ?_
    obtain ⟨⟨h0631, h1632⟩, hm⟩ := gd_some hm
    have hj633 := rd_get h0631 h1632
    obtain ⟨h634, hm⟩ := gd_some hm
    obtain ⟨⟨h635, h636, h637⟩, hm⟩ := gd_some hm
    refine Flow.run' [[], [], [], [1, 2], [1, 2, 3], [1, 2, 3, 4], [0, 1, 2, 3, 4, 5], [], [], [7, 8], [7, 8, 9], [7, 8, 9, 10], [0, 1, 2, 3, 4, 5, 6, 7, 8, 9, 10, 11], [0, 1, 2, 3, 4, 5, 6, 7, 8, 9, 10, 11, 12]] [(35, 0), (36, 1), (37, 2), (38, 3), (39, 4), (40, 5), (41, 6), (42, 7), (43, 8), (44, 9), (45, 10), (46, 11), (47, 12)] [(fun η630 v => v.1 = .map (some b37)), (fun η630 v => v.1 = .slice A25 y19.length c27), (fun η630 v => v.1 = .int .i64 i48), (fun η630 v => v.1 = .pointer (some ((oA A25).add (Int.toNat i48 * 2)))), (fun η630 v => v.1 = .pointer (some (((oA A25).add (Int.toNat i48 * 2)).add 0))), (fun η630 v => v.1 = .int .i64 ((rd (xs42.set (Int.toNat i48) (⟨(rd xs42 i48).Kind, Int.tmod ((rd xs42 i48).Amount) 1000000⟩ : api_Item)) i48).Kind)), (fun η630 v => v.1 = .int .i64 (mgetD mm43 ((rd (xs42.set (Int.toNat i48) (⟨(rd xs42 i48).Kind, Int.tmod ((rd xs42 i48).Amount) 1000000⟩ : api_Item)) i48).Kind))), (fun η630 v => v.1 = .slice A25 y19.length c27), (fun η630 v => v.1 = .int .i64 i48), (fun η630 v => v.1 = .pointer (some ((oA A25).add (Int.toNat i48 * 2)))), (fun η630 v => v.1 = .pointer (some (((oA A25).add (Int.toNat i48 * 2)).add 1))), (fun η630 v => v.1 = .int .i64 ((rd (xs42.set (Int.toNat i48) (⟨(rd xs42 i48).Kind, Int.tmod ((rd xs42 i48).Amount) 1000000⟩ : api_Item)) i48).Amount)), (fun η630 v => v.1 = .int .i64 (w64 (mgetD mm43 ((rd (xs42.set (Int.toNat i48) (⟨(rd xs42 i48).Kind, Int.tmod ((rd xs42 i48).Amount) 1000000⟩ : api_Item)) i48).Kind) + (rd (xs42.set (Int.toNat i48) (⟨(rd xs42 i48).Kind, Int.tmod ((rd xs42 i48).Amount) 1000000⟩ : api_Item)) i48).Amount))), (fun _ _ => True)] [⟨none, (some 13), fun η630 => MpI Try.prog 3 3 b37 mm43⟩, ⟨(some 13), none, fun η630 => MpI Try.prog 3 3 b37 (mput mm43 ((rd (xs42.set (Int.toNat i48) (⟨(rd xs42 i48).Kind, Int.tmod ((rd xs42 i48).Amount) 1000000⟩ : api_Item)) i48).Kind) (w64 (mgetD mm43 ((rd (xs42.set (Int.toNat i48) (⟨(rd xs42 i48).Kind, Int.tmod ((rd xs42 i48).Amount) 1000000⟩ : api_Item)) i48).Kind) + (rd (xs42.set (Int.toNat i48) (⟨(rd xs42 i48).Kind, Int.tmod ((rd xs42 i48).Amount) 1000000⟩ : api_Item)) i48).Amount)))⟩] rfl (by kernel_rfl) (by kernel_rfl) H628.u2 ⟨?_, ?_, ?_, ?_, ?_, ?_, ?_, ?_, ?_, ?_, ?_, ?_, ?_, ?_, trivial⟩ ?_
    · intro η630 wd643 Δ644 hE640 hR641 H642
      have H642 : Hp w0 ((Δ644 ++ (Row K24 (.slice A25 y19.length c27) (xs42.set (Int.toNat i48) (⟨(rd xs42 i48).Kind, Int.tmod ((rd xs42 i48).Amount) 1000000⟩ : api_Item)) :: Row K24 (.slice A34 y28.length c36) y28 :: Γ))) wd643 := H642
      refine sp_op [(9, .map (some b37))] (ac rfl an) ?_
      refine r_pure (.map (some b37)) rfl ?_
      exact r_nil (n_lp ⟨_, rfl, undef, rfl, H642⟩)
    · intro η630 wd648 Δ649 hE645 hR646 H647
      have H647 : Hp w0 ((Δ649 ++ (Row K24 (.slice A25 y19.length c27) (xs42.set (Int.toNat i48) (⟨(rd xs42 i48).Kind, Int.tmod ((rd xs42 i48).Amount) 1000000⟩ : api_Item)) :: Row K24 (.slice A34 y28.length c36) y28 :: Γ))) wd648 := H647
      refine sp_op [(7, .slice A25 y19.length c27)] (ac rfl an) ?_
      refine r_pure (.slice A25 y19.length c27) rfl ?_
      exact r_nil (n_lp ⟨_, rfl, undef, rfl, H647⟩)
    · intro η630 wd653 Δ654 hE650 hR651 H652
      have H652 : Hp w0 ((Δ654 ++ (Row K24 (.slice A25 y19.length c27) (xs42.set (Int.toNat i48) (⟨(rd xs42 i48).Kind, Int.tmod ((rd xs42 i48).Amount) 1000000⟩ : api_Item)) :: Row K24 (.slice A34 y28.length c36) y28 :: Γ))) wd653 := H652
      refine sp_op [(10, .int .i64 i48)] (ac rfl an) ?_
      refine r_pure (.int .i64 i48) rfl ?_
      exact r_nil (n_lp ⟨_, rfl, undef, rfl, H652⟩)
    · intro η630 wd658 Δ659 hE655 hR656 H657
      have H657 : Hp w0 ((Δ659 ++ (Row K24 (.slice A25 y19.length c27) (xs42.set (Int.toNat i48) (⟨(rd xs42 i48).Kind, Int.tmod ((rd xs42 i48).Amount) 1000000⟩ : api_Item)) :: Row K24 (.slice A34 y28.length c36) y28 :: Γ))) wd658 := H657
      refine sp_op [(36, .slice A25 y19.length c27), (37, .int .i64 i48)] (ac (hE655 1 (by decide)) (ac (hE655 2 (by decide)) an)) ?_
      refine r_ix IX25 rfl rfl hA627 h0631 (by have h1_ := ((H657).tl.g0).leneq; have h2_ := h1632; rw [← h1_] at h2_; exact h2_) ?_
      exact r_nil (n_lp ⟨_, rfl, undef, rfl, H657⟩)
    · intro η630 wd666 Δ667 hE663 hR664 H665
      have H665 : Hp w0 ((Δ667 ++ (Row K24 (.slice A25 y19.length c27) (xs42.set (Int.toNat i48) (⟨(rd xs42 i48).Kind, Int.tmod ((rd xs42 i48).Amount) 1000000⟩ : api_Item)) :: Row K24 (.slice A34 y28.length c36) y28 :: Γ))) wd666 := H665
      refine sp_op [(38, .pointer (some ((oA A25).add (Int.toNat i48 * 2))))] (ac (hE663 3 (by decide)) an) ?_
      refine r_fa FA24_0 (((oA A25).add (Int.toNat i48 * 2)).add 0) rfl rfl ?_
      exact r_nil (n_lp ⟨_, rfl, undef, rfl, H665⟩)
    · intro η630 wd671 Δ672 hE668 hR669 H670
      have H670 : Hp w0 ((Δ672 ++ (Row K24 (.slice A25 y19.length c27) (xs42.set (Int.toNat i48) (⟨(rd xs42 i48).Kind, Int.tmod ((rd xs42 i48).Amount) 1000000⟩ : api_Item)) :: Row K24 (.slice A34 y28.length c36) y28 :: Γ))) wd671 := H670
      refine sp_op [(39, .pointer (some (((oA A25).add (Int.toNat i48 * 2)).add 0)))] (ac (hE668 4 (by decide)) an) ?_
      refine r_ld1 (.int .i64 ((rd (xs42.set (Int.toNat i48) (⟨(rd xs42 i48).Kind, Int.tmod ((rd xs42 i48).Amount) 1000000⟩ : api_Item)) i48).Kind)) LD3 rfl (((H670).tl.g0.rd).cA hA627 hj633 0 _ rfl) ?_
      exact r_nil (n_lp ⟨_, rfl, undef, rfl, H670⟩)
    · intro η630 wd676 Δ677 hE673 hR674 H675
      have H675 : Hp w0 ((Δ677 ++ (Row K24 (.slice A25 y19.length c27) (xs42.set (Int.toNat i48) (⟨(rd xs42 i48).Kind, Int.tmod ((rd xs42 i48).Amount) 1000000⟩ : api_Item)) :: Row K24 (.slice A34 y28.length c36) y28 :: Γ))) wd676 := H675
      refine sp_op [(35, .map (some b37)), (40, .int .i64 ((rd (xs42.set (Int.toNat i48) (⟨(rd xs42 i48).Kind, Int.tmod ((rd xs42 i48).Amount) 1000000⟩ : api_Item)) i48).Kind))] (ac (hE673 0 (by decide)) (ac (hE673 5 (by decide)) an)) ?_
      refine r_lookup MT39 rfl rfl (show (MpI Try.prog 3 3 b37 mm43) _ from (H675).memr (hR674 _ (List.mem_of_getElem? (i := 0) rfl) rfl)) h634 ?_
      exact r_nil (n_lp ⟨_, rfl, undef, rfl, H675⟩)
    · intro η630 wd682 Δ683 hE679 hR680 H681
      have H681 : Hp w0 ((Δ683 ++ (Row K24 (.slice A25 y19.length c27) (xs42.set (Int.toNat i48) (⟨(rd xs42 i48).Kind, Int.tmod ((rd xs42 i48).Amount) 1000000⟩ : api_Item)) :: Row K24 (.slice A34 y28.length c36) y28 :: Γ))) wd682 := H681
      refine sp_op [(7, .slice A25 y19.length c27)] (ac rfl an) ?_
      refine r_pure (.slice A25 y19.length c27) rfl ?_
      exact r_nil (n_lp ⟨_, rfl, undef, rfl, H681⟩)
    · intro η630 wd687 Δ688 hE684 hR685 H686
      have H686 : Hp w0 ((Δ688 ++ (Row K24 (.slice A25 y19.length c27) (xs42.set (Int.toNat i48) (⟨(rd xs42 i48).Kind, Int.tmod ((rd xs42 i48).Amount) 1000000⟩ : api_Item)) :: Row K24 (.slice A34 y28.length c36) y28 :: Γ))) wd687 := H686
      refine sp_op [(10, .int .i64 i48)] (ac rfl an) ?_
      refine r_pure (.int .i64 i48) rfl ?_
      exact r_nil (n_lp ⟨_, rfl, undef, rfl, H686⟩)
    · intro η630 wd692 Δ693 hE689 hR690 H691
      have H691 : Hp w0 ((Δ693 ++ (Row K24 (.slice A25 y19.length c27) (xs42.set (Int.toNat i48) (⟨(rd xs42 i48).Kind, Int.tmod ((rd xs42 i48).Amount) 1000000⟩ : api_Item)) :: Row K24 (.slice A34 y28.length c36) y28 :: Γ))) wd692 := H691
      refine sp_op [(42, .slice A25 y19.length c27), (43, .int .i64 i48)] (ac (hE689 7 (by decide)) (ac (hE689 8 (by decide)) an)) ?_
      refine r_ix IX25 rfl rfl hA627 h0631 (by have h1_ := ((H691).tl.g0).leneq; have h2_ := h1632; rw [← h1_] at h2_; exact h2_) ?_
      exact r_nil (n_lp ⟨_, rfl, undef, rfl, H691⟩)
    · intro η630 wd697 Δ698 hE694 hR695 H696
      have H696 : Hp w0 ((Δ698 ++ (Row K24 (.slice A25 y19.length c27) (xs42.set (Int.toNat i48) (⟨(rd xs42 i48).Kind, Int.tmod ((rd xs42 i48).Amount) 1000000⟩ : api_Item)) :: Row K24 (.slice A34 y28.length c36) y28 :: Γ))) wd697 := H696
      refine sp_op [(44, .pointer (some ((oA A25).add (Int.toNat i48 * 2))))] (ac (hE694 9 (by decide)) an) ?_
      refine r_fa FA24_1 (((oA A25).add (Int.toNat i48 * 2)).add 1) rfl rfl ?_
      exact r_nil (n_lp ⟨_, rfl, undef, rfl, H696⟩)
    · intro η630 wd702 Δ703 hE699 hR700 H701
      have H701 : Hp w0 ((Δ703 ++ (Row K24 (.slice A25 y19.length c27) (xs42.set (Int.toNat i48) (⟨(rd xs42 i48).Kind, Int.tmod ((rd xs42 i48).Amount) 1000000⟩ : api_Item)) :: Row K24 (.slice A34 y28.length c36) y28 :: Γ))) wd702 := H701
      refine sp_op [(45, .pointer (some (((oA A25).add (Int.toNat i48 * 2)).add 1)))] (ac (hE699 10 (by decide)) an) ?_
      refine r_ld1 (.int .i64 ((rd (xs42.set (Int.toNat i48) (⟨(rd xs42 i48).Kind, Int.tmod ((rd xs42 i48).Amount) 1000000⟩ : api_Item)) i48).Amount)) LD3 rfl (((H701).tl.g0.rd).cA hA627 hj633 1 _ rfl) ?_
      exact r_nil (n_lp ⟨_, rfl, undef, rfl, H701⟩)
    · intro η630 wd707 Δ708 hE704 hR705 H706
      have H706 : Hp w0 ((Δ708 ++ (Row K24 (.slice A25 y19.length c27) (xs42.set (Int.toNat i48) (⟨(rd xs42 i48).Kind, Int.tmod ((rd xs42 i48).Amount) 1000000⟩ : api_Item)) :: Row K24 (.slice A34 y28.length c36) y28 :: Γ))) wd707 := H706
      refine sp_op [(41, .int .i64 (mgetD mm43 ((rd (xs42.set (Int.toNat i48) (⟨(rd xs42 i48).Kind, Int.tmod ((rd xs42 i48).Amount) 1000000⟩ : api_Item)) i48).Kind))), (46, .int .i64 ((rd (xs42.set (Int.toNat i48) (⟨(rd xs42 i48).Kind, Int.tmod ((rd xs42 i48).Amount) 1000000⟩ : api_Item)) i48).Amount))] (ac (hE704 6 (by decide)) (ac (hE704 11 (by decide)) an)) ?_
      refine r_pure (.int .i64 (w64 (mgetD mm43 ((rd (xs42.set (Int.toNat i48) (⟨(rd xs42 i48).Kind, Int.tmod ((rd xs42 i48).Amount) 1000000⟩ : api_Item)) i48).Kind) + (rd (xs42.set (Int.toNat i48) (⟨(rd xs42 i48).Kind, Int.tmod ((rd xs42 i48).Amount) 1000000⟩ : api_Item)) i48).Amount))) rfl ?_
      exact r_nil (n_lp ⟨_, rfl, undef, rfl, H706⟩)
    · intro η630 wd712 Δ713 hE709 hR710 H711
      have H711 : Hp w0 (MpI Try.prog 3 3 b37 mm43 :: (Δ713 ++ (Row K24 (.slice A25 y19.length c27) (xs42.set (Int.toNat i48) (⟨(rd xs42 i48).Kind, Int.tmod ((rd xs42 i48).Amount) 1000000⟩ : api_Item)) :: Row K24 (.slice A34 y28.length c36) y28 :: Γ))) wd712 := H711
      refine sp_op [(35, .map (some b37)), (40, .int .i64 ((rd (xs42.set (Int.toNat i48) (⟨(rd xs42 i48).Kind, Int.tmod ((rd xs42 i48).Amount) 1000000⟩ : api_Item)) i48).Kind)), (47, .int .i64 (w64 (mgetD mm43 ((rd (xs42.set (Int.toNat i48) (⟨(rd xs42 i48).Kind, Int.tmod ((rd xs42 i48).Amount) 1000000⟩ : api_Item)) i48).Kind) + (rd (xs42.set (Int.toNat i48) (⟨(rd xs42 i48).Kind, Int.tmod ((rd xs42 i48).Amount) 1000000⟩ : api_Item)) i48).Amount)))] (ac (hE709 0 (by decide)) (ac (hE709 5 (by decide)) (ac (hE709 12 (by decide)) an))) ?_
      refine r_mapUpdate MT39 rfl rfl rfl H711 ⟨h635, h636, h637⟩ ?_
      intro wd718 H717
      exact r_nil (n_lp ⟨_, rfl, (.tuple #[.pointer (some ⟨b37, 0, none⟩)]), trivial, H717⟩)
    · intro η630 wd720 hV721 H719
      have H722 : Hp w0 (MpI Try.prog 3 3 b37 (mput mm43 ((rd (xs42.set (Int.toNat i48) (⟨(rd xs42 i48).Kind, Int.tmod ((rd xs42 i48).Amount) 1000000⟩ : api_Item)) i48).Kind) (w64 (mgetD mm43 ((rd (xs42.set (Int.toNat i48) (⟨(rd xs42 i48).Kind, Int.tmod ((rd xs42 i48).Amount) 1000000⟩ : api_Item)) i48).Kind) + (rd (xs42.set (Int.toNat i48) (⟨(rd xs42 i48).Kind, Int.tmod ((rd xs42 i48).Amount) 1000000⟩ : api_Item)) i48).Amount))) :: Row K24 (.slice A25 y19.length c27) (xs42.set (Int.toNat i48) (⟨(rd xs42 i48).Kind, Int.tmod ((rd xs42 i48).Amount) 1000000⟩ : api_Item)) :: Row K24 (.slice A34 y28.length c36) y28 :: Γ) wd720 := H719
      refine n_frame [(7, .slice A25 y19.length c27), (8, .slice A34 y28.length c36), (9, .map (some b37)), (23, .int .i64 (y19.length : Int)), (24, .int .i64 i48)] (ac rfl (ac rfl (ac rfl (ac rfl (ac rfl an))))) ?_
      refine n_bl ?_
      refine n_sq ?_
      refine st_region ?_
      refine r_pure (.int .i64 (w64 (i48 + 1))) rfl ?_
      refine r_pure (.int .i64 (w64 (i48 + 1))) rfl ?_
      refine r_nil ?_
      refine n_round (IH56 _ _ rfl _ _ _ ⟨i48 + 1, xs42.set (Int.toNat i48) (⟨(rd xs42 i48).Kind, Int.tmod ((rd xs42 i48).Amount) 1000000⟩ : api_Item), mput mm43 ((rd (xs42.set (Int.toNat i48) (⟨(rd xs42 i48).Kind, Int.tmod ((rd xs42 i48).Amount) 1000000⟩ : api_Item)) i48).Kind) (w64 (mgetD mm43 ((rd (xs42.set (Int.toNat i48) (⟨(rd xs42 i48).Kind, Int.tmod ((rd xs42 i48).Amount) 1000000⟩ : api_Item)) i48).Kind) + (rd (xs42.set (Int.toNat i48) (⟨(rd xs42 i48).Kind, Int.tmod ((rd xs42 i48).Amount) 1000000⟩ : api_Item)) i48).Amount)), dn49 ++ [y53], rfl, range_more hxs50, range_len hi51, upk (ac rfl (ac rfl (ac rfl (ac rfl (ac hnx62 an))))), H722.u2.u2⟩ hm)


end Go.Proofs.Ytfoefkihcnenaaa
