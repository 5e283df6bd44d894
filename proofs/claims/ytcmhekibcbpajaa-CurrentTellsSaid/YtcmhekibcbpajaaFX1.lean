/- The Go functions come to their models: printed by gen.py. -/
import Derived.Test.YtcmhekibcbpajaaFX0
set_option linter.unusedVariables false
set_option linter.unusedSimpArgs false
set_option maxRecDepth 100000
namespace Go.Proofs.Ytcmhekibcbpajaa
open Go Go.RowKit
attribute [local irreducible] W R N L Hp Row SlR Bx

set_option maxHeartbeats 2000000 in
theorem vintage_Losses_Take_ok {w0 w : World} {Γ : List (World → Prop)} (b1 : Nat) (l_ : vintage_Losses) (A2 : Option Addr) (c3 : Nat) (used : List Int) (A4 : Option Addr) (n9 c5 : Nat) (hn8 : n9 = used.length) (hc6 : used.length ≤ c5) (hv7 : ∀ u, Hp w0 Γ u → SlR K3 A4 used u) (r0_ : Int) (r1_ : vintage_Losses) (H : Hp w0 (Bx b1 75 [.slice A2 l_.f_l.length c3] :: Row K38 (.slice A2 l_.f_l.length c3) l_.f_l :: Γ) w) (hm : vintage_Losses_Take l_ used = some (r0_, r1_)) : Calls Try.prog 18 #[.pointer (some ⟨b1, 0, none⟩), .slice A4 n9 c5] w (fun e w => ∃ (Ax1 : Option Addr) (nx2 cx3 : Nat), e = .returned (.int .i64 r0_) ∧ Hp w0 (Bx b1 75 [.slice Ax1 nx2 cx3] :: Row K38 (.slice Ax1 nx2 cx3) r1_.f_l :: Γ) w) := by
  subst hn8
  unfold vintage_Losses_Take at hm
  refine st_enter Try.func18 rfl Try.ntmps18 (Nat.le_of_ble_eq_true rfl) ?_
  refine st_seq ?_
  refine st_region ?_
  refine r_pure (.int .i64 0) rfl ?_
  refine r_seq ?_
  refine st_seq ?_
  refine st_seq ?_
  refine st_region ?_
  refine r_pure (.slice A4 used.length c5) rfl ?_
  refine r_len Try.underlying29 rfl ?_
  refine r_pure (.pointer (some ⟨b1, 0, none⟩)) rfl ?_
  refine r_pure (.pointer (some ⟨b1, 0, none⟩)) rfl ?_
  refine r_fa FA75_0 ⟨b1, 0, none⟩ rfl rfl ?_
  refine r_ld1 (.slice A2 l_.f_l.length c3) LD26 rfl ((H.g0).cell _ rfl) ?_
  refine r_len Try.underlying26 rfl ?_
  refine r_pure (.bool ((used.length : Int) != (l_.f_l.length : Int))) rfl ?_
  refine r_seq ?_
  rcases ite_some hm with ⟨hb10, hm⟩ | ⟨hb10, hm⟩
  · refine st_condt hb10 rfl ?_
    refine st_seq ?_
    refine st_region ?_
    refine r_pure (.int .i64 1) rfl ?_
    refine r_seq ?_
    obtain ⟨rfl, rfl⟩ := some_inj2 hm
    refine st_ret1 rfl rfl (Nat.le_of_ble_eq_true rfl) rfl ?_
    exact ⟨A2, l_.f_l.length, c3, rfl, H.u1.u1⟩
  · refine st_condf hb10 rfl ?_
    refine st_skip ?_
    refine n_sq ?_
    refine st_seq ?_
    refine st_seq ?_
    refine st_region ?_
    refine r_pure (.slice A4 used.length c5) rfl ?_
    refine r_len Try.underlying29 rfl ?_
    refine r_pure (.int .i64 0) rfl ?_
    refine r_seq ?_
    refine st_block ?_
    have hlim30 := (hv7 _ H.d.d).lim
    obtain ⟨tl13, hl14, hm12⟩ := bind_some hm
    refine st_loopL (vintage_Losses_Take.l1 l_) (fun ys19 s ρ w => ∃ i15 : Int, ∃ dn16 : List Int, i15 = s ∧ used = dn16 ++ ys19 ∧ i15 = (dn16.length : Int) ∧ (∃ base, ρ = updl base [(0, .pointer (some ⟨b1, 0, none⟩)), (1, .slice A4 used.length c5), (18, .slice A4 used.length c5), (19, .int .i64 (used.length : Int)), (20, .int .i64 i15)]) ∧ Hp w0 (Row K38 (.slice A2 l_.f_l.length c3) l_.f_l :: Bx b1 75 [.slice A2 l_.f_l.length c3] :: Γ) w) hl14 ⟨0, [], rfl, rfl, rfl, upk (ac rfl (ac rfl (ac rfl (ac rfl (ac rfl an))))), H.u1⟩ ?_
    rintro m ys19 IH23 s ρ w ⟨i15, dn16, rfl, hxs17, hi18, ⟨base, rfl⟩, H11⟩ hm
    rcases ys19 with _ | ⟨y20, ys19⟩
    · rw [vintage_Losses_Take.l1] at hm
      have hb24 := range_end hxs17 hi18
      refine st_seq ?_
      refine st_region ?_
      refine r_pure (.bool (decide (i15 < (used.length : Int)))) rfl ?_
      refine r_seq ?_
      refine st_seq ?_
      refine st_condf hb24 rfl ?_
      have hq_ := Option.some.inj hm
      refine st_exit rfl ?_
      subst hq_
      refine n_sq ?_
      refine st_seq ?_
      refine st_region ?_
      refine r_pure (.pointer (some ⟨b1, 0, none⟩)) rfl ?_
      obtain ⟨y31, hy32, hm⟩ := bind_some hm12
      refine r_callf Try.call22 (vintage_Losses_Rows_ok b1 (⟨l_.f_l⟩ : vintage_Losses) A2 l_.f_l.length c3 rfl (((H11).g0).cap) (fun _ H => (H.g0.rd)) (fun _ H => (H.g1)) y31 H11 hy32) ?_
      rintro e34 wd33 ⟨A37, n38, c39, rfl, H36⟩
      obtain rfl := (H36.g0).leneq
      refine ⟨_, rfl, ?_⟩
      refine r_pure (.slice A37 y31.length c39) rfl ?_
      refine r_seq ?_
      refine st_seq ?_
      refine st_seq ?_
      refine st_region ?_
      refine r_pure (.slice A4 used.length c5) rfl ?_
      refine r_len Try.underlying29 rfl ?_
      refine r_pure (.int .i64 0) rfl ?_
      refine r_seq ?_
      refine st_block ?_
      have hlim61 := (hv7 _ H36.d.d.d).lim
      obtain ⟨tl44, hl45, hm43⟩ := bind_some hm
      refine st_loopL (vintage_Losses_Take.l2) (fun ys50 s ρ w => ∃ i46 : Int, ∃ xs41 : List api_Vintage, ∃ dn47 : List Int, (i46, xs41) = s ∧ used = dn47 ++ ys50 ∧ i46 = (dn47.length : Int) ∧ (∃ base, ρ = updl base [(0, .pointer (some ⟨b1, 0, none⟩)), (7, .slice A37 y31.length c39), (42, .slice A4 used.length c5), (43, .int .i64 (used.length : Int)), (44, .int .i64 i46)]) ∧ Hp w0 (Row K38 (.slice A2 l_.f_l.length c3) l_.f_l :: Bx b1 75 [.slice A2 l_.f_l.length c3] :: Row K38 (.slice A37 y31.length c39) xs41 :: Γ) w) hl45 ⟨0, y31, [], rfl, rfl, rfl, upk (ac rfl (ac rfl (ac rfl (ac rfl (ac rfl an))))), H36.u2.u2⟩ ?_
      rintro m ys50 IH54 s ρ w ⟨i46, xs41, dn47, rfl, hxs48, hi49, ⟨base, rfl⟩, H42⟩ hm
      rcases ys50 with _ | ⟨y51, ys50⟩
      · rw [vintage_Losses_Take.l2] at hm
        have hb55 := range_end hxs48 hi49
        refine st_seq ?_
        refine st_region ?_
        refine r_pure (.bool (decide (i46 < (used.length : Int)))) rfl ?_
        refine r_seq ?_
        refine st_seq ?_
        refine st_condf hb55 rfl ?_
        have hq_ := Option.some.inj hm
        refine st_exit rfl ?_
        subst hq_
        refine n_sq ?_
        refine st_seq ?_
        refine st_region ?_
        refine r_pure (.pointer (some ⟨b1, 0, none⟩)) rfl ?_
        refine r_pure (.slice A37 y31.length c39) rfl ?_
        obtain ⟨y62, hy63, hm⟩ := bind_some hm43
        refine r_callf Try.call52 (slices_DeleteFunc_api_Vintage_ok xs41 A37 y31.length c39 (.func (.func 53) #[] #[]) (fun x => vintage_Losses_Take_c1 x) ⟨53, [], rfl, Try.call53, fun x y hy Δ w H hΔ => vintage_Losses_Take_c1_ok x y H hy⟩ y62 H42.u2 hy63) ?_
        rintro e65 wd64 ⟨A68, n69, c70, rfl, H67⟩
        obtain rfl := (H67.g0).leneq
        refine ⟨_, rfl, ?_⟩
        refine r_pure (.pointer (some ⟨b1, 0, none⟩)) rfl ?_
        refine r_fa FA75_0 ⟨b1, 0, none⟩ rfl rfl ?_
        refine r_st1 LD26 rfl rfl rfl H67.u2 rfl ?_
        intro wd72 H71
        refine r_seq ?_
        refine st_seq ?_
        refine st_region ?_
        refine r_pure (.int .i64 0) rfl ?_
        refine r_seq ?_
        obtain ⟨rfl, rfl⟩ := some_inj2 hm
        refine st_ret1 rfl rfl (Nat.le_of_ble_eq_true rfl) rfl ?_
        exact ⟨A68, y62.length, c70, rfl, H71.u2.d.u1.u1⟩
      · rw [vintage_Losses_Take.l2] at hm
        have hb56 := range_in hxs48 hi49
        obtain ⟨h057, h158, hj59⟩ := range_ix hxs48 hi49
        have hnx60 := range_next hxs48 hi49 hlim61
        refine st_seq ?_
        refine st_region ?_
        refine r_pure (.bool (decide (i46 < (used.length : Int)))) rfl ?_
        refine r_seq ?_
        refine st_seq ?_
        refine st_condt hb56 rfl ?_
        refine st_skip ?_
        refine n_sq ?_
        refine st_seq ?_
        refine st_block ?_
        refine st_seq ?_
        refine st_region ?_
        refine r_pure (.int .i64 i46) rfl ?_
        have hA73 := (hv7 _ H42.d.d.d).adO hj59
        refine r_ix IX29 rfl rfl hA73 h057 h158 ?_
        refine r_ld1 (.int .i64 y51) LD3 rfl ((hv7 _ H42.d.d.d).c0A hA73 hj59 _ rfl) ?_
        refine r_pure (.int .i64 i46) rfl ?_
        refine r_pure (.int .i64 y51) rfl ?_
        refine r_seq ?_
        refine st_region ?_
        refine r_pure (.slice A37 y31.length c39) rfl ?_
        refine r_pure (.int .i64 i46) rfl ?_
        refine r_pure (.slice A37 y31.length c39) rfl ?_
        refine r_pure (.int .i64 i46) rfl ?_
        obtain ⟨⟨h074, h175⟩, hm⟩ := gd_some hm
        have hj76 := rd_get h074 h175
        have hA77 := (H42.g2.rd).adO hj76
        refine r_ix IX26 rfl rfl hA77 h074 (by have h1_ := (H42.g2).leneq; have h2_ := h175; rw [← h1_] at h2_; exact h2_) ?_
        refine r_fa FA38_2 (((oA A37).add (Int.toNat i46 * 3)).add 2) rfl rfl ?_
        refine r_ld1 (.int .i64 ((rd xs41 i46).Left)) LD3 rfl ((H42.g2.rd).cA hA77 hj76 2 _ rfl) ?_
        refine r_pure (.int .i64 y51) rfl ?_
        refine r_pure (.int .i64 (w64 ((rd xs41 i46).Left - y51))) rfl ?_
        refine r_ix IX26 rfl rfl hA77 h074 (by have h1_ := (H42.g2).leneq; have h2_ := h175; rw [← h1_] at h2_; exact h2_) ?_
        refine r_fa FA38_2 (((oA A37).add (Int.toNat i46 * 3)).add 2) rfl rfl ?_
        refine r_stx1 (K := K38) ((⟨(rd xs41 i46).Origin, (rd xs41 i46).Expiry, w64 ((rd xs41 i46).Left - y51)⟩ : api_Vintage)) hA77 LD3 rfl rfl rfl H42.u2 hj76 (by decide) rfl ?_
        intro wd79 H78
        refine r_nil ?_
        refine n_bl ?_
        refine n_sq ?_
        refine st_region ?_
        refine r_pure (.int .i64 (w64 (i46 + 1))) rfl ?_
        refine r_pure (.int .i64 (w64 (i46 + 1))) rfl ?_
        refine r_nil ?_
        refine n_round (IH54 _ _ rfl _ _ _ ⟨i46 + 1, xs41.set (Int.toNat i46) (⟨(rd xs41 i46).Origin, (rd xs41 i46).Expiry, w64 ((rd xs41 i46).Left - y51)⟩ : api_Vintage), dn47 ++ [y51], rfl, range_more hxs48, range_len hi49, upk (ac rfl (ac rfl (ac rfl (ac rfl (ac hnx60 an))))), H78.u2.u2⟩ hm)
    · rw [vintage_Losses_Take.l1] at hm
      have hb25 := range_in hxs17 hi18
      obtain ⟨h026, h127, hj28⟩ := range_ix hxs17 hi18
      have hnx29 := range_next hxs17 hi18 hlim30
      refine st_seq ?_
      refine st_region ?_
      refine r_pure (.bool (decide (i15 < (used.length : Int)))) rfl ?_
      refine r_seq ?_
      refine st_seq ?_
      refine st_condt hb25 rfl ?_
      refine st_skip ?_
      refine n_sq ?_
      refine st_seq ?_
      refine st_block ?_
      refine st_seq ?_
      refine st_region ?_
      refine r_pure (.int .i64 i15) rfl ?_
      have hA80 := (hv7 _ H11.d.d).adO hj28
      refine r_ix IX29 rfl rfl hA80 h026 h127 ?_
      refine r_ld1 (.int .i64 y20) LD3 rfl ((hv7 _ H11.d.d).c0A hA80 hj28 _ rfl) ?_
      refine r_pure (.int .i64 i15) rfl ?_
      refine r_pure (.int .i64 y20) rfl ?_
      refine r_seq ?_
      refine st_cut (fun ρ w => ∃ q81 : Bool, (∃ base, ρ = updl base [(0, .pointer (some ⟨b1, 0, none⟩)), (1, .slice A4 used.length c5), (18, .slice A4 used.length c5), (19, .int .i64 (used.length : Int)), (20, .int .i64 i15), (38, .bool q81)]) ∧ Hp w0 (Row K38 (.slice A2 l_.f_l.length c3) l_.f_l :: Bx b1 75 [.slice A2 l_.f_l.length c3] :: Γ) w ∧ vintage_Losses_Take.j1 l_ (vintage_Losses_Take.l1 l_ ys19) i15 q81 = some tl13) ?_ ?_
      · refine st_region ?_
        refine r_pure (.int .i64 y20) rfl ?_
        refine r_pure (.bool (decide (y20 < 0))) rfl ?_
        refine r_pure (.bool (decide (y20 < 0))) rfl ?_
        rcases ite_some hm with ⟨hb84, hm⟩ | ⟨hb84, hm⟩
        · refine r_not (wn_f rfl rfl (by decide) rfl hb84) ?_
          refine r_not (wn_f rfl rfl (by decide) rfl hb84) ?_
          refine r_not (wn_f rfl rfl (by decide) rfl hb84) ?_
          refine r_not (wn_f rfl rfl (by decide) rfl hb84) ?_
          refine r_not (wn_f rfl rfl (by decide) rfl hb84) ?_
          refine r_not (wn_f rfl rfl (by decide) rfl hb84) ?_
          refine r_not (wn_f rfl rfl (by decide) rfl hb84) ?_
          refine r_not (wn_f rfl rfl (by decide) rfl hb84) ?_
          refine r_not (wn_f rfl rfl (by decide) rfl hb84) ?_
          refine r_not (wn_f rfl rfl (by decide) rfl hb84) ?_
          refine r_pick_t (.bool true) hb84 rfl rfl ?_
          refine r_nil ?_
          refine n_cut ⟨true, upk (ac rfl (ac rfl (ac rfl (ac rfl (ac rfl (ac rfl an)))))), H11.u1.u1, hm⟩
        · refine r_pure (.int .i64 y20) rfl ?_ (wn_t rfl rfl (by decide) rfl hb84)
          refine r_pure (.pointer (some ⟨b1, 0, none⟩)) rfl ?_ (wn_t rfl rfl (by decide) rfl hb84)
          refine r_pure (.pointer (some ⟨b1, 0, none⟩)) rfl ?_ (wn_t rfl rfl (by decide) rfl hb84)
          refine r_fa FA75_0 ⟨b1, 0, none⟩ rfl rfl ?_ (wn_t rfl rfl (by decide) rfl hb84)
          refine r_ld1 (.slice A2 l_.f_l.length c3) LD26 rfl ((H11.g1).cell _ rfl) ?_ (wn_t rfl rfl (by decide) rfl hb84)
          refine r_pure (.int .i64 i15) rfl ?_ (wn_t rfl rfl (by decide) rfl hb84)
          obtain ⟨⟨h085, h186⟩, hm⟩ := gd_some hm
          have hj87 := rd_get h085 h186
          have hA88 := (H11.g0.rd).adO hj87
          refine r_ix IX26 rfl rfl hA88 h085 h186 ?_ (wn_t rfl rfl (by decide) rfl hb84)
          refine r_fa FA38_2 (((oA A2).add (Int.toNat i15 * 3)).add 2) rfl rfl ?_ (wn_t rfl rfl (by decide) rfl hb84)
          refine r_ld1 (.int .i64 ((rd l_.f_l i15).Left)) LD3 rfl ((H11.g0.rd).cA hA88 hj87 2 _ rfl) ?_ (wn_t rfl rfl (by decide) rfl hb84)
          refine r_pure (.bool (decide (y20 > (rd l_.f_l i15).Left))) rfl ?_ (wn_t rfl rfl (by decide) rfl hb84)
          refine r_pick_f (.bool (decide (y20 > (rd l_.f_l i15).Left))) hb84 rfl rfl ?_
          refine r_nil ?_
          refine n_cut ⟨decide (y20 > (rd l_.f_l i15).Left), upk (ac rfl (ac rfl (ac rfl (ac rfl (ac rfl (ac rfl an)))))), H11.u1.u1, hm⟩
      · rintro ρ w ⟨q81, ⟨base, rfl⟩, H82, hm⟩
        unfold vintage_Losses_Take.j1 at hm
        rcases ite_some hm with ⟨hb83, hm⟩ | ⟨hb83, hm⟩
        · refine st_condt hb83 rfl ?_
          refine st_seq ?_
          refine st_region ?_
          refine r_pure (.int .i64 1) rfl ?_
          refine r_seq ?_
          have hq_ := Option.some.inj hm
          subst hq_
          obtain ⟨rfl, rfl⟩ := some_inj2 (show some ((1, (⟨l_.f_l⟩ : vintage_Losses)) : (Int × vintage_Losses)) = some (r0_, r1_) from hm12)
          refine st_ret1 rfl rfl (Nat.le_of_ble_eq_true rfl) rfl ?_
          exact ⟨A2, l_.f_l.length, c3, rfl, H82.u1⟩
        · refine st_condf hb83 rfl ?_
          refine st_skip ?_
          refine n_bl ?_
          refine n_sq ?_
          refine st_region ?_
          refine r_pure (.int .i64 (w64 (i15 + 1))) rfl ?_
          refine r_pure (.int .i64 (w64 (i15 + 1))) rfl ?_
          refine r_nil ?_
          refine n_round (IH23 _ _ rfl _ _ _ ⟨i15 + 1, dn16 ++ [y20], rfl, range_more hxs17, range_len hi18, upk (ac rfl (ac rfl (ac rfl (ac rfl (ac hnx29 an))))), H82.u1.u1⟩ hm)

set_option maxHeartbeats 2000000 in
theorem rate_Of_ok {w0 w : World} {Γ : List (World → Prop)} (n_ : Int) (rate_ : Int) (r0_ : Int) (r1_ : Bool) (H : Hp w0 (Γ) w) (hm : rate_Of n_ rate_ = some (r0_, r1_)) : Calls Try.prog 71 #[.int .i64 n_, .int .i64 rate_] w (fun e w => e = .returned (.tuple #[.int .i64 r0_, .bool r1_]) ∧ Hp w0 (Γ) w) := by
  unfold rate_Of at hm
  refine st_enter Try.func71 rfl Try.ntmps71 (Nat.le_of_ble_eq_true rfl) ?_
  refine st_seq ?_
  refine st_region ?_
  refine r_pure (.int .i64 0) rfl ?_
  refine r_pure (.bool false) rfl ?_
  refine r_seq ?_
  refine st_seq ?_
  refine st_cut (fun ρ w => ∃ q1 : Bool, (∃ base, ρ = updl base [(0, .int .i64 n_), (1, .int .i64 rate_), (20, .bool q1)]) ∧ Hp w0 (Γ) w ∧ rate_Of.j1 n_ rate_ q1 = some (r0_, r1_)) ?_ ?_
  · refine st_region ?_
    refine r_pure (.int .i64 n_) rfl ?_
    refine r_pure (.bool (decide (n_ < (-400000000000)))) rfl ?_
    refine r_pure (.bool (decide (n_ < (-400000000000)))) rfl ?_
    rcases ite_some hm with ⟨hb5, hm⟩ | ⟨hb5, hm⟩
    · refine r_not (wn_f rfl rfl (by decide) rfl hb5) ?_
      refine r_not (wn_f rfl rfl (by decide) rfl hb5) ?_
      refine r_pick_t (.bool true) hb5 rfl rfl ?_
      refine r_pure (.bool true) rfl ?_
      refine r_not (wn_f rfl rfl (by decide) rfl rfl) ?_
      refine r_not (wn_f rfl rfl (by decide) rfl rfl) ?_
      refine r_pick_t (.bool true) rfl rfl rfl ?_
      refine r_pure (.bool true) rfl ?_
      refine r_not (wn_f rfl rfl (by decide) rfl rfl) ?_
      refine r_not (wn_f rfl rfl (by decide) rfl rfl) ?_
      refine r_pick_t (.bool true) rfl rfl rfl ?_
      refine r_nil ?_
      refine n_cut ⟨true, upk (ac rfl (ac rfl (ac rfl an))), H, hm⟩
    · refine r_pure (.int .i64 n_) rfl ?_ (wn_t rfl rfl (by decide) rfl hb5)
      refine r_pure (.bool (decide (n_ > 400000000000))) rfl ?_ (wn_t rfl rfl (by decide) rfl hb5)
      refine r_pick_f (.bool (decide (n_ > 400000000000))) hb5 rfl rfl ?_
      refine r_pure (.bool (decide (n_ > 400000000000))) rfl ?_
      rcases ite_some hm with ⟨hb6, hm⟩ | ⟨hb6, hm⟩
      · refine r_not (wn_f rfl rfl (by decide) rfl hb6) ?_
        refine r_not (wn_f rfl rfl (by decide) rfl hb6) ?_
        refine r_pick_t (.bool true) hb6 rfl rfl ?_
        refine r_pure (.bool true) rfl ?_
        refine r_not (wn_f rfl rfl (by decide) rfl rfl) ?_
        refine r_not (wn_f rfl rfl (by decide) rfl rfl) ?_
        refine r_pick_t (.bool true) rfl rfl rfl ?_
        refine r_nil ?_
        refine n_cut ⟨true, upk (ac rfl (ac rfl (ac rfl an))), H, hm⟩
      · refine r_pure (.int .i64 rate_) rfl ?_ (wn_t rfl rfl (by decide) rfl hb6)
        refine r_pure (.bool (decide (rate_ < 0))) rfl ?_ (wn_t rfl rfl (by decide) rfl hb6)
        refine r_pick_f (.bool (decide (rate_ < 0))) hb6 rfl rfl ?_
        refine r_pure (.bool (decide (rate_ < 0))) rfl ?_
        rcases ite_some hm with ⟨hb7, hm⟩ | ⟨hb7, hm⟩
        · refine r_not (wn_f rfl rfl (by decide) rfl hb7) ?_
          refine r_not (wn_f rfl rfl (by decide) rfl hb7) ?_
          refine r_pick_t (.bool true) hb7 rfl rfl ?_
          refine r_nil ?_
          refine n_cut ⟨true, upk (ac rfl (ac rfl (ac rfl an))), H, hm⟩
        · refine r_pure (.int .i64 rate_) rfl ?_ (wn_t rfl rfl (by decide) rfl hb7)
          refine r_pure (.bool (decide (rate_ > 10000000))) rfl ?_ (wn_t rfl rfl (by decide) rfl hb7)
          refine r_pick_f (.bool (decide (rate_ > 10000000))) hb7 rfl rfl ?_
          refine r_nil ?_
          refine n_cut ⟨decide (rate_ > 10000000), upk (ac rfl (ac rfl (ac rfl an))), H, hm⟩
  · rintro ρ w ⟨q1, ⟨base, rfl⟩, H2, hm⟩
    unfold rate_Of.j1 at hm
    rcases ite_some hm with ⟨hb3, hm⟩ | ⟨hb3, hm⟩
    · refine st_condt hb3 rfl ?_
      refine st_seq ?_
      refine st_region ?_
      refine r_pure (.int .i64 0) rfl ?_
      refine r_pure (.bool false) rfl ?_
      refine r_seq ?_
      obtain ⟨rfl, rfl⟩ := some_inj2 hm
      refine st_ret2 rfl rfl (Nat.le_of_ble_eq_true rfl) (Nat.le_of_ble_eq_true rfl) rfl rfl ?_
      exact ⟨rfl, H2⟩
    · refine st_condf hb3 rfl ?_
      refine st_skip ?_
      refine n_sq ?_
      refine st_seq ?_
      refine st_region ?_
      refine r_pure (.int .i64 n_) rfl ?_
      refine r_pure (.int .i64 (w64 (2 * n_))) rfl ?_
      refine r_pure (.int .i64 rate_) rfl ?_
      refine r_pure (.int .i64 (w64 (w64 (2 * n_) * rate_))) rfl ?_
      refine r_pure (.int .i64 (w64 (w64 (2 * n_) * rate_))) rfl ?_
      refine r_seq ?_
      refine st_seq ?_
      refine st_seq ?_
      refine st_region ?_
      refine r_pure (.int .i64 n_) rfl ?_
      refine r_pure (.bool (decide (n_ < 0))) rfl ?_
      refine r_seq ?_
      rcases ite_some hm with ⟨hb4, hm⟩ | ⟨hb4, hm⟩
      · refine st_condt hb4 rfl ?_
        refine st_seq ?_
        refine st_region ?_
        refine r_pure (.int .i64 (w64 (w64 (2 * n_) * rate_))) rfl ?_
        refine r_pure (.int .i64 (w64 (w64 (w64 (2 * n_) * rate_) - 1000000))) rfl ?_
        refine r_quo (by decide) rfl rfl ?_
        refine r_pure (.int .i64 (w64 (Int.tdiv (w64 (w64 (w64 (2 * n_) * rate_) - 1000000)) 2000000))) rfl ?_
        refine r_pure (.bool true) rfl ?_
        refine r_seq ?_
        obtain ⟨rfl, rfl⟩ := some_inj2 hm
        refine st_ret2 rfl rfl (Nat.le_of_ble_eq_true rfl) (Nat.le_of_ble_eq_true rfl) rfl rfl ?_
        exact ⟨rfl, H2⟩
      · refine st_condf hb4 rfl ?_
        refine st_skip ?_
        refine n_sq ?_
        refine st_seq ?_
        refine st_region ?_
        refine r_pure (.int .i64 (w64 (w64 (2 * n_) * rate_))) rfl ?_
        refine r_pure (.int .i64 (w64 (w64 (w64 (2 * n_) * rate_) + 1000000))) rfl ?_
        refine r_quo (by decide) rfl rfl ?_
        refine r_pure (.int .i64 (w64 (Int.tdiv (w64 (w64 (w64 (2 * n_) * rate_) + 1000000)) 2000000))) rfl ?_
        refine r_pure (.bool true) rfl ?_
        refine r_seq ?_
        obtain ⟨rfl, rfl⟩ := some_inj2 hm
        refine st_ret2 rfl rfl (Nat.le_of_ble_eq_true rfl) (Nat.le_of_ble_eq_true rfl) rfl rfl ?_
        exact ⟨rfl, H2⟩

set_option maxHeartbeats 2000000 in
theorem current_Tax_ok {w0 w : World} {Γ : List (World → Prop)} (b1 : Nat) (l_ : vintage_Losses) (A2 : Option Addr) (n7 c3 : Nat) (hn6 : n7 = l_.f_l.length) (hc4 : l_.f_l.length ≤ c3) (hv5 : ∀ u, Hp w0 Γ u → SlR K38 A2 l_.f_l u) (hv8 : ∀ u, Hp w0 Γ u → Bx b1 75 [.slice A2 n7 c3] u) (book : Int) (perm : Int) (moved : Int) (most : Int) (life : Int) (year : Int) (r_ : Int) (r0_ : current_Result) (r1_ : Option vintage_Losses) (r2_ : Int) (H : Hp w0 (Γ) w) (hm : current_Tax l_ book perm moved most life year r_ = some (r0_, r1_, r2_)) : Calls Try.prog 35 #[.pointer (some ⟨b1, 0, none⟩), .int .i64 book, .int .i64 perm, .int .i64 moved, .int .i64 most, .int .i64 life, .int .i64 year, .int .i64 r_] w (fun e w => (r1_ = none ∧ ∃ (Ax1 : Option Addr) (nx2 cx3 : Nat), e = .returned (.tuple #[.agg #[.int .i64 r0_.Income, .int .i64 r0_.Expired, .int .i64 r0_.Used, .int .i64 r0_.New, .int .i64 r0_.Taxable, .int .i64 r0_.Tax, .slice Ax1 nx2 cx3], .pointer none, .int .i64 r2_]) ∧ Hp w0 (Row K3 (.slice Ax1 nx2 cx3) r0_.Vector :: Γ) w) ∨ (∃ o_ : vintage_Losses, r1_ = some o_ ∧ ∃ (Ax1 : Option Addr) (nx2 cx3 : Nat), ∃ (bx4 : Nat), ∃ (Ax5 : Option Addr) (nx6 cx7 : Nat), e = .returned (.tuple #[.agg #[.int .i64 r0_.Income, .int .i64 r0_.Expired, .int .i64 r0_.Used, .int .i64 r0_.New, .int .i64 r0_.Taxable, .int .i64 r0_.Tax, .slice Ax1 nx2 cx3], .pointer (some ⟨bx4, 0, none⟩), .int .i64 r2_]) ∧ Hp w0 (Row K3 (.slice Ax1 nx2 cx3) r0_.Vector :: Bx bx4 75 [.slice Ax5 nx6 cx7] :: Row K38 (.slice Ax5 nx6 cx7) o_.f_l :: Γ) w)) := by
  subst hn6
  unfold current_Tax at hm
  refine st_enter Try.func35 rfl Try.ntmps35 (Nat.le_of_ble_eq_true rfl) ?_
  refine st_seq ?_
  refine st_region ?_
  refine r_alloc [.int .i64 0, .int .i64 0, .int .i64 0, .int .i64 0, .int .i64 0, .int .i64 0, .slice none 0 0] Try.zeroValue59 H rfl ?_
  intro b9 wd11 H10
  refine r_pure (.pointer none) rfl ?_
  refine r_pure (.int .i64 0) rfl ?_
  refine r_seq ?_
  refine st_seq ?_
  refine st_cut (fun ρ w => ∃ q12 : Bool, (∃ base, ρ = updl base [(0, .pointer (some ⟨b1, 0, none⟩)), (1, .int .i64 book), (2, .int .i64 perm), (3, .int .i64 moved), (4, .int .i64 most), (5, .int .i64 life), (6, .int .i64 year), (7, .int .i64 r_), (16, .pointer (some ⟨b9, 0, none⟩)), (41, .bool q12)]) ∧ Hp w0 (Bx b9 59 [.int .i64 0, .int .i64 0, .int .i64 0, .int .i64 0, .int .i64 0, .int .i64 0, .slice none 0 0] :: Γ) w ∧ current_Tax.j1 book perm moved l_ year most r_ life q12 = some (r0_, r1_, r2_)) ?_ ?_
  · refine st_region ?_
    refine r_pure (.int .i64 most) rfl ?_
    obtain ⟨y142, hy143, hm⟩ := bind_some hm
    refine r_callf Try.call65 (rate_Right_ok most y142 H10 hy143) ?_
    rintro e145 wd144 ⟨rfl, H147⟩
    refine ⟨_, rfl, ?_⟩
    refine r_pure (.bool (!y142)) rfl ?_
    refine r_pure (.bool (!y142)) rfl ?_
    rcases ite_some hm with ⟨hb148, hm⟩ | ⟨hb148, hm⟩
    · refine r_not (wn_f rfl rfl (by decide) rfl hb148) ?_
      refine r_not (wn_f rfl rfl (by decide) rfl hb148) ?_
      refine r_not (wn_f rfl rfl (by decide) rfl hb148) ?_
      refine r_pick_t (.bool true) hb148 rfl rfl ?_
      refine r_pure (.bool true) rfl ?_
      refine r_not (wn_f rfl rfl (by decide) rfl rfl) ?_
      refine r_not (wn_f rfl rfl (by decide) rfl rfl) ?_
      refine r_not (wn_f rfl rfl (by decide) rfl rfl) ?_
      refine r_pick_t (.bool true) rfl rfl rfl ?_
      refine r_pure (.bool true) rfl ?_
      refine r_not (wn_f rfl rfl (by decide) rfl rfl) ?_
      refine r_not (wn_f rfl rfl (by decide) rfl rfl) ?_
      refine r_not (wn_f rfl rfl (by decide) rfl rfl) ?_
      refine r_pick_t (.bool true) rfl rfl rfl ?_
      refine r_nil ?_
      refine n_cut ⟨true, upk (ac rfl (ac rfl (ac rfl (ac rfl (ac rfl (ac rfl (ac rfl (ac rfl (ac rfl (ac rfl an)))))))))), H147, hm⟩
    · refine r_pure (.int .i64 r_) rfl ?_ (wn_t rfl rfl (by decide) rfl hb148)
      obtain ⟨y149, hy150, hm⟩ := bind_some hm
      refine r_callf Try.call65 (rate_Right_ok r_ y149 H147 hy150) ?_ (wn_t rfl rfl (by decide) rfl hb148)
      rintro e152 wd151 ⟨rfl, H154⟩
      refine ⟨_, rfl, ?_⟩
      refine r_pure (.bool (!y149)) rfl ?_ (wn_t rfl rfl (by decide) rfl hb148)
      refine r_pick_f (.bool (!y149)) hb148 rfl rfl ?_
      refine r_pure (.bool (!y149)) rfl ?_
      rcases ite_some hm with ⟨hb155, hm⟩ | ⟨hb155, hm⟩
      · refine r_not (wn_f rfl rfl (by decide) rfl hb155) ?_
        refine r_not (wn_f rfl rfl (by decide) rfl hb155) ?_
        refine r_not (wn_f rfl rfl (by decide) rfl hb155) ?_
        refine r_pick_t (.bool true) hb155 rfl rfl ?_
        refine r_pure (.bool true) rfl ?_
        refine r_not (wn_f rfl rfl (by decide) rfl rfl) ?_
        refine r_not (wn_f rfl rfl (by decide) rfl rfl) ?_
        refine r_not (wn_f rfl rfl (by decide) rfl rfl) ?_
        refine r_pick_t (.bool true) rfl rfl rfl ?_
        refine r_nil ?_
        refine n_cut ⟨true, upk (ac rfl (ac rfl (ac rfl (ac rfl (ac rfl (ac rfl (ac rfl (ac rfl (ac rfl (ac rfl an)))))))))), H154, hm⟩
      · refine r_pure (.int .i64 life) rfl ?_ (wn_t rfl rfl (by decide) rfl hb155)
        obtain ⟨y156, hy157, hm⟩ := bind_some hm
        refine r_callf Try.call66 (current_right_ok life y156 H154 hy157) ?_ (wn_t rfl rfl (by decide) rfl hb155)
        rintro e159 wd158 ⟨rfl, H161⟩
        refine ⟨_, rfl, ?_⟩
        refine r_pure (.bool (!y156)) rfl ?_ (wn_t rfl rfl (by decide) rfl hb155)
        refine r_pick_f (.bool (!y156)) hb155 rfl rfl ?_
        refine r_pure (.bool (!y156)) rfl ?_
        rcases ite_some hm with ⟨hb162, hm⟩ | ⟨hb162, hm⟩
        · refine r_not (wn_f rfl rfl (by decide) rfl hb162) ?_
          refine r_not (wn_f rfl rfl (by decide) rfl hb162) ?_
          refine r_not (wn_f rfl rfl (by decide) rfl hb162) ?_
          refine r_pick_t (.bool true) hb162 rfl rfl ?_
          refine r_nil ?_
          refine n_cut ⟨true, upk (ac rfl (ac rfl (ac rfl (ac rfl (ac rfl (ac rfl (ac rfl (ac rfl (ac rfl (ac rfl an)))))))))), H161, hm⟩
        · refine r_pure (.int .i64 year) rfl ?_ (wn_t rfl rfl (by decide) rfl hb162)
          obtain ⟨y163, hy164, hm⟩ := bind_some hm
          refine r_callf Try.call66 (current_right_ok year y163 H161 hy164) ?_ (wn_t rfl rfl (by decide) rfl hb162)
          rintro e166 wd165 ⟨rfl, H168⟩
          refine ⟨_, rfl, ?_⟩
          refine r_pure (.bool (!y163)) rfl ?_ (wn_t rfl rfl (by decide) rfl hb162)
          refine r_pick_f (.bool (!y163)) hb162 rfl rfl ?_
          refine r_nil ?_
          refine n_cut ⟨!y163, upk (ac rfl (ac rfl (ac rfl (ac rfl (ac rfl (ac rfl (ac rfl (ac rfl (ac rfl (ac rfl an)))))))))), H168, hm⟩
  · rintro ρ w ⟨q12, ⟨base, rfl⟩, H13, hm⟩
    unfold current_Tax.j1 at hm
    rcases ite_some hm with ⟨hb14, hm⟩ | ⟨hb14, hm⟩
    · refine st_condt hb14 rfl ?_
      refine st_seq ?_
      refine st_region ?_
      refine r_build [.int .i64 0, .int .i64 0, .int .i64 0, .int .i64 0, .int .i64 0, .int .i64 0, .slice none 0 0] FL59 (by kernel_rfl) ?_
      refine r_stA [.int .i64 0, .int .i64 0, .int .i64 0, .int .i64 0, .int .i64 0, .int .i64 0, .slice none 0 0] LD59 rfl rfl rfl rfl H13 (Nat.le_of_ble_eq_true rfl) rfl ?_
      intro wd16 H15
      refine r_pure (.pointer none) rfl ?_
      refine r_pure (.int .i64 1) rfl ?_
      refine r_seq ?_
      have H17 := H15.add (A := Row K3 (.slice none 0 0) []) Row.nil
      obtain ⟨rfl, rfl, rfl⟩ := some_inj3 hm
      refine st_ret3c [.int .i64 0, .int .i64 0, .int .i64 0, .int .i64 0, .int .i64 0, .int .i64 0, .slice none 0 0] rfl rfl (Nat.le_of_ble_eq_true rfl) (Nat.le_of_ble_eq_true rfl) (Nat.le_of_ble_eq_true rfl) rfl LD59 rfl ((H17.g1).cells rfl) rfl rfl ?_
      exact .inl ⟨rfl, none, 0, 0, rfl, H17.u1.d⟩
    · refine st_condf hb14 rfl ?_
      refine st_skip ?_
      refine n_sq ?_
      refine st_seq ?_
      refine st_region ?_
      refine r_pure (.int .i64 book) rfl ?_
      refine r_pure (.int .i64 perm) rfl ?_
      refine r_pure (.int .i64 moved) rfl ?_
      obtain ⟨⟨y18, y19⟩, hy20, hm⟩ := bind_some hm
      refine r_callf Try.call67 (bridge_Income_ok book perm moved y18 y19 H13 hy20) ?_
      rintro e22 wd21 ⟨rfl, H24⟩
      refine ⟨_, rfl, ?_⟩
      refine r_pure (.tuple #[.int .i64 y18, .bool y19]) rfl ?_
      refine r_pure (.int .i64 y18) rfl ?_
      refine r_pure (.bool y19) rfl ?_
      refine r_pure (.int .i64 y18) rfl ?_
      refine r_pure (.bool y19) rfl ?_
      refine r_seq ?_
      refine st_seq ?_
      refine st_seq ?_
      refine st_region ?_
      refine r_pure (.bool y19) rfl ?_
      refine r_pure (.bool (!y19)) rfl ?_
      refine r_seq ?_
      rcases ite_some hm with ⟨hb25, hm⟩ | ⟨hb25, hm⟩
      · refine st_condt hb25 rfl ?_
        refine st_seq ?_
        refine st_region ?_
        refine r_build [.int .i64 0, .int .i64 0, .int .i64 0, .int .i64 0, .int .i64 0, .int .i64 0, .slice none 0 0] FL59 (by kernel_rfl) ?_
        refine r_stA [.int .i64 0, .int .i64 0, .int .i64 0, .int .i64 0, .int .i64 0, .int .i64 0, .slice none 0 0] LD59 rfl rfl rfl rfl H24 (Nat.le_of_ble_eq_true rfl) rfl ?_
        intro wd27 H26
        refine r_pure (.pointer none) rfl ?_
        refine r_pure (.int .i64 6) rfl ?_
        refine r_seq ?_
        have H28 := H26.add (A := Row K3 (.slice none 0 0) []) Row.nil
        obtain ⟨rfl, rfl, rfl⟩ := some_inj3 hm
        refine st_ret3c [.int .i64 0, .int .i64 0, .int .i64 0, .int .i64 0, .int .i64 0, .int .i64 0, .slice none 0 0] rfl rfl (Nat.le_of_ble_eq_true rfl) (Nat.le_of_ble_eq_true rfl) (Nat.le_of_ble_eq_true rfl) rfl LD59 rfl ((H28.g1).cells rfl) rfl rfl ?_
        exact .inl ⟨rfl, none, 0, 0, rfl, H28.u1.d⟩
      · refine st_condf hb25 rfl ?_
        refine st_skip ?_
        refine n_sq ?_
        refine st_seq ?_
        refine st_region ?_
        refine r_pure (.pointer (some ⟨b1, 0, none⟩)) rfl ?_
        obtain ⟨y29, hy30, hm⟩ := bind_some hm
        refine r_callf Try.call11 (vintage_Losses_Clone_ok b1 (⟨l_.f_l⟩ : vintage_Losses) A2 l_.f_l.length c3 rfl hc4 (fun _ H => (hv5 _ H.d)) (fun _ H => (hv8 _ H.d)) y29 H24 hy30) ?_
        rintro e32 wd31 ⟨b35, A36, n37, c38, rfl, H34⟩
        obtain rfl := (H34.g1).leneq
        refine ⟨_, rfl, ?_⟩
        refine r_pure (.pointer (some ⟨b35, 0, none⟩)) rfl ?_
        refine r_seq ?_
        refine st_seq ?_
        refine st_region ?_
        refine r_pure (.int .i64 y18) rfl ?_
        refine r_pure (.pointer (some ⟨b35, 0, none⟩)) rfl ?_
        refine r_pure (.int .i64 year) rfl ?_
        obtain ⟨⟨y39, y40⟩, hy41, hm⟩ := bind_some hm
        refine r_callf Try.call13 (vintage_Losses_Expire_ok b35 (⟨y29.f_l⟩ : vintage_Losses) A36 c38 year y39 y40 H34.u1.u1 hy41) ?_
        rintro e43 wd42 ⟨A46, n47, c48, rfl, H45⟩
        obtain rfl := (H45.g1).leneq
        refine ⟨_, rfl, ?_⟩
        refine r_build [.int .i64 y18, .int .i64 y39, .int .i64 0, .int .i64 0, .int .i64 0, .int .i64 0, .slice none 0 0] FL59 (by kernel_rfl) ?_
        refine r_alloc [.int .i64 0, .int .i64 0, .int .i64 0, .int .i64 0, .int .i64 0, .int .i64 0, .slice none 0 0] Try.zeroValue59 H45 rfl ?_
        intro b49 wd51 H50
        refine r_stA [.int .i64 y18, .int .i64 y39, .int .i64 0, .int .i64 0, .int .i64 0, .int .i64 0, .slice none 0 0] LD59 rfl rfl rfl rfl H50 (Nat.le_of_ble_eq_true rfl) rfl ?_
        intro wd53 H52
        refine r_seq ?_
        refine st_cut (fun ρ w => ∃ A54 : Option Addr, ∃ n55 : Nat, ∃ c56 : Nat, ∃ A62 : Option Addr, ∃ n63 : Nat, ∃ c64 : Nat, ∃ xs57 : List api_Vintage, ∃ v60 : Int, ∃ v61 : Int, ∃ xs65 : List Int, (∃ base, ρ = updl base [(7, .int .i64 r_), (16, .pointer (some ⟨b9, 0, none⟩)), (19, .int .i64 y18), (21, .pointer (some ⟨b35, 0, none⟩)), (22, .pointer (some ⟨b49, 0, none⟩))]) ∧ Hp w0 (Bx b9 59 [.int .i64 0, .int .i64 0, .int .i64 0, .int .i64 0, .int .i64 0, .int .i64 0, .slice none 0 0] :: Row K38 (.slice A54 n55 c56) xs57 :: Bx b35 75 [.slice A54 n55 c56] :: Row K3 (.slice A62 n63 c64) xs65 :: Bx b49 59 [.int .i64 y18, .int .i64 y39, .int .i64 v60, .int .i64 v61, .int .i64 0, .int .i64 0, .slice A62 n63 c64] :: Γ) w ∧ current_Tax.j2 y18 r_ y39 xs57 v60 v61 xs65 = some (r0_, r1_, r2_)) ?_ ?_
        · refine st_block ?_
          refine st_seq ?_
          refine st_region ?_
          refine r_pure (.int .i64 y18) rfl ?_
          refine r_pure (.bool (decide (y18 > 0))) rfl ?_
          refine r_pure (.bool (decide (y18 > 0))) rfl ?_
          refine r_seq ?_
          rcases ite_some hm with ⟨hb80, hm⟩ | ⟨hb80, hm⟩
          · refine st_condt hb80 rfl ?_
            refine st_seq ?_
            refine st_region ?_
            refine r_pure (.pointer (some ⟨b35, 0, none⟩)) rfl ?_
            obtain ⟨y81, hy82, hm⟩ := bind_some hm
            refine r_callf Try.call22 (vintage_Losses_Rows_ok b35 (⟨y40.f_l⟩ : vintage_Losses) A46 y40.f_l.length c48 rfl (((H52).g2).cap) (fun _ H => (H.g2.rd)) (fun _ H => (H.g1)) y81 H52 hy82) ?_
            rintro e84 wd83 ⟨A87, n88, c89, rfl, H86⟩
            obtain rfl := (H86.g0).leneq
            refine ⟨_, rfl, ?_⟩
            refine r_pure (.int .i64 year) rfl ?_
            refine r_pure (.int .i64 y18) rfl ?_
            refine r_pure (.int .i64 most) rfl ?_
            obtain ⟨y90, hy91, hm⟩ := bind_some hm
            refine r_callf Try.call69 (use_Room_ok y18 most y90 H86 hy91) ?_
            rintro e93 wd92 ⟨rfl, H95⟩
            refine ⟨_, rfl, ?_⟩
            obtain ⟨y96, hy97, hm⟩ := bind_some hm
            refine r_callf Try.call68 (use_Vector_ok y81 A87 y81.length c89 rfl (((H95).g0).cap) (fun _ H => (H.g0.rd)) year y90 y96 H95 hy97) ?_
            rintro e99 wd98 ⟨A102, n103, c104, rfl, H101⟩
            obtain rfl := (H101.g0).leneq
            refine ⟨_, rfl, ?_⟩
            refine r_fa FA59_6 ⟨b49, 6, none⟩ rfl rfl ?_
            refine r_st1 LD29 rfl rfl rfl H101.u2 rfl ?_
            intro wd106 H105
            refine r_seq ?_
            refine st_seq ?_
            refine st_region ?_
            refine r_fa FA59_6 ⟨b49, 6, none⟩ rfl rfl ?_
            refine r_ld1 (.slice A102 y96.length c104) LD29 rfl ((H105.g0).cell _ rfl) ?_
            obtain ⟨y107, hy108, hm⟩ := bind_some hm
            refine r_callf Try.call70 (use_Used_ok y96 A102 y96.length c104 rfl (((H105).g1).cap) (fun _ H => (H.g1.rd)) y107 H105 hy108) ?_
            rintro e110 wd109 ⟨rfl, H112⟩
            refine ⟨_, rfl, ?_⟩
            refine r_fa FA59_2 ⟨b49, 2, none⟩ rfl rfl ?_
            refine r_st1 LD3 rfl rfl rfl H112 rfl ?_
            intro wd114 H113
            refine r_seq ?_
            refine st_region ?_
            refine r_pure (.pointer (some ⟨b35, 0, none⟩)) rfl ?_
            refine r_fa FA59_6 ⟨b49, 6, none⟩ rfl rfl ?_
            refine r_ld1 (.slice A102 y96.length c104) LD29 rfl ((H113.g0).cell _ rfl) ?_
            obtain ⟨⟨y115, y116⟩, hy117, hm⟩ := bind_some hm
            refine r_callf Try.call18 (vintage_Losses_Take_ok b35 (⟨y40.f_l⟩ : vintage_Losses) A46 c48 y96 A102 y96.length c104 rfl (((H113.u4.u4.d.d).g1).cap) (fun _ H => (H.g1.rd)) y115 y116 H113.u4.u4 hy117) ?_
            rintro e119 wd118 ⟨A122, n123, c124, rfl, H121⟩
            obtain rfl := (H121.g1).leneq
            refine ⟨_, rfl, ?_⟩
            refine r_nil ?_
            refine n_bl ?_
            refine n_cut ⟨A122, y116.f_l.length, c124, A102, y96.length, c104, y116.f_l, y107, 0, y96, upk (ac rfl (ac rfl (ac rfl (ac rfl (ac rfl an))))), H121.u4.d.u2.u3.u2.u3.u4, hm⟩
          · refine st_condf hb80 rfl ?_
            refine st_seq ?_
            refine st_region ?_
            refine r_pure (.int .i64 y18) rfl ?_
            refine r_pure (.bool (decide (y18 < 0))) rfl ?_
            refine r_pure (.bool (decide (y18 < 0))) rfl ?_
            refine r_seq ?_
            rcases ite_some hm with ⟨hb125, hm⟩ | ⟨hb125, hm⟩
            · refine st_condt hb125 rfl ?_
              refine st_seq ?_
              refine st_region ?_
              refine r_pure (.int .i64 y18) rfl ?_
              refine r_pure (.int .i64 (w64 (0 - y18))) rfl ?_
              refine r_fa FA59_3 ⟨b49, 3, none⟩ rfl rfl ?_
              refine r_st1 LD3 rfl rfl rfl H52 rfl ?_
              intro wd127 H126
              refine r_seq ?_
              refine st_seq ?_
              refine st_region ?_
              refine r_pure (.pointer (some ⟨b35, 0, none⟩)) rfl ?_
              refine r_pure (.int .i64 year) rfl ?_
              refine r_pure (.int .i64 year) rfl ?_
              refine r_pure (.int .i64 life) rfl ?_
              refine r_pure (.int .i64 (w64 (year + life))) rfl ?_
              refine r_fa FA59_3 ⟨b49, 3, none⟩ rfl rfl ?_
              refine r_ld1 (.int .i64 (w64 (0 - y18))) LD3 rfl ((H126.g0).cell _ rfl) ?_
              obtain ⟨⟨y128, y129⟩, hy130, hm⟩ := bind_some hm
              refine r_callf Try.call12 (vintage_Losses_Add_ok b35 (⟨y40.f_l⟩ : vintage_Losses) A46 c48 year (w64 (year + life)) (w64 (0 - y18)) y128 y129 H126.u2.u2 hy130) ?_
              rintro e132 wd131 ⟨A135, n136, c137, rfl, H134⟩
              obtain rfl := (H134.g1).leneq
              refine ⟨_, rfl, ?_⟩
              refine r_pure (.int .i64 y128) rfl ?_
              refine r_seq ?_
              refine st_seq ?_
              refine st_region ?_
              refine r_pure (.int .i64 y128) rfl ?_
              refine r_pure (.bool (y128 != 0)) rfl ?_
              refine r_seq ?_
              rcases ite_some hm with ⟨hb138, hm⟩ | ⟨hb138, hm⟩
              · refine st_condt hb138 rfl ?_
                refine st_seq ?_
                refine st_region ?_
                refine r_build [.int .i64 0, .int .i64 0, .int .i64 0, .int .i64 0, .int .i64 0, .int .i64 0, .slice none 0 0] FL59 (by kernel_rfl) ?_
                refine r_pure (.int .i64 y128) rfl ?_
                refine r_stA [.int .i64 0, .int .i64 0, .int .i64 0, .int .i64 0, .int .i64 0, .int .i64 0, .slice none 0 0] LD59 rfl rfl rfl rfl H134.u3 (Nat.le_of_ble_eq_true rfl) rfl ?_
                intro wd140 H139
                refine r_pure (.pointer none) rfl ?_
                refine r_pure (.int .i64 y128) rfl ?_
                refine r_seq ?_
                have H141 := H139.add (A := Row K3 (.slice none 0 0) []) Row.nil
                obtain ⟨rfl, rfl, rfl⟩ := some_inj3 hm
                refine st_ret3c [.int .i64 0, .int .i64 0, .int .i64 0, .int .i64 0, .int .i64 0, .int .i64 0, .slice none 0 0] rfl rfl (Nat.le_of_ble_eq_true rfl) (Nat.le_of_ble_eq_true rfl) (Nat.le_of_ble_eq_true rfl) rfl LD59 rfl ((H141.g1).cells rfl) rfl rfl ?_
                exact .inl ⟨rfl, none, 0, 0, rfl, H141.u1.d.u1.d.u1.d.u1.d⟩
              · refine st_condf hb138 rfl ?_
                refine st_skip ?_
                refine n_bl ?_
                have H146 := H134.add (A := Row K3 (.slice none 0 0) []) Row.nil
                refine n_cut ⟨A135, y129.f_l.length, c137, none, 0, 0, y129.f_l, 0, w64 (0 - y18), ([] : List Int), upk (ac rfl (ac rfl (ac rfl (ac rfl (ac rfl an))))), H146.u3.u1.u2.u3.u4, hm⟩
            · refine st_condf hb125 rfl ?_
              refine st_skip ?_
              refine n_bl ?_
              have H147 := H52.add (A := Row K3 (.slice none 0 0) []) Row.nil
              refine n_cut ⟨A46, y40.f_l.length, c48, none, 0, 0, y40.f_l, 0, 0, ([] : List Int), upk (ac rfl (ac rfl (ac rfl (ac rfl (ac rfl an))))), H147.u1.u1.u2.u3.u4, hm⟩
        · rintro ρ w ⟨A54, n55, c56, A62, n63, c64, xs57, v60, v61, xs65, ⟨base, rfl⟩, H66, hm⟩
          obtain rfl := (H66.g1).leneq
          obtain rfl := (H66.g3).leneq
          unfold current_Tax.j2 at hm
          refine st_seq ?_
          refine st_region ?_
          refine r_pure (.int .i64 y18) rfl ?_
          refine r_fa FA59_2 ⟨b49, 2, none⟩ rfl rfl ?_
          refine r_ld1 (.int .i64 v60) LD3 rfl ((H66.g4).cell _ rfl) ?_
          refine r_pure (.int .i64 (w64 (y18 - v60))) rfl ?_
          refine r_fa FA59_3 ⟨b49, 3, none⟩ rfl rfl ?_
          refine r_ld1 (.int .i64 v61) LD3 rfl ((H66.g4).cell _ rfl) ?_
          refine r_pure (.int .i64 (w64 (w64 (y18 - v60) + v61))) rfl ?_
          refine r_fa FA59_4 ⟨b49, 4, none⟩ rfl rfl ?_
          refine r_st1 LD3 rfl rfl rfl H66.u4 rfl ?_
          intro wd68 H67
          refine r_seq ?_
          refine st_seq ?_
          refine st_region ?_
          refine r_fa FA59_4 ⟨b49, 4, none⟩ rfl rfl ?_
          refine r_ld1 (.int .i64 (w64 (w64 (y18 - v60) + v61))) LD3 rfl ((H67.g0).cell _ rfl) ?_
          refine r_pure (.int .i64 r_) rfl ?_
          obtain ⟨⟨y69, y70⟩, hy71, hm⟩ := bind_some hm
          refine r_callf Try.call71 (rate_Of_ok (w64 (w64 (y18 - v60) + v61)) r_ y69 y70 H67 hy71) ?_
          rintro e73 wd72 ⟨rfl, H75⟩
          refine ⟨_, rfl, ?_⟩
          refine r_pure (.tuple #[.int .i64 y69, .bool y70]) rfl ?_
          refine r_pure (.int .i64 y69) rfl ?_
          refine r_pure (.bool y70) rfl ?_
          refine r_fa FA59_5 ⟨b49, 5, none⟩ rfl rfl ?_
          refine r_st1 LD3 rfl rfl rfl H75 rfl ?_
          intro wd77 H76
          refine r_seq ?_
          refine st_seq ?_
          refine st_region ?_
          refine r_ldA [.int .i64 y18, .int .i64 y39, .int .i64 v60, .int .i64 v61, .int .i64 (w64 (w64 (y18 - v60) + v61)), .int .i64 y69, .slice A62 xs65.length c64] LD59 rfl rfl ((H76.g0).cells rfl) ?_
          refine r_pure (.pointer (some ⟨b35, 0, none⟩)) rfl ?_
          refine r_stA [.int .i64 y18, .int .i64 y39, .int .i64 v60, .int .i64 v61, .int .i64 (w64 (w64 (y18 - v60) + v61)), .int .i64 y69, .slice A62 xs65.length c64] LD59 rfl rfl rfl rfl H76.u1 (Nat.le_of_ble_eq_true rfl) rfl ?_
          intro wd79 H78
          refine r_pure (.pointer (some ⟨b35, 0, none⟩)) rfl ?_
          refine r_pure (.int .i64 0) rfl ?_
          refine r_seq ?_
          obtain ⟨rfl, rfl, rfl⟩ := some_inj3 hm
          refine st_ret3c [.int .i64 y18, .int .i64 y39, .int .i64 v60, .int .i64 v61, .int .i64 (w64 (w64 (y18 - v60) + v61)), .int .i64 y69, .slice A62 xs65.length c64] rfl rfl (Nat.le_of_ble_eq_true rfl) (Nat.le_of_ble_eq_true rfl) (Nat.le_of_ble_eq_true rfl) rfl LD59 rfl ((H78.g0).cells rfl) rfl rfl ?_
          exact .inr ⟨(⟨xs57⟩ : vintage_Losses), rfl, A62, xs65.length, c64, b35, A54, xs57.length, c56, rfl, H78.d.d.u1.u2⟩

set_option maxHeartbeats 2000000 in
theorem scutageref01_Right_ok {w0 w : World} {Γ : List (World → Prop)} (r_ : Int) (r0_ : Bool) (H : Hp w0 (Γ) w) (hm : scutageref01_Right r_ = some r0_) : Calls Try.prog 72 #[.int .i64 r_] w (fun e w => e = .returned (.bool r0_) ∧ Hp w0 (Γ) w) := by
  unfold scutageref01_Right at hm
  refine st_enter Try.func72 rfl Try.ntmps72 (Nat.le_of_ble_eq_true rfl) ?_
  refine st_seq ?_
  refine st_region ?_
  refine r_pure (.bool false) rfl ?_
  refine r_seq ?_
  refine st_cut (fun ρ w => ∃ q1 : Bool, (∃ base, ρ = updl base [(2, .bool q1)]) ∧ Hp w0 (Γ) w ∧ scutageref01_Right.j1 q1 = some r0_) ?_ ?_
  · refine st_region ?_
    refine r_pure (.int .i64 r_) rfl ?_
    refine r_pure (.bool (decide (r_ ≥ 0))) rfl ?_
    refine r_pure (.bool (decide (r_ ≥ 0))) rfl ?_
    rcases ite_some hm with ⟨hb3, hm⟩ | ⟨hb3, hm⟩
    · refine r_pure (.int .i64 r_) rfl ?_ (wn_t rfl rfl (by decide) rfl hb3)
      refine r_pure (.bool (decide (r_ ≤ 1000000))) rfl ?_ (wn_t rfl rfl (by decide) rfl hb3)
      refine r_pick_t (.bool (decide (r_ ≤ 1000000))) hb3 rfl rfl ?_
      refine r_pure (.bool (decide (r_ ≤ 1000000))) rfl ?_
      refine r_nil ?_
      refine n_cut ⟨decide (r_ ≤ 1000000), upk (ac rfl an), H, hm⟩
    · refine r_not (wn_f rfl rfl (by decide) rfl hb3) ?_
      refine r_not (wn_f rfl rfl (by decide) rfl hb3) ?_
      refine r_pick_f (.bool false) hb3 rfl rfl ?_
      refine r_pure (.bool false) rfl ?_
      refine r_nil ?_
      refine n_cut ⟨false, upk (ac rfl an), H, hm⟩
  · rintro ρ w ⟨q1, ⟨base, rfl⟩, H2, hm⟩
    unfold scutageref01_Right.j1 at hm
    have hq_ := Option.some.inj hm
    subst hq_
    refine st_ret1 rfl rfl (Nat.le_of_ble_eq_true rfl) rfl ?_
    exact ⟨rfl, H2⟩

set_option maxHeartbeats 2000000 in
theorem scutageref01_Money_ok {w0 w : World} {Γ : List (World → Prop)} (n_ : Int) (r0_ : Bool) (H : Hp w0 (Γ) w) (hm : scutageref01_Money n_ = some r0_) : Calls Try.prog 83 #[.int .i64 n_] w (fun e w => e = .returned (.bool r0_) ∧ Hp w0 (Γ) w) := by
  unfold scutageref01_Money at hm
  refine st_enter Try.func83 rfl Try.ntmps83 (Nat.le_of_ble_eq_true rfl) ?_
  refine st_seq ?_
  refine st_region ?_
  refine r_pure (.bool false) rfl ?_
  refine r_seq ?_
  refine st_cut (fun ρ w => ∃ q1 : Bool, (∃ base, ρ = updl base [(2, .bool q1)]) ∧ Hp w0 (Γ) w ∧ scutageref01_Money.j1 q1 = some r0_) ?_ ?_
  · refine st_region ?_
    refine r_pure (.int .i64 n_) rfl ?_
    refine r_pure (.bool (decide (n_ ≥ (-100000000000)))) rfl ?_
    refine r_pure (.bool (decide (n_ ≥ (-100000000000)))) rfl ?_
    rcases ite_some hm with ⟨hb3, hm⟩ | ⟨hb3, hm⟩
    · refine r_pure (.int .i64 n_) rfl ?_ (wn_t rfl rfl (by decide) rfl hb3)
      refine r_pure (.bool (decide (n_ ≤ 100000000000))) rfl ?_ (wn_t rfl rfl (by decide) rfl hb3)
      refine r_pick_t (.bool (decide (n_ ≤ 100000000000))) hb3 rfl rfl ?_
      refine r_pure (.bool (decide (n_ ≤ 100000000000))) rfl ?_
      refine r_nil ?_
      refine n_cut ⟨decide (n_ ≤ 100000000000), upk (ac rfl an), H, hm⟩
    · refine r_not (wn_f rfl rfl (by decide) rfl hb3) ?_
      refine r_not (wn_f rfl rfl (by decide) rfl hb3) ?_
      refine r_pick_f (.bool false) hb3 rfl rfl ?_
      refine r_pure (.bool false) rfl ?_
      refine r_nil ?_
      refine n_cut ⟨false, upk (ac rfl an), H, hm⟩
  · rintro ρ w ⟨q1, ⟨base, rfl⟩, H2, hm⟩
    unfold scutageref01_Money.j1 at hm
    have hq_ := Option.some.inj hm
    subst hq_
    refine st_ret1 rfl rfl (Nat.le_of_ble_eq_true rfl) rfl ?_
    exact ⟨rfl, H2⟩

set_option maxHeartbeats 2000000 in
theorem scutageref09_Income_ok {w0 w : World} {Γ : List (World → Prop)} (book : Int) (perm : Int) (moved : Int) (r0_ : Int) (r1_ : Bool) (H : Hp w0 (Γ) w) (hm : scutageref09_Income book perm moved = some (r0_, r1_)) : Calls Try.prog 73 #[.int .i64 book, .int .i64 perm, .int .i64 moved] w (fun e w => e = .returned (.tuple #[.int .i64 r0_, .bool r1_]) ∧ Hp w0 (Γ) w) := by
  unfold scutageref09_Income at hm
  refine st_enter Try.func73 rfl Try.ntmps73 (Nat.le_of_ble_eq_true rfl) ?_
  refine st_seq ?_
  refine st_region ?_
  refine r_pure (.int .i64 0) rfl ?_
  refine r_pure (.bool false) rfl ?_
  refine r_seq ?_
  refine st_seq ?_
  refine st_region ?_
  refine r_pure (.int .i64 book) rfl ?_
  refine r_pure (.int .i64 perm) rfl ?_
  refine r_pure (.int .i64 (w64 (book + perm))) rfl ?_
  refine r_pure (.int .i64 moved) rfl ?_
  refine r_pure (.int .i64 (w64 (w64 (book + perm) - moved))) rfl ?_
  refine r_pure (.int .i64 (w64 (w64 (book + perm) - moved))) rfl ?_
  refine r_seq ?_
  refine st_seq ?_
  refine st_cut (fun ρ w => ∃ q1 : Bool, (∃ base, ρ = updl base [(8, .int .i64 (w64 (w64 (book + perm) - moved))), (31, .bool q1)]) ∧ Hp w0 (Γ) w ∧ scutageref09_Income.j1 book perm moved q1 = some (r0_, r1_)) ?_ ?_
  · refine st_region ?_
    refine r_pure (.int .i64 book) rfl ?_
    obtain ⟨y4, hy5, hm⟩ := bind_some hm
    refine r_callf Try.call83 (scutageref01_Money_ok book y4 H hy5) ?_
    rintro e7 wd6 ⟨rfl, H9⟩
    refine ⟨_, rfl, ?_⟩
    refine r_pure (.bool (!y4)) rfl ?_
    refine r_pure (.bool (!y4)) rfl ?_
    rcases ite_some hm with ⟨hb10, hm⟩ | ⟨hb10, hm⟩
    · refine r_not (wn_f rfl rfl (by decide) rfl hb10) ?_
      refine r_not (wn_f rfl rfl (by decide) rfl hb10) ?_
      refine r_not (wn_f rfl rfl (by decide) rfl hb10) ?_
      refine r_pick_t (.bool true) hb10 rfl rfl ?_
      refine r_pure (.bool true) rfl ?_
      refine r_not (wn_f rfl rfl (by decide) rfl rfl) ?_
      refine r_not (wn_f rfl rfl (by decide) rfl rfl) ?_
      refine r_not (wn_f rfl rfl (by decide) rfl rfl) ?_
      refine r_pick_t (.bool true) rfl rfl rfl ?_
      refine r_pure (.bool true) rfl ?_
      refine r_not (wn_f rfl rfl (by decide) rfl rfl) ?_
      refine r_not (wn_f rfl rfl (by decide) rfl rfl) ?_
      refine r_not (wn_f rfl rfl (by decide) rfl rfl) ?_
      refine r_pick_t (.bool true) rfl rfl rfl ?_
      refine r_nil ?_
      refine n_cut ⟨true, upk (ac rfl (ac rfl an)), H9, hm⟩
    · refine r_pure (.int .i64 perm) rfl ?_ (wn_t rfl rfl (by decide) rfl hb10)
      obtain ⟨y11, hy12, hm⟩ := bind_some hm
      refine r_callf Try.call83 (scutageref01_Money_ok perm y11 H9 hy12) ?_ (wn_t rfl rfl (by decide) rfl hb10)
      rintro e14 wd13 ⟨rfl, H16⟩
      refine ⟨_, rfl, ?_⟩
      refine r_pure (.bool (!y11)) rfl ?_ (wn_t rfl rfl (by decide) rfl hb10)
      refine r_pick_f (.bool (!y11)) hb10 rfl rfl ?_
      refine r_pure (.bool (!y11)) rfl ?_
      rcases ite_some hm with ⟨hb17, hm⟩ | ⟨hb17, hm⟩
      · refine r_not (wn_f rfl rfl (by decide) rfl hb17) ?_
        refine r_not (wn_f rfl rfl (by decide) rfl hb17) ?_
        refine r_not (wn_f rfl rfl (by decide) rfl hb17) ?_
        refine r_pick_t (.bool true) hb17 rfl rfl ?_
        refine r_pure (.bool true) rfl ?_
        refine r_not (wn_f rfl rfl (by decide) rfl rfl) ?_
        refine r_not (wn_f rfl rfl (by decide) rfl rfl) ?_
        refine r_not (wn_f rfl rfl (by decide) rfl rfl) ?_
        refine r_pick_t (.bool true) rfl rfl rfl ?_
        refine r_nil ?_
        refine n_cut ⟨true, upk (ac rfl (ac rfl an)), H16, hm⟩
      · refine r_pure (.int .i64 moved) rfl ?_ (wn_t rfl rfl (by decide) rfl hb17)
        obtain ⟨y18, hy19, hm⟩ := bind_some hm
        refine r_callf Try.call83 (scutageref01_Money_ok moved y18 H16 hy19) ?_ (wn_t rfl rfl (by decide) rfl hb17)
        rintro e21 wd20 ⟨rfl, H23⟩
        refine ⟨_, rfl, ?_⟩
        refine r_pure (.bool (!y18)) rfl ?_ (wn_t rfl rfl (by decide) rfl hb17)
        refine r_pick_f (.bool (!y18)) hb17 rfl rfl ?_
        refine r_pure (.bool (!y18)) rfl ?_
        rcases ite_some hm with ⟨hb24, hm⟩ | ⟨hb24, hm⟩
        · refine r_not (wn_f rfl rfl (by decide) rfl hb24) ?_
          refine r_not (wn_f rfl rfl (by decide) rfl hb24) ?_
          refine r_not (wn_f rfl rfl (by decide) rfl hb24) ?_
          refine r_pick_t (.bool true) hb24 rfl rfl ?_
          refine r_nil ?_
          refine n_cut ⟨true, upk (ac rfl (ac rfl an)), H23, hm⟩
        · refine r_pure (.int .i64 (w64 (w64 (book + perm) - moved))) rfl ?_ (wn_t rfl rfl (by decide) rfl hb24)
          obtain ⟨y25, hy26, hm⟩ := bind_some hm
          refine r_callf Try.call83 (scutageref01_Money_ok (w64 (w64 (book + perm) - moved)) y25 H23 hy26) ?_ (wn_t rfl rfl (by decide) rfl hb24)
          rintro e28 wd27 ⟨rfl, H30⟩
          refine ⟨_, rfl, ?_⟩
          refine r_pure (.bool (!y25)) rfl ?_ (wn_t rfl rfl (by decide) rfl hb24)
          refine r_pick_f (.bool (!y25)) hb24 rfl rfl ?_
          refine r_nil ?_
          refine n_cut ⟨!y25, upk (ac rfl (ac rfl an)), H30, hm⟩
  · rintro ρ w ⟨q1, ⟨base, rfl⟩, H2, hm⟩
    unfold scutageref09_Income.j1 at hm
    rcases ite_some hm with ⟨hb3, hm⟩ | ⟨hb3, hm⟩
    · refine st_condt hb3 rfl ?_
      refine st_seq ?_
      refine st_region ?_
      refine r_pure (.int .i64 0) rfl ?_
      refine r_pure (.bool false) rfl ?_
      refine r_seq ?_
      obtain ⟨rfl, rfl⟩ := some_inj2 hm
      refine st_ret2 rfl rfl (Nat.le_of_ble_eq_true rfl) (Nat.le_of_ble_eq_true rfl) rfl rfl ?_
      exact ⟨rfl, H2⟩
    · refine st_condf hb3 rfl ?_
      refine st_skip ?_
      refine n_sq ?_
      refine st_seq ?_
      refine st_region ?_
      refine r_pure (.int .i64 (w64 (w64 (book + perm) - moved))) rfl ?_
      refine r_pure (.int .i64 (w64 (w64 (book + perm) - moved))) rfl ?_
      refine r_pure (.bool true) rfl ?_
      refine r_seq ?_
      obtain ⟨rfl, rfl⟩ := some_inj2 hm
      refine st_ret2 rfl rfl (Nat.le_of_ble_eq_true rfl) (Nat.le_of_ble_eq_true rfl) rfl rfl ?_
      exact ⟨rfl, H2⟩

set_option maxHeartbeats 2000000 in
theorem scutageref09_Losses_Copy_ok {w0 w : World} {Γ : List (World → Prop)} (b1 : Nat) (l_ : scutageref09_Losses) (A2 : Option Addr) (n7 c3 : Nat) (hn6 : n7 = l_.V.length) (hc4 : l_.V.length ≤ c3) (hv5 : ∀ u, Hp w0 Γ u → SlR K38 A2 l_.V u) (hv8 : ∀ u, Hp w0 Γ u → Bx b1 28 [.slice A2 n7 c3] u) (r0_ : scutageref09_Losses) (H : Hp w0 (Γ) w) (hm : scutageref09_Losses_Copy l_ = some r0_) : Calls Try.prog 74 #[.pointer (some ⟨b1, 0, none⟩)] w (fun e w => ∃ (bx1 : Nat), ∃ (Ax2 : Option Addr) (nx3 cx4 : Nat), e = .returned (.pointer (some ⟨bx1, 0, none⟩)) ∧ Hp w0 (Bx bx1 28 [.slice Ax2 nx3 cx4] :: Row K38 (.slice Ax2 nx3 cx4) r0_.V :: Γ) w) := by
  subst hn6
  unfold scutageref09_Losses_Copy at hm
  refine st_enter Try.func74 rfl Try.ntmps74 (Nat.le_of_ble_eq_true rfl) ?_
  refine st_seq ?_
  refine st_region ?_
  refine r_pure (.pointer none) rfl ?_
  refine r_seq ?_
  refine st_seq ?_
  refine st_region ?_
  refine r_pure (.pointer (some ⟨b1, 0, none⟩)) rfl ?_
  refine r_pure (.pointer (some ⟨b1, 0, none⟩)) rfl ?_
  refine r_fa FA28_0 ⟨b1, 0, none⟩ rfl rfl ?_
  refine r_ld1 (.slice A2 l_.V.length c3) LD26 rfl ((hv8 _ H).cell _ rfl) ?_
  obtain ⟨hf10, hm⟩ := gd_some hm
  have H9 := H.add (A := Row K38 (.slice none 0 0) []) Row.nil
  refine r_append (K := K38) (ys := l_.V) AP26 rfl rfl rfl rfl H9 ((hv5 _ H9.d).src) (fit_le hf10 (by decide)) ?_
  intro A11 c12 wd13 H14
  refine r_build [.slice A11 ((([] : List api_Vintage) ++ l_.V).length) c12] FL28 rfl ?_
  refine r_box [.slice A11 ((([] : List api_Vintage) ++ l_.V).length) c12] H14 rfl ?_
  intro b15 wd17 H16
  refine r_pure (.pointer (some ⟨b15, 0, none⟩)) rfl ?_
  refine r_seq ?_
  have hq_ := Option.some.inj hm
  subst hq_
  refine st_ret1 rfl rfl (Nat.le_of_ble_eq_true rfl) rfl ?_
  exact ⟨b15, A11, (([] : List api_Vintage) ++ l_.V).length, c12, rfl, H16.u1.u1⟩

set_option maxHeartbeats 2000000 in
theorem scutageref09_Losses_Expire_ok {w0 w : World} {Γ : List (World → Prop)} (b1 : Nat) (l_ : scutageref09_Losses) (A2 : Option Addr) (c3 : Nat) (year : Int) (r0_ : Int) (r1_ : scutageref09_Losses) (H : Hp w0 (Bx b1 28 [.slice A2 l_.V.length c3] :: Row K38 (.slice A2 l_.V.length c3) l_.V :: Γ) w) (hm : scutageref09_Losses_Expire l_ year = some (r0_, r1_)) : Calls Try.prog 15 #[.pointer (some ⟨b1, 0, none⟩), .int .i64 year] w (fun e w => ∃ (Ax1 : Option Addr) (nx2 cx3 : Nat), e = .returned (.int .i64 r0_) ∧ Hp w0 (Bx b1 28 [.slice Ax1 nx2 cx3] :: Row K38 (.slice Ax1 nx2 cx3) r1_.V :: Γ) w) := by
  unfold scutageref09_Losses_Expire at hm
  refine st_enter Try.func15 rfl Try.ntmps15 (Nat.le_of_ble_eq_true rfl) ?_
  refine st_seq ?_
  refine st_region ?_
  refine r_pure (.int .i64 0) rfl ?_
  refine r_seq ?_
  refine st_seq ?_
  refine st_region ?_
  refine r_pure (.int .i64 0) rfl ?_
  refine r_seq ?_
  refine st_seq ?_
  refine st_region ?_
  refine r_pure (.slice none 0 0) rfl ?_
  refine r_seq ?_
  refine st_seq ?_
  refine st_seq ?_
  refine st_region ?_
  refine r_pure (.pointer (some ⟨b1, 0, none⟩)) rfl ?_
  refine r_pure (.pointer (some ⟨b1, 0, none⟩)) rfl ?_
  refine r_fa FA28_0 ⟨b1, 0, none⟩ rfl rfl ?_
  refine r_ld1 (.slice A2 l_.V.length c3) LD26 rfl ((H.g0).cell _ rfl) ?_
  refine r_len Try.underlying26 rfl ?_
  refine r_pure (.int .i64 0) rfl ?_
  refine r_seq ?_
  refine st_block ?_
  have H11 := H.add (A := Row K38 (.slice none 0 0) []) Row.nil
  have hlim35 := (H11.g2.rd).lim
  obtain ⟨tl18, hl19, hm17⟩ := bind_some hm
  refine st_loopL (scutageref09_Losses_Expire.l1 year) (fun ys24 s ρ w => ∃ i20 : Int, ∃ v10 : Int, ∃ xs15 : List api_Vintage, ∃ dn21 : List api_Vintage, ∃ A12 : Option Addr, ∃ n13 : Nat, ∃ c14 : Nat, (i20, v10, xs15) = s ∧ l_.V = dn21 ++ ys24 ∧ i20 = (dn21.length : Int) ∧ (∃ base, ρ = updl base [(0, .pointer (some ⟨b1, 0, none⟩)), (1, .int .i64 year), (5, .int .i64 v10), (6, .slice A12 n13 c14), (12, .slice A2 l_.V.length c3), (13, .int .i64 (l_.V.length : Int)), (14, .int .i64 i20)]) ∧ Hp w0 (Row K38 (.slice A2 l_.V.length c3) l_.V :: Bx b1 28 [.slice A2 l_.V.length c3] :: Row K38 (.slice A12 n13 c14) xs15 :: Γ) w) hl19 ⟨0, 0, ([] : List api_Vintage), [], none, 0, 0, rfl, rfl, rfl, upk (ac rfl (ac rfl (ac rfl (ac rfl (ac rfl (ac rfl (ac rfl an))))))), H11.u1.u2⟩ ?_
  rintro m ys24 IH28 s ρ w ⟨i20, v10, xs15, dn21, A12, n13, c14, rfl, hxs22, hi23, ⟨base, rfl⟩, H16⟩ hm
  obtain rfl := (H16.g2).leneq
  rcases ys24 with _ | ⟨y25, ys24⟩
  · rw [scutageref09_Losses_Expire.l1] at hm
    have hb29 := range_end hxs22 hi23
    refine st_seq ?_
    refine st_region ?_
    refine r_pure (.bool (decide (i20 < (l_.V.length : Int)))) rfl ?_
    refine r_seq ?_
    refine st_seq ?_
    refine st_condf hb29 rfl ?_
    have hq_ := Option.some.inj hm
    refine st_exit rfl ?_
    subst hq_
    refine n_sq ?_
    refine st_seq ?_
    refine st_region ?_
    refine r_pure (.pointer (some ⟨b1, 0, none⟩)) rfl ?_
    refine r_pure (.slice A12 xs15.length c14) rfl ?_
    refine r_pure (.pointer (some ⟨b1, 0, none⟩)) rfl ?_
    refine r_fa FA28_0 ⟨b1, 0, none⟩ rfl rfl ?_
    refine r_st1 LD26 rfl rfl rfl H16.u1 rfl ?_
    intro wd37 H36
    refine r_seq ?_
    refine st_seq ?_
    refine st_region ?_
    refine r_pure (.int .i64 v10) rfl ?_
    refine r_pure (.int .i64 v10) rfl ?_
    refine r_seq ?_
    obtain ⟨rfl, rfl⟩ := some_inj2 hm17
    refine st_ret1 rfl rfl (Nat.le_of_ble_eq_true rfl) rfl ?_
    exact ⟨A12, xs15.length, c14, rfl, H36.u1.d.u1.u1⟩
  · rw [scutageref09_Losses_Expire.l1] at hm
    have hb30 := range_in hxs22 hi23
    obtain ⟨h031, h132, hj33⟩ := range_ix hxs22 hi23
    have hnx34 := range_next hxs22 hi23 hlim35
    refine st_seq ?_
    refine st_region ?_
    refine r_pure (.bool (decide (i20 < (l_.V.length : Int)))) rfl ?_
    refine r_seq ?_
    refine st_seq ?_
    refine st_condt hb30 rfl ?_
    refine st_skip ?_
    refine n_sq ?_
    refine st_cut (fun ρ w => ∃ A39 : Option Addr, ∃ n40 : Nat, ∃ c41 : Nat, ∃ v38 : Int, ∃ xs42 : List api_Vintage, (∃ base, ρ = updl base [(0, .pointer (some ⟨b1, 0, none⟩)), (1, .int .i64 year), (5, .int .i64 v38), (6, .slice A39 n40 c41), (12, .slice A2 l_.V.length c3), (13, .int .i64 (l_.V.length : Int)), (14, .int .i64 i20)]) ∧ Hp w0 (Row K38 (.slice A2 l_.V.length c3) l_.V :: Bx b1 28 [.slice A2 l_.V.length c3] :: Row K38 (.slice A39 n40 c41) xs42 :: Γ) w ∧ scutageref09_Losses_Expire.j1 (scutageref09_Losses_Expire.l1 year ys24) i20 v38 xs42 = some tl18) ?_ ?_
    · refine st_block ?_
      refine st_seq ?_
      refine st_region ?_
      have hA44 := (H16.g0.rd).adO hj33
      refine r_ix IX26 rfl rfl hA44 h031 h132 ?_
      refine r_ldA [.int .i64 y25.Origin, .int .i64 y25.Expiry, .int .i64 y25.Left] LD38 rfl rfl ((H16.g0.rd).csA hA44 hj33) ?_
      refine r_alloc [.int .i64 0, .int .i64 0, .int .i64 0] Try.zeroValue38 H16 rfl ?_
      intro b45 wd47 H46
      refine r_stA [.int .i64 y25.Origin, .int .i64 y25.Expiry, .int .i64 y25.Left] LD38 rfl rfl rfl rfl H46 (Nat.le_of_ble_eq_true rfl) rfl ?_
      intro wd49 H48
      refine r_seq ?_
      refine st_seq ?_
      refine st_region ?_
      refine r_fa FA38_1 ⟨b45, 1, none⟩ rfl rfl ?_
      refine r_ld1 (.int .i64 y25.Expiry) LD3 rfl ((H48.g0).cell _ rfl) ?_
      refine r_pure (.int .i64 year) rfl ?_
      refine r_pure (.bool (decide (y25.Expiry < year))) rfl ?_
      refine r_seq ?_
      rcases ite_some hm with ⟨hb50, hm⟩ | ⟨hb50, hm⟩
      · refine st_condt hb50 rfl ?_
        refine st_region ?_
        refine r_pure (.int .i64 v10) rfl ?_
        refine r_fa FA38_2 ⟨b45, 2, none⟩ rfl rfl ?_
        refine r_ld1 (.int .i64 y25.Left) LD3 rfl ((H48.g0).cell _ rfl) ?_
        refine r_pure (.int .i64 (w64 (v10 + y25.Left))) rfl ?_
        refine r_pure (.int .i64 (w64 (v10 + y25.Left))) rfl ?_
        refine r_nil ?_
        refine n_bl ?_
        refine n_cut ⟨A12, xs15.length, c14, w64 (v10 + y25.Left), xs15, upk (ac rfl (ac rfl (ac rfl (ac rfl (ac rfl (ac rfl (ac rfl an))))))), H48.d.u2.u2.u2, hm⟩
      · refine st_condf hb50 rfl ?_
        refine st_region ?_
        refine r_pure (.slice A12 xs15.length c14) rfl ?_
        refine r_ldA [.int .i64 y25.Origin, .int .i64 y25.Expiry, .int .i64 y25.Left] LD38 rfl rfl ((H48.g0).cells rfl) ?_
        refine r_buildSlice (K := K38) [y25] EL26 rfl rfl rfl (by decide) (by decide) rfl H48 ?_
        intro b51 wd53 H52
        obtain ⟨hf54, hm⟩ := gd_some hm
        refine r_append (K := K38) (ys := [y25]) AP26 rfl rfl rfl rfl H52.u4 (((H52.u4).g1).src) (fit_le hf54 (by decide)) ?_
        intro A55 c56 wd57 H58
        refine r_pure (.slice A55 ((xs15 ++ [y25]).length) c56) rfl ?_
        refine r_nil ?_
        refine n_bl ?_
        refine n_cut ⟨A55, (xs15 ++ [y25]).length, c56, v10, xs15 ++ [y25], upk (ac rfl (ac rfl (ac rfl (ac rfl (ac rfl (ac rfl (ac rfl an))))))), H58.u1.d.u1.d.u2.u2, hm⟩
    · rintro ρ w ⟨A39, n40, c41, v38, xs42, ⟨base, rfl⟩, H43, hm⟩
      obtain rfl := (H43.g2).leneq
      unfold scutageref09_Losses_Expire.j1 at hm
      refine st_region ?_
      refine r_pure (.int .i64 (w64 (i20 + 1))) rfl ?_
      refine r_pure (.int .i64 (w64 (i20 + 1))) rfl ?_
      refine r_nil ?_
      refine n_round (IH28 _ _ rfl _ _ _ ⟨i20 + 1, v38, xs42, dn21 ++ [y25], A39, xs42.length, c41, rfl, range_more hxs22, range_len hi23, upk (ac rfl (ac rfl (ac rfl (ac rfl (ac rfl (ac rfl (ac hnx34 an))))))), H43.u2.u2.u2⟩ hm)

set_option maxHeartbeats 2000000 in
theorem scutageref01_Floor_ok {w0 w : World} {Γ : List (World → Prop)} (n_ : Int) (r_ : Int) (r0_ : Int) (r1_ : Bool) (H : Hp w0 (Γ) w) (hm : scutageref01_Floor n_ r_ = some (r0_, r1_)) : Calls Try.prog 95 #[.int .i64 n_, .int .i64 r_] w (fun e w => e = .returned (.tuple #[.int .i64 r0_, .bool r1_]) ∧ Hp w0 (Γ) w) := by
  unfold scutageref01_Floor at hm
  refine st_enter Try.func95 rfl Try.ntmps95 (Nat.le_of_ble_eq_true rfl) ?_
  refine st_seq ?_
  refine st_region ?_
  refine r_pure (.int .i64 0) rfl ?_
  refine r_pure (.bool false) rfl ?_
  refine r_seq ?_
  refine st_seq ?_
  refine st_cut (fun ρ w => ∃ q1 : Bool, (∃ base, ρ = updl base [(0, .int .i64 n_), (1, .int .i64 r_), (17, .bool q1)]) ∧ Hp w0 (Γ) w ∧ scutageref01_Floor.j1 n_ r_ q1 = some (r0_, r1_)) ?_ ?_
  · refine st_region ?_
    refine r_pure (.int .i64 n_) rfl ?_
    refine r_pure (.bool (decide (n_ < 0))) rfl ?_
    refine r_pure (.bool (decide (n_ < 0))) rfl ?_
    rcases ite_some hm with ⟨hb4, hm⟩ | ⟨hb4, hm⟩
    · refine r_not (wn_f rfl rfl (by decide) rfl hb4) ?_
      refine r_not (wn_f rfl rfl (by decide) rfl hb4) ?_
      refine r_not (wn_f rfl rfl (by decide) rfl hb4) ?_
      refine r_pick_t (.bool true) hb4 rfl rfl ?_
      refine r_pure (.bool true) rfl ?_
      refine r_not (wn_f rfl rfl (by decide) rfl rfl) ?_
      refine r_not (wn_f rfl rfl (by decide) rfl rfl) ?_
      refine r_not (wn_f rfl rfl (by decide) rfl rfl) ?_
      refine r_pick_t (.bool true) rfl rfl rfl ?_
      refine r_nil ?_
      refine n_cut ⟨true, upk (ac rfl (ac rfl (ac rfl an))), H, hm⟩
    · refine r_pure (.int .i64 n_) rfl ?_ (wn_t rfl rfl (by decide) rfl hb4)
      obtain ⟨y5, hy6, hm⟩ := bind_some hm
      refine r_callf Try.call83 (scutageref01_Money_ok n_ y5 H hy6) ?_ (wn_t rfl rfl (by decide) rfl hb4)
      rintro e8 wd7 ⟨rfl, H10⟩
      refine ⟨_, rfl, ?_⟩
      refine r_pure (.bool (!y5)) rfl ?_ (wn_t rfl rfl (by decide) rfl hb4)
      refine r_pick_f (.bool (!y5)) hb4 rfl rfl ?_
      refine r_pure (.bool (!y5)) rfl ?_
      rcases ite_some hm with ⟨hb11, hm⟩ | ⟨hb11, hm⟩
      · refine r_not (wn_f rfl rfl (by decide) rfl hb11) ?_
        refine r_not (wn_f rfl rfl (by decide) rfl hb11) ?_
        refine r_not (wn_f rfl rfl (by decide) rfl hb11) ?_
        refine r_pick_t (.bool true) hb11 rfl rfl ?_
        refine r_nil ?_
        refine n_cut ⟨true, upk (ac rfl (ac rfl (ac rfl an))), H10, hm⟩
      · refine r_pure (.int .i64 r_) rfl ?_ (wn_t rfl rfl (by decide) rfl hb11)
        obtain ⟨y12, hy13, hm⟩ := bind_some hm
        refine r_callf Try.call72 (scutageref01_Right_ok r_ y12 H10 hy13) ?_ (wn_t rfl rfl (by decide) rfl hb11)
        rintro e15 wd14 ⟨rfl, H17⟩
        refine ⟨_, rfl, ?_⟩
        refine r_pure (.bool (!y12)) rfl ?_ (wn_t rfl rfl (by decide) rfl hb11)
        refine r_pick_f (.bool (!y12)) hb11 rfl rfl ?_
        refine r_nil ?_
        refine n_cut ⟨!y12, upk (ac rfl (ac rfl (ac rfl an))), H17, hm⟩
  · rintro ρ w ⟨q1, ⟨base, rfl⟩, H2, hm⟩
    unfold scutageref01_Floor.j1 at hm
    rcases ite_some hm with ⟨hb3, hm⟩ | ⟨hb3, hm⟩
    · refine st_condt hb3 rfl ?_
      refine st_seq ?_
      refine st_region ?_
      refine r_pure (.int .i64 0) rfl ?_
      refine r_pure (.bool false) rfl ?_
      refine r_seq ?_
      obtain ⟨rfl, rfl⟩ := some_inj2 hm
      refine st_ret2 rfl rfl (Nat.le_of_ble_eq_true rfl) (Nat.le_of_ble_eq_true rfl) rfl rfl ?_
      exact ⟨rfl, H2⟩
    · refine st_condf hb3 rfl ?_
      refine st_skip ?_
      refine n_sq ?_
      refine st_seq ?_
      refine st_region ?_
      refine r_pure (.int .i64 n_) rfl ?_
      refine r_pure (.int .i64 r_) rfl ?_
      refine r_pure (.int .i64 (w64 (n_ * r_))) rfl ?_
      refine r_quo (by decide) rfl rfl ?_
      refine r_pure (.int .i64 (w64 (Int.tdiv (w64 (n_ * r_)) 1000000))) rfl ?_
      refine r_pure (.bool true) rfl ?_
      refine r_seq ?_
      obtain ⟨rfl, rfl⟩ := some_inj2 hm
      refine st_ret2 rfl rfl (Nat.le_of_ble_eq_true rfl) (Nat.le_of_ble_eq_true rfl) rfl rfl ?_
      exact ⟨rfl, H2⟩

set_option maxHeartbeats 2000000 in
theorem scutageref09_Room_ok {w0 w : World} {Γ : List (World → Prop)} (income : Int) (cap : Int) (r0_ : Int) (H : Hp w0 (Γ) w) (hm : scutageref09_Room income cap = some r0_) : Calls Try.prog 76 #[.int .i64 income, .int .i64 cap] w (fun e w => e = .returned (.int .i64 r0_) ∧ Hp w0 (Γ) w) := by
  unfold scutageref09_Room at hm
  refine st_enter Try.func76 rfl Try.ntmps76 (Nat.le_of_ble_eq_true rfl) ?_
  refine st_seq ?_
  refine st_region ?_
  refine r_pure (.int .i64 0) rfl ?_
  refine r_seq ?_
  refine st_seq ?_
  refine st_region ?_
  refine r_pure (.int .i64 income) rfl ?_
  refine r_pure (.int .i64 cap) rfl ?_
  obtain ⟨⟨y1, y2⟩, hy3, hm⟩ := bind_some hm
  refine r_callf Try.call95 (scutageref01_Floor_ok income cap y1 y2 H hy3) ?_
  rintro e5 wd4 ⟨rfl, H7⟩
  refine ⟨_, rfl, ?_⟩
  refine r_pure (.tuple #[.int .i64 y1, .bool y2]) rfl ?_
  refine r_pure (.int .i64 y1) rfl ?_
  refine r_pure (.bool y2) rfl ?_
  refine r_pure (.int .i64 y1) rfl ?_
  refine r_pure (.bool y2) rfl ?_
  refine r_seq ?_
  refine st_seq ?_
  refine st_region ?_
  refine r_pure (.int .i64 y1) rfl ?_
  refine r_pure (.int .i64 y1) rfl ?_
  refine r_seq ?_
  have hq_ := Option.some.inj hm
  subst hq_
  refine st_ret1 rfl rfl (Nat.le_of_ble_eq_true rfl) rfl ?_
  exact ⟨rfl, H7⟩

set_option maxHeartbeats 2000000 in
theorem scutageref09_Vector_ok {w0 w : World} {Γ : List (World → Prop)} (rows : List api_Vintage) (A1 : Option Addr) (n6 c2 : Nat) (hn5 : n6 = rows.length) (hc3 : rows.length ≤ c2) (hv4 : ∀ u, Hp w0 Γ u → SlR K38 A1 rows u) (year : Int) (room : Int) (r0_ : List Int) (H : Hp w0 (Γ) w) (hm : scutageref09_Vector rows year room = some r0_) : Calls Try.prog 75 #[.slice A1 n6 c2, .int .i64 year, .int .i64 room] w (fun e w => ∃ (Ax1 : Option Addr) (nx2 cx3 : Nat), e = .returned (.slice Ax1 nx2 cx3) ∧ Hp w0 (Row K3 (.slice Ax1 nx2 cx3) r0_ :: Γ) w) := by
  subst hn5
  unfold scutageref09_Vector at hm
  refine st_enter Try.func75 rfl Try.ntmps75 (Nat.le_of_ble_eq_true rfl) ?_
  refine st_seq ?_
  refine st_region ?_
  refine r_pure (.slice none 0 0) rfl ?_
  refine r_seq ?_
  refine st_seq ?_
  refine st_region ?_
  refine r_pure (.slice none 0 0) rfl ?_
  refine r_seq ?_
  refine st_seq ?_
  refine st_seq ?_
  refine st_region ?_
  refine r_pure (.slice A1 rows.length c2) rfl ?_
  refine r_len Try.underlying26 rfl ?_
  refine r_pure (.int .i64 0) rfl ?_
  refine r_seq ?_
  refine st_block ?_
  have H14 := H.add (A := Row K3 (.slice none 0 0) []) Row.nil
  have hlim38 := (hv4 _ H14.d).lim
  obtain ⟨tl21, hl22, hm20⟩ := bind_some hm
  refine st_loopL (scutageref09_Vector.l1 year) (fun ys27 s ρ w => ∃ i23 : Int, ∃ v13 : Int, ∃ xs18 : List Int, ∃ dn24 : List api_Vintage, ∃ A15 : Option Addr, ∃ n16 : Nat, ∃ c17 : Nat, (i23, v13, xs18) = s ∧ rows = dn24 ++ ys27 ∧ i23 = (dn24.length : Int) ∧ (∃ base, ρ = updl base [(1, .int .i64 year), (2, .int .i64 v13), (7, .slice A15 n16 c17), (11, .slice A1 rows.length c2), (12, .int .i64 (rows.length : Int)), (13, .int .i64 i23)]) ∧ Hp w0 (Row K3 (.slice A15 n16 c17) xs18 :: Γ) w) hl22 ⟨0, room, ([] : List Int), [], none, 0, 0, rfl, rfl, rfl, upk (ac rfl (ac rfl (ac rfl (ac rfl (ac rfl (ac rfl an)))))), H14⟩ ?_
  rintro m ys27 IH31 s ρ w ⟨i23, v13, xs18, dn24, A15, n16, c17, rfl, hxs25, hi26, ⟨base, rfl⟩, H19⟩ hm
  obtain rfl := (H19.g0).leneq
  rcases ys27 with _ | ⟨y28, ys27⟩
  · rw [scutageref09_Vector.l1] at hm
    have hb32 := range_end hxs25 hi26
    refine st_seq ?_
    refine st_region ?_
    refine r_pure (.bool (decide (i23 < (rows.length : Int)))) rfl ?_
    refine r_seq ?_
    refine st_seq ?_
    refine st_condf hb32 rfl ?_
    have hq_ := Option.some.inj hm
    refine st_exit rfl ?_
    subst hq_
    refine n_sq ?_
    refine st_seq ?_
    refine st_region ?_
    refine r_pure (.slice A15 xs18.length c17) rfl ?_
    refine r_pure (.slice A15 xs18.length c17) rfl ?_
    refine r_seq ?_
    have hq_ := Option.some.inj hm20
    subst hq_
    refine st_ret1 rfl rfl (Nat.le_of_ble_eq_true rfl) rfl ?_
    exact ⟨A15, xs18.length, c17, rfl, H19⟩
  · rw [scutageref09_Vector.l1] at hm
    have hb33 := range_in hxs25 hi26
    obtain ⟨h034, h135, hj36⟩ := range_ix hxs25 hi26
    have hnx37 := range_next hxs25 hi26 hlim38
    refine st_seq ?_
    refine st_region ?_
    refine r_pure (.bool (decide (i23 < (rows.length : Int)))) rfl ?_
    refine r_seq ?_
    refine st_seq ?_
    refine st_condt hb33 rfl ?_
    refine st_skip ?_
    refine n_sq ?_
    refine st_seq ?_
    refine st_block ?_
    refine st_seq ?_
    refine st_region ?_
    have hA39 := (hv4 _ H19.d).adO hj36
    refine r_ix IX26 rfl rfl hA39 h034 h135 ?_
    refine r_ldA [.int .i64 y28.Origin, .int .i64 y28.Expiry, .int .i64 y28.Left] LD38 rfl rfl ((hv4 _ H19.d).csA hA39 hj36) ?_
    refine r_alloc [.int .i64 0, .int .i64 0, .int .i64 0] Try.zeroValue38 H19 rfl ?_
    intro b40 wd42 H41
    refine r_stA [.int .i64 y28.Origin, .int .i64 y28.Expiry, .int .i64 y28.Left] LD38 rfl rfl rfl rfl H41 (Nat.le_of_ble_eq_true rfl) rfl ?_
    intro wd44 H43
    refine r_seq ?_
    refine st_seq ?_
    refine st_region ?_
    refine r_pure (.int .i64 0) rfl ?_
    refine r_seq ?_
    refine st_cut (fun ρ w => ∃ v45 : Int, (∃ base, ρ = updl base [(1, .int .i64 year), (2, .int .i64 v13), (7, .slice A15 xs18.length c17), (10, .int .i64 v45), (11, .slice A1 rows.length c2), (12, .int .i64 (rows.length : Int)), (13, .int .i64 i23)]) ∧ Hp w0 (Row K3 (.slice A15 xs18.length c17) xs18 :: Γ) w ∧ scutageref09_Vector.j1 xs18 (scutageref09_Vector.l1 year ys27) i23 v13 v45 = some tl21) ?_ ?_
    · refine st_seq ?_
      refine st_region ?_
      refine r_fa FA38_1 ⟨b40, 1, none⟩ rfl rfl ?_
      refine r_ld1 (.int .i64 y28.Expiry) LD3 rfl ((H43.g0).cell _ rfl) ?_
      refine r_pure (.int .i64 year) rfl ?_
      refine r_pure (.bool (decide (y28.Expiry ≥ year))) rfl ?_
      refine r_seq ?_
      rcases ite_some hm with ⟨hb55, hm⟩ | ⟨hb55, hm⟩
      · refine st_condt hb55 rfl ?_
        refine st_region ?_
        refine r_fa FA38_2 ⟨b40, 2, none⟩ rfl rfl ?_
        refine r_ld1 (.int .i64 y28.Left) LD3 rfl ((H43.g0).cell _ rfl) ?_
        refine r_pure (.int .i64 v13) rfl ?_
        refine r_max rfl rfl ?_
        refine r_min rfl rfl ?_
        refine r_pure (.int .i64 (mn y28.Left (mx v13 0))) rfl ?_
        refine r_nil ?_
        refine n_cut ⟨mn y28.Left (mx v13 0), upk (ac rfl (ac rfl (ac rfl (ac rfl (ac rfl (ac rfl (ac rfl an))))))), H43.d, hm⟩
      · refine st_condf hb55 rfl ?_
        refine st_skip ?_
        refine n_cut ⟨0, upk (ac rfl (ac rfl (ac rfl (ac rfl (ac rfl (ac rfl (ac rfl an))))))), H43.d, hm⟩
    · rintro ρ w ⟨v45, ⟨base, rfl⟩, H46, hm⟩
      unfold scutageref09_Vector.j1 at hm
      refine st_seq ?_
      refine st_region ?_
      refine r_pure (.slice A15 xs18.length c17) rfl ?_
      refine r_pure (.int .i64 v45) rfl ?_
      refine r_buildSlice (K := K3) [v45] EL29 rfl rfl rfl (by decide) (by decide) rfl H46 ?_
      intro b47 wd49 H48
      obtain ⟨hf50, hm⟩ := gd_some hm
      refine r_append (K := K3) (ys := [v45]) AP29 rfl rfl rfl rfl H48.u1 (((H48.u1).g1).src) (fit_le hf50 (by decide)) ?_
      intro A51 c52 wd53 H54
      refine r_pure (.slice A51 ((xs18 ++ [v45]).length) c52) rfl ?_
      refine r_seq ?_
      refine st_region ?_
      refine r_pure (.int .i64 v13) rfl ?_
      refine r_pure (.int .i64 v45) rfl ?_
      refine r_pure (.int .i64 (w64 (v13 - v45))) rfl ?_
      refine r_pure (.int .i64 (w64 (v13 - v45))) rfl ?_
      refine r_nil ?_
      refine n_bl ?_
      refine n_sq ?_
      refine st_region ?_
      refine r_pure (.int .i64 (w64 (i23 + 1))) rfl ?_
      refine r_pure (.int .i64 (w64 (i23 + 1))) rfl ?_
      refine r_nil ?_
      refine n_round (IH31 _ _ rfl _ _ _ ⟨i23 + 1, w64 (v13 - v45), xs18 ++ [v45], dn24 ++ [y28], A51, (xs18 ++ [v45]).length, c52, rfl, range_more hxs25, range_len hi26, upk (ac rfl (ac rfl (ac rfl (ac rfl (ac rfl (ac hnx37 an)))))), H54.u1.d⟩ hm)

set_option maxHeartbeats 2000000 in
theorem scutageref09_total_ok {w0 w : World} {Γ : List (World → Prop)} (l_ : List Int) (A1 : Option Addr) (n6 c2 : Nat) (hn5 : n6 = l_.length) (hc3 : l_.length ≤ c2) (hv4 : ∀ u, Hp w0 Γ u → SlR K3 A1 l_ u) (r0_ : Int) (H : Hp w0 (Γ) w) (hm : scutageref09_total l_ = some r0_) : Calls Try.prog 77 #[.slice A1 n6 c2] w (fun e w => e = .returned (.int .i64 r0_) ∧ Hp w0 (Γ) w) := by
  subst hn5
  unfold scutageref09_total at hm
  refine st_enter Try.func77 rfl Try.ntmps77 (Nat.le_of_ble_eq_true rfl) ?_
  refine st_seq ?_
  refine st_region ?_
  refine r_pure (.int .i64 0) rfl ?_
  refine r_seq ?_
  refine st_seq ?_
  refine st_region ?_
  refine r_pure (.int .i64 0) rfl ?_
  refine r_seq ?_
  refine st_seq ?_
  refine st_seq ?_
  refine st_region ?_
  refine r_pure (.slice A1 l_.length c2) rfl ?_
  refine r_len Try.underlying29 rfl ?_
  refine r_pure (.int .i64 0) rfl ?_
  refine r_seq ?_
  refine st_block ?_
  have hlim28 := (hv4 _ H).lim
  obtain ⟨tl11, hl12, hm10⟩ := bind_some hm
  refine st_loopL (scutageref09_total.l1) (fun ys17 s ρ w => ∃ i13 : Int, ∃ v8 : Int, ∃ dn14 : List Int, (i13, v8) = s ∧ l_ = dn14 ++ ys17 ∧ i13 = (dn14.length : Int) ∧ (∃ base, ρ = updl base [(3, .int .i64 v8), (6, .slice A1 l_.length c2), (7, .int .i64 (l_.length : Int)), (8, .int .i64 i13)]) ∧ Hp w0 (Γ) w) hl12 ⟨0, 0, [], rfl, rfl, rfl, upk (ac rfl (ac rfl (ac rfl (ac rfl an)))), H⟩ ?_
  rintro m ys17 IH21 s ρ w ⟨i13, v8, dn14, rfl, hxs15, hi16, ⟨base, rfl⟩, H9⟩ hm
  rcases ys17 with _ | ⟨y18, ys17⟩
  · rw [scutageref09_total.l1] at hm
    have hb22 := range_end hxs15 hi16
    refine st_seq ?_
    refine st_region ?_
    refine r_pure (.bool (decide (i13 < (l_.length : Int)))) rfl ?_
    refine r_seq ?_
    refine st_seq ?_
    refine st_condf hb22 rfl ?_
    have hq_ := Option.some.inj hm
    refine st_exit rfl ?_
    subst hq_
    refine n_sq ?_
    refine st_seq ?_
    refine st_region ?_
    refine r_pure (.int .i64 v8) rfl ?_
    refine r_pure (.int .i64 v8) rfl ?_
    refine r_seq ?_
    have hq_ := Option.some.inj hm10
    subst hq_
    refine st_ret1 rfl rfl (Nat.le_of_ble_eq_true rfl) rfl ?_
    exact ⟨rfl, H9⟩
  · rw [scutageref09_total.l1] at hm
    have hb23 := range_in hxs15 hi16
    obtain ⟨h024, h125, hj26⟩ := range_ix hxs15 hi16
    have hnx27 := range_next hxs15 hi16 hlim28
    refine st_seq ?_
    refine st_region ?_
    refine r_pure (.bool (decide (i13 < (l_.length : Int)))) rfl ?_
    refine r_seq ?_
    refine st_seq ?_
    refine st_condt hb23 rfl ?_
    refine st_skip ?_
    refine n_sq ?_
    refine st_seq ?_
    refine st_block ?_
    refine st_seq ?_
    refine st_region ?_
    have hA29 := (hv4 _ H9).adO hj26
    refine r_ix IX29 rfl rfl hA29 h024 h125 ?_
    refine r_ld1 (.int .i64 y18) LD3 rfl ((hv4 _ H9).c0A hA29 hj26 _ rfl) ?_
    refine r_pure (.int .i64 y18) rfl ?_
    refine r_seq ?_
    refine st_region ?_
    refine r_pure (.int .i64 v8) rfl ?_
    refine r_pure (.int .i64 y18) rfl ?_
    refine r_pure (.int .i64 (w64 (v8 + y18))) rfl ?_
    refine r_pure (.int .i64 (w64 (v8 + y18))) rfl ?_
    refine r_nil ?_
    refine n_bl ?_
    refine n_sq ?_
    refine st_region ?_
    refine r_pure (.int .i64 (w64 (i13 + 1))) rfl ?_
    refine r_pure (.int .i64 (w64 (i13 + 1))) rfl ?_
    refine r_nil ?_
    refine n_round (IH21 _ _ rfl _ _ _ ⟨i13 + 1, w64 (v8 + y18), dn14 ++ [y18], rfl, range_more hxs15, range_len hi16, upk (ac rfl (ac rfl (ac rfl (ac hnx27 an)))), H9⟩ hm)

set_option maxHeartbeats 2000000 in
theorem scutageref09_Losses_Take_ok {w0 w : World} {Γ : List (World → Prop)} (b1 : Nat) (l_ : scutageref09_Losses) (A2 : Option Addr) (c3 : Nat) (used : List Int) (A4 : Option Addr) (n9 c5 : Nat) (hn8 : n9 = used.length) (hc6 : used.length ≤ c5) (hv7 : ∀ u, Hp w0 Γ u → SlR K3 A4 used u) (r0_ : Int) (r1_ : scutageref09_Losses) (H : Hp w0 (Bx b1 28 [.slice A2 l_.V.length c3] :: Row K38 (.slice A2 l_.V.length c3) l_.V :: Γ) w) (hm : scutageref09_Losses_Take l_ used = some (r0_, r1_)) : Calls Try.prog 19 #[.pointer (some ⟨b1, 0, none⟩), .slice A4 n9 c5] w (fun e w => ∃ (Ax1 : Option Addr) (nx2 cx3 : Nat), e = .returned (.int .i64 r0_) ∧ Hp w0 (Bx b1 28 [.slice Ax1 nx2 cx3] :: Row K38 (.slice Ax1 nx2 cx3) r1_.V :: Γ) w) := by
  subst hn8
  unfold scutageref09_Losses_Take at hm
  refine st_enter Try.func19 rfl Try.ntmps19 (Nat.le_of_ble_eq_true rfl) ?_
  refine st_seq ?_
  refine st_region ?_
  refine r_pure (.int .i64 0) rfl ?_
  refine r_seq ?_
  refine st_seq ?_
  refine st_seq ?_
  refine st_region ?_
  refine r_pure (.slice A4 used.length c5) rfl ?_
  refine r_len Try.underlying29 rfl ?_
  refine r_pure (.pointer (some ⟨b1, 0, none⟩)) rfl ?_
  refine r_pure (.pointer (some ⟨b1, 0, none⟩)) rfl ?_
  refine r_fa FA28_0 ⟨b1, 0, none⟩ rfl rfl ?_
  refine r_ld1 (.slice A2 l_.V.length c3) LD26 rfl ((H.g0).cell _ rfl) ?_
  refine r_len Try.underlying26 rfl ?_
  refine r_pure (.bool ((used.length : Int) != (l_.V.length : Int))) rfl ?_
  refine r_seq ?_
  rcases ite_some hm with ⟨hb10, hm⟩ | ⟨hb10, hm⟩
  · refine st_condt hb10 rfl ?_
    refine st_seq ?_
    refine st_region ?_
    refine r_pure (.int .i64 1) rfl ?_
    refine r_seq ?_
    obtain ⟨rfl, rfl⟩ := some_inj2 hm
    refine st_ret1 rfl rfl (Nat.le_of_ble_eq_true rfl) rfl ?_
    exact ⟨A2, l_.V.length, c3, rfl, H.u1.u1⟩
  · refine st_condf hb10 rfl ?_
    refine st_skip ?_
    refine n_sq ?_
    refine st_seq ?_
    refine st_region ?_
    refine r_pure (.slice none 0 0) rfl ?_
    refine r_seq ?_
    refine st_seq ?_
    refine st_seq ?_
    refine st_region ?_
    refine r_pure (.pointer (some ⟨b1, 0, none⟩)) rfl ?_
    refine r_pure (.pointer (some ⟨b1, 0, none⟩)) rfl ?_
    refine r_fa FA28_0 ⟨b1, 0, none⟩ rfl rfl ?_
    refine r_ld1 (.slice A2 l_.V.length c3) LD26 rfl ((H.g0).cell _ rfl) ?_
    refine r_len Try.underlying26 rfl ?_
    refine r_pure (.int .i64 0) rfl ?_
    refine r_seq ?_
    refine st_block ?_
    have H16 := H.add (A := Row K38 (.slice none 0 0) []) Row.nil
    have hlim40 := (H16.g2.rd).lim
    obtain ⟨tl23, hl24, hm22⟩ := bind_some hm
    refine st_loopL (scutageref09_Losses_Take.l1 used l_) (fun ys29 s ρ w => ∃ i25 : Int, ∃ xs20 : List api_Vintage, ∃ dn26 : List api_Vintage, ∃ A17 : Option Addr, ∃ n18 : Nat, ∃ c19 : Nat, (i25, xs20) = s ∧ l_.V = dn26 ++ ys29 ∧ i25 = (dn26.length : Int) ∧ (∃ base, ρ = updl base [(0, .pointer (some ⟨b1, 0, none⟩)), (1, .slice A4 used.length c5), (5, .slice A17 n18 c19), (19, .slice A2 l_.V.length c3), (20, .int .i64 (l_.V.length : Int)), (21, .int .i64 i25)]) ∧ Hp w0 (Row K38 (.slice A2 l_.V.length c3) l_.V :: Bx b1 28 [.slice A2 l_.V.length c3] :: Row K38 (.slice A17 n18 c19) xs20 :: Γ) w) hl24 ⟨0, ([] : List api_Vintage), [], none, 0, 0, rfl, rfl, rfl, upk (ac rfl (ac rfl (ac rfl (ac rfl (ac rfl (ac rfl an)))))), H16.u1.u2⟩ ?_
    rintro m ys29 IH33 s ρ w ⟨i25, xs20, dn26, A17, n18, c19, rfl, hxs27, hi28, ⟨base, rfl⟩, H21⟩ hm
    obtain rfl := (H21.g2).leneq
    rcases ys29 with _ | ⟨y30, ys29⟩
    · rw [scutageref09_Losses_Take.l1] at hm
      have hb34 := range_end hxs27 hi28
      refine st_seq ?_
      refine st_region ?_
      refine r_pure (.bool (decide (i25 < (l_.V.length : Int)))) rfl ?_
      refine r_seq ?_
      refine st_seq ?_
      refine st_condf hb34 rfl ?_
      have hq_ := Option.some.inj hm
      refine st_exit rfl ?_
      subst hq_
      refine n_sq ?_
      refine st_seq ?_
      refine st_region ?_
      refine r_pure (.pointer (some ⟨b1, 0, none⟩)) rfl ?_
      refine r_pure (.slice A17 xs20.length c19) rfl ?_
      refine r_pure (.pointer (some ⟨b1, 0, none⟩)) rfl ?_
      refine r_fa FA28_0 ⟨b1, 0, none⟩ rfl rfl ?_
      refine r_st1 LD26 rfl rfl rfl H21.u1 rfl ?_
      intro wd42 H41
      refine r_seq ?_
      refine st_seq ?_
      refine st_region ?_
      refine r_pure (.int .i64 0) rfl ?_
      refine r_seq ?_
      obtain ⟨rfl, rfl⟩ := some_inj2 hm22
      refine st_ret1 rfl rfl (Nat.le_of_ble_eq_true rfl) rfl ?_
      exact ⟨A17, xs20.length, c19, rfl, H41.u1.d.u1.u1⟩
    · rw [scutageref09_Losses_Take.l1] at hm
      have hb35 := range_in hxs27 hi28
      obtain ⟨h036, h137, hj38⟩ := range_ix hxs27 hi28
      have hnx39 := range_next hxs27 hi28 hlim40
      refine st_seq ?_
      refine st_region ?_
      refine r_pure (.bool (decide (i25 < (l_.V.length : Int)))) rfl ?_
      refine r_seq ?_
      refine st_seq ?_
      refine st_condt hb35 rfl ?_
      refine st_skip ?_
      refine n_sq ?_
      refine st_cut (fun ρ w => ∃ A43 : Option Addr, ∃ n44 : Nat, ∃ c45 : Nat, ∃ xs46 : List api_Vintage, (∃ base, ρ = updl base [(0, .pointer (some ⟨b1, 0, none⟩)), (1, .slice A4 used.length c5), (5, .slice A43 n44 c45), (19, .slice A2 l_.V.length c3), (20, .int .i64 (l_.V.length : Int)), (21, .int .i64 i25)]) ∧ Hp w0 (Row K38 (.slice A2 l_.V.length c3) l_.V :: Bx b1 28 [.slice A2 l_.V.length c3] :: Row K38 (.slice A43 n44 c45) xs46 :: Γ) w ∧ scutageref09_Losses_Take.j1 (scutageref09_Losses_Take.l1 used l_ ys29) i25 xs46 = some tl23) ?_ ?_
      · refine st_block ?_
        refine st_seq ?_
        refine st_region ?_
        refine r_pure (.int .i64 i25) rfl ?_
        have hA48 := (H21.g0.rd).adO hj38
        refine r_ix IX26 rfl rfl hA48 h036 h137 ?_
        refine r_ldA [.int .i64 y30.Origin, .int .i64 y30.Expiry, .int .i64 y30.Left] LD38 rfl rfl ((H21.g0.rd).csA hA48 hj38) ?_
        refine r_alloc [.int .i64 0, .int .i64 0, .int .i64 0] Try.zeroValue38 H21 rfl ?_
        intro b49 wd51 H50
        refine r_pure (.int .i64 i25) rfl ?_
        refine r_stA [.int .i64 y30.Origin, .int .i64 y30.Expiry, .int .i64 y30.Left] LD38 rfl rfl rfl rfl H50 (Nat.le_of_ble_eq_true rfl) rfl ?_
        intro wd53 H52
        refine r_seq ?_
        refine st_seq ?_
        refine st_cut (fun ρ w => ∃ q54 : Bool, (∃ base, ρ = updl base [(0, .pointer (some ⟨b1, 0, none⟩)), (1, .slice A4 used.length c5), (5, .slice A17 xs20.length c19), (6, .int .i64 i25), (7, .pointer (some ⟨b49, 0, none⟩)), (19, .slice A2 l_.V.length c3), (20, .int .i64 (l_.V.length : Int)), (21, .int .i64 i25), (39, .bool q54)]) ∧ Hp w0 (Row K38 (.slice A2 l_.V.length c3) l_.V :: Bx b1 28 [.slice A2 l_.V.length c3] :: Row K38 (.slice A17 xs20.length c19) xs20 :: Bx b49 38 [.int .i64 y30.Origin, .int .i64 y30.Expiry, .int .i64 y30.Left] :: Γ) w ∧ scutageref09_Losses_Take.j2 l_ i25 used y30 xs20 (scutageref09_Losses_Take.l1 used l_ ys29) q54 = some tl23) ?_ ?_
        · obtain ⟨⟨h0130, h1131⟩, hm⟩ := gd_some hm
          have hj132 := rd_get h0130 h1131
          rcases ite_some hm with ⟨hb134, hm⟩ | ⟨hb134, hm⟩
          · refine Flow.run' [[], [], [0, 1], [0, 1, 2], [0, 1, 2, 3], [0, 1, 2, 3, 4], [0, 1, 2, 3, 4, 5], [0, 1, 2, 3, 4, 5], [0, 1, 2, 3, 4, 5, 6, 7], [0, 1, 2, 3, 4, 5, 6, 7, 8], [0, 1, 2, 3, 4, 5], [0, 1, 2, 3, 4, 5, 10], [0, 1, 2, 3, 4, 5, 6, 7, 8, 9, 10, 11], [0, 1, 2, 3, 4, 5, 6, 7, 8, 9, 10, 11, 12]] [(26, 0), (27, 1), (28, 2), (29, 3), (30, 4), (31, 5), (32, 6), (33, 7), (34, 8), (35, 9), (36, 10), (37, 11), (38, 12), (39, 13)] [(fun η129 v => v.1 = .slice A4 used.length c5), (fun η129 v => v.1 = .int .i64 i25), (fun η129 v => v.1 = .pointer (some ((oA A4).add (Int.toNat i25 * 1)))), (fun η129 v => v.1 = .int .i64 (rd used i25)), (fun η129 v => v.1 = .bool (decide ((rd used i25) < 0))), (fun η129 v => v.1 = .bool (decide ((rd used i25) < 0))), (fun η129 v => v.1 = undef), (fun η129 v => v.1 = undef), (fun η129 v => v.1 = undef), (fun η129 v => v.1 = undef), (fun η129 v => v.1 = undef), (fun η129 v => v.1 = undef), (fun η129 v => v.1 = undef), (fun η129 v => v.1 = .bool true)] [] rfl (by kernel_rfl) (by kernel_rfl) H52 ⟨?_, ?_, ?_, ?_, ?_, ?_, ?_, ?_, ?_, ?_, ?_, ?_, ?_, ?_, trivial⟩ ?_
            · intro η129 wd138 Δ139 hE135 hR136 H137
              have H137 : Hp w0 ((Δ139 ++ (Bx b49 38 [.int .i64 y30.Origin, .int .i64 y30.Expiry, .int .i64 y30.Left] :: Row K38 (.slice A2 l_.V.length c3) l_.V :: Bx b1 28 [.slice A2 l_.V.length c3] :: Row K38 (.slice A17 xs20.length c19) xs20 :: Γ))) wd138 := H137
              refine sp_op [(1, .slice A4 used.length c5)] (ac rfl an) ?_
              refine r_pure (.slice A4 used.length c5) rfl ?_
              exact r_nil (n_lp ⟨_, rfl, undef, rfl, H137⟩)
            · intro η129 wd143 Δ144 hE140 hR141 H142
              have H142 : Hp w0 ((Δ144 ++ (Bx b49 38 [.int .i64 y30.Origin, .int .i64 y30.Expiry, .int .i64 y30.Left] :: Row K38 (.slice A2 l_.V.length c3) l_.V :: Bx b1 28 [.slice A2 l_.V.length c3] :: Row K38 (.slice A17 xs20.length c19) xs20 :: Γ))) wd143 := H142
              refine sp_op [(6, .int .i64 i25)] (ac rfl an) ?_
              refine r_pure (.int .i64 i25) rfl ?_
              exact r_nil (n_lp ⟨_, rfl, undef, rfl, H142⟩)
            · intro η129 wd148 Δ149 hE145 hR146 H147
              have H147 : Hp w0 ((Δ149 ++ (Bx b49 38 [.int .i64 y30.Origin, .int .i64 y30.Expiry, .int .i64 y30.Left] :: Row K38 (.slice A2 l_.V.length c3) l_.V :: Bx b1 28 [.slice A2 l_.V.length c3] :: Row K38 (.slice A17 xs20.length c19) xs20 :: Γ))) wd148 := H147
              refine sp_op [(26, .slice A4 used.length c5), (27, .int .i64 i25)] (ac (hE145 0 (by decide)) (ac (hE145 1 (by decide)) an)) ?_
              have hA153 := (hv7 _ (H147).tl.d.d.d.d).adO hj132
              refine r_ix IX29 rfl rfl hA153 h0130 h1131 ?_
              exact r_nil (n_lp ⟨_, rfl, undef, rfl, H147⟩)
            · intro η129 wd157 Δ158 hE154 hR155 H156
              have H156 : Hp w0 ((Δ158 ++ (Bx b49 38 [.int .i64 y30.Origin, .int .i64 y30.Expiry, .int .i64 y30.Left] :: Row K38 (.slice A2 l_.V.length c3) l_.V :: Bx b1 28 [.slice A2 l_.V.length c3] :: Row K38 (.slice A17 xs20.length c19) xs20 :: Γ))) wd157 := H156
              refine sp_op [(28, .pointer (some ((oA A4).add (Int.toNat i25 * 1))))] (ac (hE154 2 (by decide)) an) ?_
              have hA159 := (hv7 _ (H156).tl.d.d.d.d).adO hj132
              refine r_ld1 (.int .i64 (rd used i25)) LD3 rfl ((hv7 _ (H156).tl.d.d.d.d).c0A hA159 hj132 _ rfl) ?_
              exact r_nil (n_lp ⟨_, rfl, undef, rfl, H156⟩)
            · intro η129 wd163 Δ164 hE160 hR161 H162
              have H162 : Hp w0 ((Δ164 ++ (Bx b49 38 [.int .i64 y30.Origin, .int .i64 y30.Expiry, .int .i64 y30.Left] :: Row K38 (.slice A2 l_.V.length c3) l_.V :: Bx b1 28 [.slice A2 l_.V.length c3] :: Row K38 (.slice A17 xs20.length c19) xs20 :: Γ))) wd163 := H162
              refine sp_op [(29, .int .i64 (rd used i25))] (ac (hE160 3 (by decide)) an) ?_
              refine r_pure (.bool (decide ((rd used i25) < 0))) rfl ?_
              exact r_nil (n_lp ⟨_, rfl, undef, rfl, H162⟩)
            · intro η129 wd168 Δ169 hE165 hR166 H167
              have H167 : Hp w0 ((Δ169 ++ (Bx b49 38 [.int .i64 y30.Origin, .int .i64 y30.Expiry, .int .i64 y30.Left] :: Row K38 (.slice A2 l_.V.length c3) l_.V :: Bx b1 28 [.slice A2 l_.V.length c3] :: Row K38 (.slice A17 xs20.length c19) xs20 :: Γ))) wd168 := H167
              refine sp_op [(30, .bool (decide ((rd used i25) < 0)))] (ac (hE165 4 (by decide)) an) ?_
              refine r_pure (.bool (decide ((rd used i25) < 0))) rfl ?_
              exact r_nil (n_lp ⟨_, rfl, undef, rfl, H167⟩)
            · intro η129 wd173 Δ174 hE170 hR171 H172
              have H172 : Hp w0 ((Δ174 ++ (Bx b49 38 [.int .i64 y30.Origin, .int .i64 y30.Expiry, .int .i64 y30.Left] :: Row K38 (.slice A2 l_.V.length c3) l_.V :: Bx b1 28 [.slice A2 l_.V.length c3] :: Row K38 (.slice A17 xs20.length c19) xs20 :: Γ))) wd173 := H172
              refine sp_op [(1, .slice A4 used.length c5), (31, .bool (decide ((rd used i25) < 0)))] (ac rfl (ac (hE170 5 (by decide)) an)) ?_
              refine r_not (wn_f rfl rfl (by decide) rfl hb134) ?_
              exact r_nil (n_lp ⟨_, rfl, undef, rfl, H172⟩)
            · intro η129 wd178 Δ179 hE175 hR176 H177
              have H177 : Hp w0 ((Δ179 ++ (Bx b49 38 [.int .i64 y30.Origin, .int .i64 y30.Expiry, .int .i64 y30.Left] :: Row K38 (.slice A2 l_.V.length c3) l_.V :: Bx b1 28 [.slice A2 l_.V.length c3] :: Row K38 (.slice A17 xs20.length c19) xs20 :: Γ))) wd178 := H177
              refine sp_op [(6, .int .i64 i25), (31, .bool (decide ((rd used i25) < 0)))] (ac rfl (ac (hE175 5 (by decide)) an)) ?_
              refine r_not (wn_f rfl rfl (by decide) rfl hb134) ?_
              exact r_nil (n_lp ⟨_, rfl, undef, rfl, H177⟩)
            · intro η129 wd183 Δ184 hE180 hR181 H182
              have H182 : Hp w0 ((Δ184 ++ (Bx b49 38 [.int .i64 y30.Origin, .int .i64 y30.Expiry, .int .i64 y30.Left] :: Row K38 (.slice A2 l_.V.length c3) l_.V :: Bx b1 28 [.slice A2 l_.V.length c3] :: Row K38 (.slice A17 xs20.length c19) xs20 :: Γ))) wd183 := H182
              refine sp_op [(31, .bool (decide ((rd used i25) < 0))), (32, undef), (33, undef)] (ac (hE180 5 (by decide)) (ac (hE180 6 (by decide)) (ac (hE180 7 (by decide)) an))) ?_
              refine r_not (wn_f rfl rfl (by decide) rfl hb134) ?_
              exact r_nil (n_lp ⟨_, rfl, undef, rfl, H182⟩)
            · intro η129 wd188 Δ189 hE185 hR186 H187
              have H187 : Hp w0 ((Δ189 ++ (Bx b49 38 [.int .i64 y30.Origin, .int .i64 y30.Expiry, .int .i64 y30.Left] :: Row K38 (.slice A2 l_.V.length c3) l_.V :: Bx b1 28 [.slice A2 l_.V.length c3] :: Row K38 (.slice A17 xs20.length c19) xs20 :: Γ))) wd188 := H187
              refine sp_op [(31, .bool (decide ((rd used i25) < 0))), (34, undef)] (ac (hE185 5 (by decide)) (ac (hE185 8 (by decide)) an)) ?_
              refine r_not (wn_f rfl rfl (by decide) rfl hb134) ?_
              exact r_nil (n_lp ⟨_, rfl, undef, rfl, H187⟩)
            · intro η129 wd193 Δ194 hE190 hR191 H192
              have H192 : Hp w0 ((Δ194 ++ (Bx b49 38 [.int .i64 y30.Origin, .int .i64 y30.Expiry, .int .i64 y30.Left] :: Row K38 (.slice A2 l_.V.length c3) l_.V :: Bx b1 28 [.slice A2 l_.V.length c3] :: Row K38 (.slice A17 xs20.length c19) xs20 :: Γ))) wd193 := H192
              refine sp_op [(7, .pointer (some ⟨b49, 0, none⟩)), (31, .bool (decide ((rd used i25) < 0)))] (ac rfl (ac (hE190 5 (by decide)) an)) ?_
              refine r_not (wn_f rfl rfl (by decide) rfl hb134) ?_
              exact r_nil (n_lp ⟨_, rfl, undef, rfl, H192⟩)
            · intro η129 wd198 Δ199 hE195 hR196 H197
              have H197 : Hp w0 ((Δ199 ++ (Bx b49 38 [.int .i64 y30.Origin, .int .i64 y30.Expiry, .int .i64 y30.Left] :: Row K38 (.slice A2 l_.V.length c3) l_.V :: Bx b1 28 [.slice A2 l_.V.length c3] :: Row K38 (.slice A17 xs20.length c19) xs20 :: Γ))) wd198 := H197
              refine sp_op [(31, .bool (decide ((rd used i25) < 0))), (36, undef)] (ac (hE195 5 (by decide)) (ac (hE195 10 (by decide)) an)) ?_
              refine r_not (wn_f rfl rfl (by decide) rfl hb134) ?_
              exact r_nil (n_lp ⟨_, rfl, undef, rfl, H197⟩)
            · intro η129 wd203 Δ204 hE200 hR201 H202
              have H202 : Hp w0 ((Δ204 ++ (Bx b49 38 [.int .i64 y30.Origin, .int .i64 y30.Expiry, .int .i64 y30.Left] :: Row K38 (.slice A2 l_.V.length c3) l_.V :: Bx b1 28 [.slice A2 l_.V.length c3] :: Row K38 (.slice A17 xs20.length c19) xs20 :: Γ))) wd203 := H202
              refine sp_op [(31, .bool (decide ((rd used i25) < 0))), (35, undef), (37, undef)] (ac (hE200 5 (by decide)) (ac (hE200 9 (by decide)) (ac (hE200 11 (by decide)) an))) ?_
              refine r_not (wn_f rfl rfl (by decide) rfl hb134) ?_
              exact r_nil (n_lp ⟨_, rfl, undef, rfl, H202⟩)
            · intro η129 wd208 Δ209 hE205 hR206 H207
              have H207 : Hp w0 ((Δ209 ++ (Bx b49 38 [.int .i64 y30.Origin, .int .i64 y30.Expiry, .int .i64 y30.Left] :: Row K38 (.slice A2 l_.V.length c3) l_.V :: Bx b1 28 [.slice A2 l_.V.length c3] :: Row K38 (.slice A17 xs20.length c19) xs20 :: Γ))) wd208 := H207
              refine sp_op [(31, .bool (decide ((rd used i25) < 0))), (38, undef)] (ac (hE205 5 (by decide)) (ac (hE205 12 (by decide)) an)) ?_
              refine r_pick_t (.bool true) hb134 rfl rfl ?_
              exact r_nil (n_lp ⟨_, rfl, undef, rfl, H207⟩)
            · intro η129 wd211 hV212 H210
              have H213 : Hp w0 (Bx b49 38 [.int .i64 y30.Origin, .int .i64 y30.Expiry, .int .i64 y30.Left] :: Row K38 (.slice A2 l_.V.length c3) l_.V :: Bx b1 28 [.slice A2 l_.V.length c3] :: Row K38 (.slice A17 xs20.length c19) xs20 :: Γ) wd211 := H210
              refine n_frame [(0, .pointer (some ⟨b1, 0, none⟩)), (1, .slice A4 used.length c5), (5, .slice A17 xs20.length c19), (6, .int .i64 i25), (7, .pointer (some ⟨b49, 0, none⟩)), (19, .slice A2 l_.V.length c3), (20, .int .i64 (l_.V.length : Int)), (21, .int .i64 i25), (32, undef), (33, undef), (34, undef), (35, undef), (36, undef), (37, undef), (38, undef), (39, .bool true)] (ac rfl (ac rfl (ac rfl (ac rfl (ac rfl (ac rfl (ac rfl (ac rfl (ac (hV212 6 rfl) (ac (hV212 7 rfl) (ac (hV212 8 rfl) (ac (hV212 9 rfl) (ac (hV212 10 rfl) (ac (hV212 11 rfl) (ac (hV212 12 rfl) (ac (hV212 13 rfl) an)))))))))))))))) ?_
              refine n_cut ⟨true, upk (ac rfl (ac rfl (ac rfl (ac rfl (ac rfl (ac rfl (ac rfl (ac rfl (ac rfl an))))))))), H213.u3.u3.u3, hm⟩
          · refine Flow.run' [[], [], [0, 1], [0, 1, 2], [0, 1, 2, 3], [0, 1, 2, 3, 4], [0, 1, 2, 3, 4, 5], [0, 1, 2, 3, 4, 5], [0, 1, 2, 3, 4, 5, 6, 7], [0, 1, 2, 3, 4, 5, 6, 7, 8], [0, 1, 2, 3, 4, 5], [0, 1, 2, 3, 4, 5, 10], [0, 1, 2, 3, 4, 5, 6, 7, 8, 9, 10, 11], [0, 1, 2, 3, 4, 5, 6, 7, 8, 9, 10, 11, 12]] [(26, 0), (27, 1), (28, 2), (29, 3), (30, 4), (31, 5), (32, 6), (33, 7), (34, 8), (35, 9), (36, 10), (37, 11), (38, 12), (39, 13)] [(fun η129 v => v.1 = .slice A4 used.length c5), (fun η129 v => v.1 = .int .i64 i25), (fun η129 v => v.1 = .pointer (some ((oA A4).add (Int.toNat i25 * 1)))), (fun η129 v => v.1 = .int .i64 (rd used i25)), (fun η129 v => v.1 = .bool (decide ((rd used i25) < 0))), (fun η129 v => v.1 = .bool (decide ((rd used i25) < 0))), (fun η129 v => v.1 = .slice A4 used.length c5), (fun η129 v => v.1 = .int .i64 i25), (fun η129 v => v.1 = .pointer (some ((oA A4).add (Int.toNat i25 * 1)))), (fun η129 v => v.1 = .int .i64 (rd used i25)), (fun η129 v => v.1 = .pointer (some ⟨b49, 2, none⟩)), (fun η129 v => v.1 = .int .i64 y30.Left), (fun η129 v => v.1 = .bool (decide ((rd used i25) > y30.Left))), (fun η129 v => v.1 = .bool (decide ((rd used i25) > y30.Left)))] [] rfl (by kernel_rfl) (by kernel_rfl) H52 ⟨?_, ?_, ?_, ?_, ?_, ?_, ?_, ?_, ?_, ?_, ?_, ?_, ?_, ?_, trivial⟩ ?_
            · intro η129 wd217 Δ218 hE214 hR215 H216
              have H216 : Hp w0 ((Δ218 ++ (Bx b49 38 [.int .i64 y30.Origin, .int .i64 y30.Expiry, .int .i64 y30.Left] :: Row K38 (.slice A2 l_.V.length c3) l_.V :: Bx b1 28 [.slice A2 l_.V.length c3] :: Row K38 (.slice A17 xs20.length c19) xs20 :: Γ))) wd217 := H216
              refine sp_op [(1, .slice A4 used.length c5)] (ac rfl an) ?_
              refine r_pure (.slice A4 used.length c5) rfl ?_
              exact r_nil (n_lp ⟨_, rfl, undef, rfl, H216⟩)
            · intro η129 wd222 Δ223 hE219 hR220 H221
              have H221 : Hp w0 ((Δ223 ++ (Bx b49 38 [.int .i64 y30.Origin, .int .i64 y30.Expiry, .int .i64 y30.Left] :: Row K38 (.slice A2 l_.V.length c3) l_.V :: Bx b1 28 [.slice A2 l_.V.length c3] :: Row K38 (.slice A17 xs20.length c19) xs20 :: Γ))) wd222 := H221
              refine sp_op [(6, .int .i64 i25)] (ac rfl an) ?_
              refine r_pure (.int .i64 i25) rfl ?_
              exact r_nil (n_lp ⟨_, rfl, undef, rfl, H221⟩)
            · intro η129 wd227 Δ228 hE224 hR225 H226
              have H226 : Hp w0 ((Δ228 ++ (Bx b49 38 [.int .i64 y30.Origin, .int .i64 y30.Expiry, .int .i64 y30.Left] :: Row K38 (.slice A2 l_.V.length c3) l_.V :: Bx b1 28 [.slice A2 l_.V.length c3] :: Row K38 (.slice A17 xs20.length c19) xs20 :: Γ))) wd227 := H226
              refine sp_op [(26, .slice A4 used.length c5), (27, .int .i64 i25)] (ac (hE224 0 (by decide)) (ac (hE224 1 (by decide)) an)) ?_
              have hA232 := (hv7 _ (H226).tl.d.d.d.d).adO hj132
              refine r_ix IX29 rfl rfl hA232 h0130 h1131 ?_
              exact r_nil (n_lp ⟨_, rfl, undef, rfl, H226⟩)
            · intro η129 wd236 Δ237 hE233 hR234 H235
              have H235 : Hp w0 ((Δ237 ++ (Bx b49 38 [.int .i64 y30.Origin, .int .i64 y30.Expiry, .int .i64 y30.Left] :: Row K38 (.slice A2 l_.V.length c3) l_.V :: Bx b1 28 [.slice A2 l_.V.length c3] :: Row K38 (.slice A17 xs20.length c19) xs20 :: Γ))) wd236 := H235
              refine sp_op [(28, .pointer (some ((oA A4).add (Int.toNat i25 * 1))))] (ac (hE233 2 (by decide)) an) ?_
              have hA238 := (hv7 _ (H235).tl.d.d.d.d).adO hj132
              refine r_ld1 (.int .i64 (rd used i25)) LD3 rfl ((hv7 _ (H235).tl.d.d.d.d).c0A hA238 hj132 _ rfl) ?_
              exact r_nil (n_lp ⟨_, rfl, undef, rfl, H235⟩)
            · intro η129 wd242 Δ243 hE239 hR240 H241
              have H241 : Hp w0 ((Δ243 ++ (Bx b49 38 [.int .i64 y30.Origin, .int .i64 y30.Expiry, .int .i64 y30.Left] :: Row K38 (.slice A2 l_.V.length c3) l_.V :: Bx b1 28 [.slice A2 l_.V.length c3] :: Row K38 (.slice A17 xs20.length c19) xs20 :: Γ))) wd242 := H241
              refine sp_op [(29, .int .i64 (rd used i25))] (ac (hE239 3 (by decide)) an) ?_
              refine r_pure (.bool (decide ((rd used i25) < 0))) rfl ?_
              exact r_nil (n_lp ⟨_, rfl, undef, rfl, H241⟩)
            · intro η129 wd247 Δ248 hE244 hR245 H246
              have H246 : Hp w0 ((Δ248 ++ (Bx b49 38 [.int .i64 y30.Origin, .int .i64 y30.Expiry, .int .i64 y30.Left] :: Row K38 (.slice A2 l_.V.length c3) l_.V :: Bx b1 28 [.slice A2 l_.V.length c3] :: Row K38 (.slice A17 xs20.length c19) xs20 :: Γ))) wd247 := H246
              refine sp_op [(30, .bool (decide ((rd used i25) < 0)))] (ac (hE244 4 (by decide)) an) ?_
              refine r_pure (.bool (decide ((rd used i25) < 0))) rfl ?_
              exact r_nil (n_lp ⟨_, rfl, undef, rfl, H246⟩)
            · intro η129 wd252 Δ253 hE249 hR250 H251
              have H251 : Hp w0 ((Δ253 ++ (Bx b49 38 [.int .i64 y30.Origin, .int .i64 y30.Expiry, .int .i64 y30.Left] :: Row K38 (.slice A2 l_.V.length c3) l_.V :: Bx b1 28 [.slice A2 l_.V.length c3] :: Row K38 (.slice A17 xs20.length c19) xs20 :: Γ))) wd252 := H251
              refine sp_op [(1, .slice A4 used.length c5), (31, .bool (decide ((rd used i25) < 0)))] (ac rfl (ac (hE249 5 (by decide)) an)) ?_
              refine r_pure (.slice A4 used.length c5) rfl ?_ (wn_t rfl rfl (by decide) rfl hb134)
              exact r_nil (n_lp ⟨_, rfl, undef, rfl, H251⟩)
            · intro η129 wd257 Δ258 hE254 hR255 H256
              have H256 : Hp w0 ((Δ258 ++ (Bx b49 38 [.int .i64 y30.Origin, .int .i64 y30.Expiry, .int .i64 y30.Left] :: Row K38 (.slice A2 l_.V.length c3) l_.V :: Bx b1 28 [.slice A2 l_.V.length c3] :: Row K38 (.slice A17 xs20.length c19) xs20 :: Γ))) wd257 := H256
              refine sp_op [(6, .int .i64 i25), (31, .bool (decide ((rd used i25) < 0)))] (ac rfl (ac (hE254 5 (by decide)) an)) ?_
              refine r_pure (.int .i64 i25) rfl ?_ (wn_t rfl rfl (by decide) rfl hb134)
              exact r_nil (n_lp ⟨_, rfl, undef, rfl, H256⟩)
            · intro η129 wd262 Δ263 hE259 hR260 H261
              have H261 : Hp w0 ((Δ263 ++ (Bx b49 38 [.int .i64 y30.Origin, .int .i64 y30.Expiry, .int .i64 y30.Left] :: Row K38 (.slice A2 l_.V.length c3) l_.V :: Bx b1 28 [.slice A2 l_.V.length c3] :: Row K38 (.slice A17 xs20.length c19) xs20 :: Γ))) wd262 := H261
              refine sp_op [(31, .bool (decide ((rd used i25) < 0))), (32, .slice A4 used.length c5), (33, .int .i64 i25)] (ac (hE259 5 (by decide)) (ac (hE259 6 (by decide)) (ac (hE259 7 (by decide)) an))) ?_
              have hA264 := (hv7 _ (H261).tl.d.d.d.d).adO hj132
              refine r_ix IX29 rfl rfl hA264 h0130 h1131 ?_ (wn_t rfl rfl (by decide) rfl hb134)
              exact r_nil (n_lp ⟨_, rfl, undef, rfl, H261⟩)
            · intro η129 wd268 Δ269 hE265 hR266 H267
              have H267 : Hp w0 ((Δ269 ++ (Bx b49 38 [.int .i64 y30.Origin, .int .i64 y30.Expiry, .int .i64 y30.Left] :: Row K38 (.slice A2 l_.V.length c3) l_.V :: Bx b1 28 [.slice A2 l_.V.length c3] :: Row K38 (.slice A17 xs20.length c19) xs20 :: Γ))) wd268 := H267
              refine sp_op [(31, .bool (decide ((rd used i25) < 0))), (34, .pointer (some ((oA A4).add (Int.toNat i25 * 1))))] (ac (hE265 5 (by decide)) (ac (hE265 8 (by decide)) an)) ?_
              have hA270 := (hv7 _ (H267).tl.d.d.d.d).adO hj132
              refine r_ld1 (.int .i64 (rd used i25)) LD3 rfl ((hv7 _ (H267).tl.d.d.d.d).c0A hA270 hj132 _ rfl) ?_ (wn_t rfl rfl (by decide) rfl hb134)
              exact r_nil (n_lp ⟨_, rfl, undef, rfl, H267⟩)
            · intro η129 wd274 Δ275 hE271 hR272 H273
              have H273 : Hp w0 ((Δ275 ++ (Bx b49 38 [.int .i64 y30.Origin, .int .i64 y30.Expiry, .int .i64 y30.Left] :: Row K38 (.slice A2 l_.V.length c3) l_.V :: Bx b1 28 [.slice A2 l_.V.length c3] :: Row K38 (.slice A17 xs20.length c19) xs20 :: Γ))) wd274 := H273
              refine sp_op [(7, .pointer (some ⟨b49, 0, none⟩)), (31, .bool (decide ((rd used i25) < 0)))] (ac rfl (ac (hE271 5 (by decide)) an)) ?_
              refine r_fa FA38_2 ⟨b49, 2, none⟩ rfl rfl ?_ (wn_t rfl rfl (by decide) rfl hb134)
              exact r_nil (n_lp ⟨_, rfl, undef, rfl, H273⟩)
            · intro η129 wd279 Δ280 hE276 hR277 H278
              have H278 : Hp w0 ((Δ280 ++ (Bx b49 38 [.int .i64 y30.Origin, .int .i64 y30.Expiry, .int .i64 y30.Left] :: Row K38 (.slice A2 l_.V.length c3) l_.V :: Bx b1 28 [.slice A2 l_.V.length c3] :: Row K38 (.slice A17 xs20.length c19) xs20 :: Γ))) wd279 := H278
              refine sp_op [(31, .bool (decide ((rd used i25) < 0))), (36, .pointer (some ⟨b49, 2, none⟩))] (ac (hE276 5 (by decide)) (ac (hE276 10 (by decide)) an)) ?_
              refine r_ld1 (.int .i64 y30.Left) LD3 rfl (((H278).tl.g0).cell _ rfl) ?_ (wn_t rfl rfl (by decide) rfl hb134)
              exact r_nil (n_lp ⟨_, rfl, undef, rfl, H278⟩)
            · intro η129 wd284 Δ285 hE281 hR282 H283
              have H283 : Hp w0 ((Δ285 ++ (Bx b49 38 [.int .i64 y30.Origin, .int .i64 y30.Expiry, .int .i64 y30.Left] :: Row K38 (.slice A2 l_.V.length c3) l_.V :: Bx b1 28 [.slice A2 l_.V.length c3] :: Row K38 (.slice A17 xs20.length c19) xs20 :: Γ))) wd284 := H283
              refine sp_op [(31, .bool (decide ((rd used i25) < 0))), (35, .int .i64 (rd used i25)), (37, .int .i64 y30.Left)] (ac (hE281 5 (by decide)) (ac (hE281 9 (by decide)) (ac (hE281 11 (by decide)) an))) ?_
              refine r_pure (.bool (decide ((rd used i25) > y30.Left))) rfl ?_ (wn_t rfl rfl (by decide) rfl hb134)
              exact r_nil (n_lp ⟨_, rfl, undef, rfl, H283⟩)
            · intro η129 wd289 Δ290 hE286 hR287 H288
              have H288 : Hp w0 ((Δ290 ++ (Bx b49 38 [.int .i64 y30.Origin, .int .i64 y30.Expiry, .int .i64 y30.Left] :: Row K38 (.slice A2 l_.V.length c3) l_.V :: Bx b1 28 [.slice A2 l_.V.length c3] :: Row K38 (.slice A17 xs20.length c19) xs20 :: Γ))) wd289 := H288
              refine sp_op [(31, .bool (decide ((rd used i25) < 0))), (38, .bool (decide ((rd used i25) > y30.Left)))] (ac (hE286 5 (by decide)) (ac (hE286 12 (by decide)) an)) ?_
              refine r_pick_f (.bool (decide ((rd used i25) > y30.Left))) hb134 rfl rfl ?_
              exact r_nil (n_lp ⟨_, rfl, undef, rfl, H288⟩)
            · intro η129 wd292 hV293 H291
              have H294 : Hp w0 (Bx b49 38 [.int .i64 y30.Origin, .int .i64 y30.Expiry, .int .i64 y30.Left] :: Row K38 (.slice A2 l_.V.length c3) l_.V :: Bx b1 28 [.slice A2 l_.V.length c3] :: Row K38 (.slice A17 xs20.length c19) xs20 :: Γ) wd292 := H291
              refine n_frame [(0, .pointer (some ⟨b1, 0, none⟩)), (1, .slice A4 used.length c5), (5, .slice A17 xs20.length c19), (6, .int .i64 i25), (7, .pointer (some ⟨b49, 0, none⟩)), (19, .slice A2 l_.V.length c3), (20, .int .i64 (l_.V.length : Int)), (21, .int .i64 i25), (32, .slice A4 used.length c5), (33, .int .i64 i25), (34, .pointer (some ((oA A4).add (Int.toNat i25 * 1)))), (35, .int .i64 (rd used i25)), (36, .pointer (some ⟨b49, 2, none⟩)), (37, .int .i64 y30.Left), (38, .bool (decide ((rd used i25) > y30.Left))), (39, .bool (decide ((rd used i25) > y30.Left)))] (ac rfl (ac rfl (ac rfl (ac rfl (ac rfl (ac rfl (ac rfl (ac rfl (ac (hV293 6 rfl) (ac (hV293 7 rfl) (ac (hV293 8 rfl) (ac (hV293 9 rfl) (ac (hV293 10 rfl) (ac (hV293 11 rfl) (ac (hV293 12 rfl) (ac (hV293 13 rfl) an)))))))))))))))) ?_
              refine n_cut ⟨decide ((rd used i25) > y30.Left), upk (ac rfl (ac rfl (ac rfl (ac rfl (ac rfl (ac rfl (ac rfl (ac rfl (ac rfl an))))))))), H294.u3.u3.u3, hm⟩
        · rintro ρ w ⟨q54, ⟨base, rfl⟩, H55, hm⟩
          unfold scutageref09_Losses_Take.j2 at hm
          rcases ite_some hm with ⟨hb56, hm⟩ | ⟨hb56, hm⟩
          · refine st_condt hb56 rfl ?_
            refine st_seq ?_
            refine st_region ?_
            refine r_pure (.int .i64 1) rfl ?_
            refine r_seq ?_
            have hq_ := Option.some.inj hm
            subst hq_
            obtain ⟨rfl, rfl⟩ := some_inj2 (show some ((1, (⟨l_.V⟩ : scutageref09_Losses)) : (Int × scutageref09_Losses)) = some (r0_, r1_) from hm22)
            refine st_ret1 rfl rfl (Nat.le_of_ble_eq_true rfl) rfl ?_
            exact ⟨A2, l_.V.length, c3, rfl, H55.u2.d.u2.d.u1⟩
          · refine st_condf hb56 rfl ?_
            refine st_skip ?_
            refine n_sq ?_
            refine st_seq ?_
            obtain ⟨⟨h058, h159⟩, hm⟩ := gd_some hm
            have hj60 := rd_get h058 h159
            refine Flow.run' [[], [0], [], [], [2, 3], [2, 3, 4], [0, 1, 2, 3, 4, 5], [0, 1, 2, 3, 4, 5, 6], [0, 1, 2, 3, 4, 5, 6, 7]] [(40, 0), (41, 1), (42, 2), (43, 3), (44, 4), (45, 5), (46, 6), (47, 7)] [(fun η57 v => v.1 = .pointer (some ⟨b49, 2, none⟩)), (fun η57 v => v.1 = .int .i64 y30.Left), (fun η57 v => v.1 = .slice A4 used.length c5), (fun η57 v => v.1 = .int .i64 i25), (fun η57 v => v.1 = .pointer (some ((oA A4).add (Int.toNat i25 * 1)))), (fun η57 v => v.1 = .int .i64 (rd used i25)), (fun η57 v => v.1 = .int .i64 (w64 (y30.Left - (rd used i25)))), (fun η57 v => v.1 = .pointer (some ⟨b49, 2, none⟩)), (fun _ _ => True)] [⟨none, (some 8), fun η57 => Bx b49 38 [.int .i64 y30.Origin, .int .i64 y30.Expiry, .int .i64 y30.Left]⟩, ⟨(some 8), none, fun η57 => Bx b49 38 [.int .i64 y30.Origin, .int .i64 y30.Expiry, .int .i64 (w64 (y30.Left - (rd used i25)))]⟩] rfl (by kernel_rfl) (by kernel_rfl) H55.u3 ⟨?_, ?_, ?_, ?_, ?_, ?_, ?_, ?_, ?_, trivial⟩ ?_
            · intro η57 wd67 Δ68 hE64 hR65 H66
              have H66 : Hp w0 ((Δ68 ++ (Row K38 (.slice A2 l_.V.length c3) l_.V :: Bx b1 28 [.slice A2 l_.V.length c3] :: Row K38 (.slice A17 xs20.length c19) xs20 :: Γ))) wd67 := H66
              refine sp_op [(7, .pointer (some ⟨b49, 0, none⟩))] (ac rfl an) ?_
              refine r_fa FA38_2 ⟨b49, 2, none⟩ rfl rfl ?_
              exact r_nil (n_lp ⟨_, rfl, undef, rfl, H66⟩)
            · intro η57 wd72 Δ73 hE69 hR70 H71
              have H71 : Hp w0 ((Δ73 ++ (Row K38 (.slice A2 l_.V.length c3) l_.V :: Bx b1 28 [.slice A2 l_.V.length c3] :: Row K38 (.slice A17 xs20.length c19) xs20 :: Γ))) wd72 := H71
              refine sp_op [(40, .pointer (some ⟨b49, 2, none⟩))] (ac (hE69 0 (by decide)) an) ?_
              refine r_ld1 (.int .i64 y30.Left) LD3 rfl (((show (Bx b49 38 [.int .i64 y30.Origin, .int .i64 y30.Expiry, .int .i64 y30.Left]) _ from (H71).memr (hR70 _ (List.mem_of_getElem? (i := 0) rfl) rfl))).cell _ rfl) ?_
              exact r_nil (n_lp ⟨_, rfl, undef, rfl, H71⟩)
            · intro η57 wd77 Δ78 hE74 hR75 H76
              have H76 : Hp w0 ((Δ78 ++ (Row K38 (.slice A2 l_.V.length c3) l_.V :: Bx b1 28 [.slice A2 l_.V.length c3] :: Row K38 (.slice A17 xs20.length c19) xs20 :: Γ))) wd77 := H76
              refine sp_op [(1, .slice A4 used.length c5)] (ac rfl an) ?_
              refine r_pure (.slice A4 used.length c5) rfl ?_
              exact r_nil (n_lp ⟨_, rfl, undef, rfl, H76⟩)
            · intro η57 wd82 Δ83 hE79 hR80 H81
              have H81 : Hp w0 ((Δ83 ++ (Row K38 (.slice A2 l_.V.length c3) l_.V :: Bx b1 28 [.slice A2 l_.V.length c3] :: Row K38 (.slice A17 xs20.length c19) xs20 :: Γ))) wd82 := H81
              refine sp_op [(6, .int .i64 i25)] (ac rfl an) ?_
              refine r_pure (.int .i64 i25) rfl ?_
              exact r_nil (n_lp ⟨_, rfl, undef, rfl, H81⟩)
            · intro η57 wd87 Δ88 hE84 hR85 H86
              have H86 : Hp w0 ((Δ88 ++ (Row K38 (.slice A2 l_.V.length c3) l_.V :: Bx b1 28 [.slice A2 l_.V.length c3] :: Row K38 (.slice A17 xs20.length c19) xs20 :: Γ))) wd87 := H86
              refine sp_op [(42, .slice A4 used.length c5), (43, .int .i64 i25)] (ac (hE84 2 (by decide)) (ac (hE84 3 (by decide)) an)) ?_
              have hA92 := (hv7 _ (H86).tl.d.d.d).adO hj60
              refine r_ix IX29 rfl rfl hA92 h058 h159 ?_
              exact r_nil (n_lp ⟨_, rfl, undef, rfl, H86⟩)
            · intro η57 wd96 Δ97 hE93 hR94 H95
              have H95 : Hp w0 ((Δ97 ++ (Row K38 (.slice A2 l_.V.length c3) l_.V :: Bx b1 28 [.slice A2 l_.V.length c3] :: Row K38 (.slice A17 xs20.length c19) xs20 :: Γ))) wd96 := H95
              refine sp_op [(44, .pointer (some ((oA A4).add (Int.toNat i25 * 1))))] (ac (hE93 4 (by decide)) an) ?_
              have hA98 := (hv7 _ (H95).tl.d.d.d).adO hj60
              refine r_ld1 (.int .i64 (rd used i25)) LD3 rfl ((hv7 _ (H95).tl.d.d.d).c0A hA98 hj60 _ rfl) ?_
              exact r_nil (n_lp ⟨_, rfl, undef, rfl, H95⟩)
            · intro η57 wd102 Δ103 hE99 hR100 H101
              have H101 : Hp w0 ((Δ103 ++ (Row K38 (.slice A2 l_.V.length c3) l_.V :: Bx b1 28 [.slice A2 l_.V.length c3] :: Row K38 (.slice A17 xs20.length c19) xs20 :: Γ))) wd102 := H101
              refine sp_op [(41, .int .i64 y30.Left), (45, .int .i64 (rd used i25))] (ac (hE99 1 (by decide)) (ac (hE99 5 (by decide)) an)) ?_
              refine r_pure (.int .i64 (w64 (y30.Left - (rd used i25)))) rfl ?_
              exact r_nil (n_lp ⟨_, rfl, undef, rfl, H101⟩)
            · intro η57 wd107 Δ108 hE104 hR105 H106
              have H106 : Hp w0 ((Δ108 ++ (Row K38 (.slice A2 l_.V.length c3) l_.V :: Bx b1 28 [.slice A2 l_.V.length c3] :: Row K38 (.slice A17 xs20.length c19) xs20 :: Γ))) wd107 := H106
              refine sp_op [(7, .pointer (some ⟨b49, 0, none⟩))] (ac rfl an) ?_
              refine r_fa FA38_2 ⟨b49, 2, none⟩ rfl rfl ?_
              exact r_nil (n_lp ⟨_, rfl, undef, rfl, H106⟩)
            · intro η57 wd112 Δ113 hE109 hR110 H111
              have H111 : Hp w0 (Bx b49 38 [.int .i64 y30.Origin, .int .i64 y30.Expiry, .int .i64 y30.Left] :: (Δ113 ++ (Row K38 (.slice A2 l_.V.length c3) l_.V :: Bx b1 28 [.slice A2 l_.V.length c3] :: Row K38 (.slice A17 xs20.length c19) xs20 :: Γ))) wd112 := H111
              refine sp_op [(46, .int .i64 (w64 (y30.Left - (rd used i25)))), (47, .pointer (some ⟨b49, 2, none⟩))] (ac (hE109 6 (by decide)) (ac (hE109 7 (by decide)) an)) ?_
              refine r_st1 LD3 rfl rfl rfl H111 rfl ?_
              intro wd115 H114
              exact r_nil (n_lp ⟨_, rfl, (.tuple #[.pointer (some ⟨b49, 0, none⟩)]), trivial, H114⟩)
            · intro η57 wd117 hV118 H116
              have H119 : Hp w0 (Bx b49 38 [.int .i64 y30.Origin, .int .i64 y30.Expiry, .int .i64 (w64 (y30.Left - (rd used i25)))] :: Row K38 (.slice A2 l_.V.length c3) l_.V :: Bx b1 28 [.slice A2 l_.V.length c3] :: Row K38 (.slice A17 xs20.length c19) xs20 :: Γ) wd117 := H116
              refine n_frame [(0, .pointer (some ⟨b1, 0, none⟩)), (1, .slice A4 used.length c5), (5, .slice A17 xs20.length c19), (7, .pointer (some ⟨b49, 0, none⟩)), (19, .slice A2 l_.V.length c3), (20, .int .i64 (l_.V.length : Int)), (21, .int .i64 i25)] (ac rfl (ac rfl (ac rfl (ac rfl (ac rfl (ac rfl (ac rfl an))))))) ?_
              refine n_sq ?_
              refine st_seq ?_
              refine st_region ?_
              refine r_fa FA38_2 ⟨b49, 2, none⟩ rfl rfl ?_
              refine r_ld1 (.int .i64 (w64 (y30.Left - (rd used i25)))) LD3 rfl ((H119.g0).cell _ rfl) ?_
              refine r_pure (.bool (decide (w64 (y30.Left - (rd used i25)) > 0))) rfl ?_
              refine r_seq ?_
              rcases ite_some hm with ⟨hb120, hm⟩ | ⟨hb120, hm⟩
              · refine st_condt hb120 rfl ?_
                refine st_region ?_
                refine r_pure (.slice A17 xs20.length c19) rfl ?_
                refine r_ldA [.int .i64 y30.Origin, .int .i64 y30.Expiry, .int .i64 (w64 (y30.Left - (rd used i25)))] LD38 rfl rfl ((H119.g0).cells rfl) ?_
                refine r_buildSlice (K := K38) [(⟨y30.Origin, y30.Expiry, w64 (y30.Left - (rd used i25))⟩ : api_Vintage)] EL26 rfl rfl rfl (by decide) (by decide) rfl H119 ?_
                intro b121 wd123 H122
                obtain ⟨hf124, hm⟩ := gd_some hm
                refine r_append (K := K38) (ys := [(⟨y30.Origin, y30.Expiry, w64 (y30.Left - (rd used i25))⟩ : api_Vintage)]) AP26 rfl rfl rfl rfl H122.u4 (((H122.u4).g1).src) (fit_le hf124 (by decide)) ?_
                intro A125 c126 wd127 H128
                refine r_pure (.slice A125 ((xs20 ++ [(⟨y30.Origin, y30.Expiry, w64 (y30.Left - (rd used i25))⟩ : api_Vintage)]).length) c126) rfl ?_
                refine r_nil ?_
                refine n_bl ?_
                refine n_cut ⟨A125, (xs20 ++ [(⟨y30.Origin, y30.Expiry, w64 (y30.Left - (rd used i25))⟩ : api_Vintage)]).length, c126, xs20 ++ [(⟨y30.Origin, y30.Expiry, w64 (y30.Left - (rd used i25))⟩ : api_Vintage)], upk (ac rfl (ac rfl (ac rfl (ac rfl (ac rfl (ac rfl an)))))), H128.u1.d.u1.d.u2.u2, hm⟩
              · refine st_condf hb120 rfl ?_
                refine st_skip ?_
                refine n_bl ?_
                refine n_cut ⟨A17, xs20.length, c19, xs20, upk (ac rfl (ac rfl (ac rfl (ac rfl (ac rfl (ac rfl an)))))), H119.d.u2.u2.u2, hm⟩
      · rintro ρ w ⟨A43, n44, c45, xs46, ⟨base, rfl⟩, H47, hm⟩
        obtain rfl := (H47.g2).leneq
        unfold scutageref09_Losses_Take.j1 at hm
        refine st_region ?_
        refine r_pure (.int .i64 (w64 (i25 + 1))) rfl ?_
        refine r_pure (.int .i64 (w64 (i25 + 1))) rfl ?_
        refine r_nil ?_
        refine n_round (IH33 _ _ rfl _ _ _ ⟨i25 + 1, xs46, dn26 ++ [y30], A43, xs46.length, c45, rfl, range_more hxs27, range_len hi28, upk (ac rfl (ac rfl (ac rfl (ac rfl (ac rfl (ac hnx39 an)))))), H47.u2.u2.u2⟩ hm)

set_option maxHeartbeats 2000000 in
theorem scutageref01_Of_r1_ok {w0 w : World} {Γ : List (World → Prop)} (n_ : Int) (r_ : Int) (r0_ : Int) (r1_ : Bool) (H : Hp w0 (Γ) w) (hm : scutageref01_Of_r1 n_ r_ = some (r0_, r1_)) : Calls Try.prog 96 #[.int .i64 n_, .int .i64 r_] w (fun e w => e = .returned (.tuple #[.int .i64 r0_, .bool r1_]) ∧ Hp w0 (Γ) w) := by
  unfold scutageref01_Of_r1 at hm
  refine st_enter Try.func96 rfl Try.ntmps96 (Nat.le_of_ble_eq_true rfl) ?_
  refine st_seq ?_
  refine st_region ?_
  refine r_pure (.int .i64 0) rfl ?_
  refine r_pure (.bool false) rfl ?_
  refine r_seq ?_
  refine st_seq ?_
  refine st_cut (fun ρ w => ∃ q1 : Bool, (∃ base, ρ = updl base [(0, .int .i64 n_), (1, .int .i64 r_), (24, .bool q1)]) ∧ Hp w0 (Γ) w ∧ scutageref01_Of_r1.j1 n_ r_ q1 = some (r0_, r1_)) ?_ ?_
  · refine st_region ?_
    refine r_pure (.int .i64 n_) rfl ?_
    refine r_pure (.bool (decide (n_ < (-400000000000)))) rfl ?_
    refine r_pure (.bool (decide (n_ < (-400000000000)))) rfl ?_
    rcases ite_some hm with ⟨hb8, hm⟩ | ⟨hb8, hm⟩
    · refine r_not (wn_f rfl rfl (by decide) rfl hb8) ?_
      refine r_not (wn_f rfl rfl (by decide) rfl hb8) ?_
      refine r_pick_t (.bool true) hb8 rfl rfl ?_
      refine r_pure (.bool true) rfl ?_
      refine r_not (wn_f rfl rfl (by decide) rfl rfl) ?_
      refine r_not (wn_f rfl rfl (by decide) rfl rfl) ?_
      refine r_pick_t (.bool true) rfl rfl rfl ?_
      refine r_pure (.bool true) rfl ?_
      refine r_not (wn_f rfl rfl (by decide) rfl rfl) ?_
      refine r_not (wn_f rfl rfl (by decide) rfl rfl) ?_
      refine r_pick_t (.bool true) rfl rfl rfl ?_
      refine r_nil ?_
      refine n_cut ⟨true, upk (ac rfl (ac rfl (ac rfl an))), H, hm⟩
    · refine r_pure (.int .i64 n_) rfl ?_ (wn_t rfl rfl (by decide) rfl hb8)
      refine r_pure (.bool (decide (n_ > 400000000000))) rfl ?_ (wn_t rfl rfl (by decide) rfl hb8)
      refine r_pick_f (.bool (decide (n_ > 400000000000))) hb8 rfl rfl ?_
      refine r_pure (.bool (decide (n_ > 400000000000))) rfl ?_
      rcases ite_some hm with ⟨hb9, hm⟩ | ⟨hb9, hm⟩
      · refine r_not (wn_f rfl rfl (by decide) rfl hb9) ?_
        refine r_not (wn_f rfl rfl (by decide) rfl hb9) ?_
        refine r_pick_t (.bool true) hb9 rfl rfl ?_
        refine r_pure (.bool true) rfl ?_
        refine r_not (wn_f rfl rfl (by decide) rfl rfl) ?_
        refine r_not (wn_f rfl rfl (by decide) rfl rfl) ?_
        refine r_pick_t (.bool true) rfl rfl rfl ?_
        refine r_nil ?_
        refine n_cut ⟨true, upk (ac rfl (ac rfl (ac rfl an))), H, hm⟩
      · refine r_pure (.int .i64 r_) rfl ?_ (wn_t rfl rfl (by decide) rfl hb9)
        refine r_pure (.bool (decide (r_ < 0))) rfl ?_ (wn_t rfl rfl (by decide) rfl hb9)
        refine r_pick_f (.bool (decide (r_ < 0))) hb9 rfl rfl ?_
        refine r_pure (.bool (decide (r_ < 0))) rfl ?_
        rcases ite_some hm with ⟨hb10, hm⟩ | ⟨hb10, hm⟩
        · refine r_not (wn_f rfl rfl (by decide) rfl hb10) ?_
          refine r_not (wn_f rfl rfl (by decide) rfl hb10) ?_
          refine r_pick_t (.bool true) hb10 rfl rfl ?_
          refine r_nil ?_
          refine n_cut ⟨true, upk (ac rfl (ac rfl (ac rfl an))), H, hm⟩
        · refine r_pure (.int .i64 r_) rfl ?_ (wn_t rfl rfl (by decide) rfl hb10)
          refine r_pure (.bool (decide (r_ > 10000000))) rfl ?_ (wn_t rfl rfl (by decide) rfl hb10)
          refine r_pick_f (.bool (decide (r_ > 10000000))) hb10 rfl rfl ?_
          refine r_nil ?_
          refine n_cut ⟨decide (r_ > 10000000), upk (ac rfl (ac rfl (ac rfl an))), H, hm⟩
  · rintro ρ w ⟨q1, ⟨base, rfl⟩, H2, hm⟩
    unfold scutageref01_Of_r1.j1 at hm
    rcases ite_some hm with ⟨hb3, hm⟩ | ⟨hb3, hm⟩
    · refine st_condt hb3 rfl ?_
      refine st_seq ?_
      refine st_region ?_
      refine r_pure (.int .i64 0) rfl ?_
      refine r_pure (.bool false) rfl ?_
      refine r_seq ?_
      obtain ⟨rfl, rfl⟩ := some_inj2 hm
      refine st_ret2 rfl rfl (Nat.le_of_ble_eq_true rfl) (Nat.le_of_ble_eq_true rfl) rfl rfl ?_
      exact ⟨rfl, H2⟩
    · refine st_condf hb3 rfl ?_
      refine st_skip ?_
      refine n_sq ?_
      refine st_seq ?_
      refine st_seq ?_
      refine st_region ?_
      refine r_pure (.int .i64 n_) rfl ?_
      refine r_pure (.bool (decide (n_ < 0))) rfl ?_
      refine r_seq ?_
      rcases ite_some hm with ⟨hb4, hm⟩ | ⟨hb4, hm⟩
      · cases hm
      · refine st_condf hb4 rfl ?_
        refine st_skip ?_
        refine n_sq ?_
        refine st_seq ?_
        refine st_region ?_
        refine r_pure (.int .i64 n_) rfl ?_
        refine r_pure (.int .i64 r_) rfl ?_
        refine r_pure (.int .i64 (w64 (n_ * r_))) rfl ?_
        refine r_pure (.int .i64 (w64 (n_ * r_))) rfl ?_
        refine r_seq ?_
        refine st_seq ?_
        refine st_region ?_
        refine r_pure (.int .i64 (w64 (n_ * r_))) rfl ?_
        refine r_quo (by decide) rfl rfl ?_
        refine r_pure (.int .i64 (w64 (n_ * r_))) rfl ?_
        refine r_rem (by decide) rfl rfl ?_
        refine r_pure (.int .i64 (w64 (Int.tdiv (w64 (n_ * r_)) 1000000))) rfl ?_
        refine r_pure (.int .i64 (Int.tmod (w64 (n_ * r_)) 1000000)) rfl ?_
        refine r_seq ?_
        refine st_cut (fun ρ w => ∃ v5 : Int, (∃ base, ρ = updl base [(9, .int .i64 v5)]) ∧ Hp w0 (Γ) w ∧ scutageref01_Of_r1.j2 v5 = some (r0_, r1_)) ?_ ?_
        · refine st_seq ?_
          refine st_region ?_
          refine r_pure (.int .i64 (Int.tmod (w64 (n_ * r_)) 1000000)) rfl ?_
          refine r_pure (.int .i64 (w64 (2 * Int.tmod (w64 (n_ * r_)) 1000000))) rfl ?_
          refine r_pure (.bool (decide (w64 (2 * Int.tmod (w64 (n_ * r_)) 1000000) ≥ 1000000))) rfl ?_
          refine r_seq ?_
          rcases ite_some hm with ⟨hb7, hm⟩ | ⟨hb7, hm⟩
          · refine st_condt hb7 rfl ?_
            refine st_region ?_
            refine r_pure (.int .i64 (w64 (Int.tdiv (w64 (n_ * r_)) 1000000))) rfl ?_
            refine r_pure (.int .i64 (w64 (w64 (Int.tdiv (w64 (n_ * r_)) 1000000) + 1))) rfl ?_
            refine r_pure (.int .i64 (w64 (w64 (Int.tdiv (w64 (n_ * r_)) 1000000) + 1))) rfl ?_
            refine r_nil ?_
            refine n_cut ⟨w64 (w64 (Int.tdiv (w64 (n_ * r_)) 1000000) + 1), upk (ac rfl an), H2, hm⟩
          · refine st_condf hb7 rfl ?_
            refine st_skip ?_
            refine n_cut ⟨w64 (Int.tdiv (w64 (n_ * r_)) 1000000), upk (ac rfl an), H2, hm⟩
        · rintro ρ w ⟨v5, ⟨base, rfl⟩, H6, hm⟩
          unfold scutageref01_Of_r1.j2 at hm
          refine st_seq ?_
          refine st_region ?_
          refine r_pure (.int .i64 v5) rfl ?_
          refine r_pure (.int .i64 v5) rfl ?_
          refine r_pure (.bool true) rfl ?_
          refine r_seq ?_
          obtain ⟨rfl, rfl⟩ := some_inj2 hm
          refine st_ret2 rfl rfl (Nat.le_of_ble_eq_true rfl) (Nat.le_of_ble_eq_true rfl) rfl rfl ?_
          exact ⟨rfl, H6⟩

set_option maxHeartbeats 2000000 in
theorem scutageref01_Of_ok {w0 w : World} {Γ : List (World → Prop)} (n_ : Int) (r_ : Int) (r0_ : Int) (r1_ : Bool) (H : Hp w0 (Γ) w) (hm : scutageref01_Of n_ r_ = some (r0_, r1_)) : Calls Try.prog 96 #[.int .i64 n_, .int .i64 r_] w (fun e w => e = .returned (.tuple #[.int .i64 r0_, .bool r1_]) ∧ Hp w0 (Γ) w) := by
  unfold scutageref01_Of at hm
  refine st_enter Try.func96 rfl Try.ntmps96 (Nat.le_of_ble_eq_true rfl) ?_
  refine st_seq ?_
  refine st_region ?_
  refine r_pure (.int .i64 0) rfl ?_
  refine r_pure (.bool false) rfl ?_
  refine r_seq ?_
  refine st_seq ?_
  refine st_cut (fun ρ w => ∃ q1 : Bool, (∃ base, ρ = updl base [(0, .int .i64 n_), (1, .int .i64 r_), (24, .bool q1)]) ∧ Hp w0 (Γ) w ∧ scutageref01_Of.j1 n_ r_ q1 = some (r0_, r1_)) ?_ ?_
  · refine st_region ?_
    refine r_pure (.int .i64 n_) rfl ?_
    refine r_pure (.bool (decide (n_ < (-400000000000)))) rfl ?_
    refine r_pure (.bool (decide (n_ < (-400000000000)))) rfl ?_
    rcases ite_some hm with ⟨hb15, hm⟩ | ⟨hb15, hm⟩
    · refine r_not (wn_f rfl rfl (by decide) rfl hb15) ?_
      refine r_not (wn_f rfl rfl (by decide) rfl hb15) ?_
      refine r_pick_t (.bool true) hb15 rfl rfl ?_
      refine r_pure (.bool true) rfl ?_
      refine r_not (wn_f rfl rfl (by decide) rfl rfl) ?_
      refine r_not (wn_f rfl rfl (by decide) rfl rfl) ?_
      refine r_pick_t (.bool true) rfl rfl rfl ?_
      refine r_pure (.bool true) rfl ?_
      refine r_not (wn_f rfl rfl (by decide) rfl rfl) ?_
      refine r_not (wn_f rfl rfl (by decide) rfl rfl) ?_
      refine r_pick_t (.bool true) rfl rfl rfl ?_
      refine r_nil ?_
      refine n_cut ⟨true, upk (ac rfl (ac rfl (ac rfl an))), H, hm⟩
    · refine r_pure (.int .i64 n_) rfl ?_ (wn_t rfl rfl (by decide) rfl hb15)
      refine r_pure (.bool (decide (n_ > 400000000000))) rfl ?_ (wn_t rfl rfl (by decide) rfl hb15)
      refine r_pick_f (.bool (decide (n_ > 400000000000))) hb15 rfl rfl ?_
      refine r_pure (.bool (decide (n_ > 400000000000))) rfl ?_
      rcases ite_some hm with ⟨hb16, hm⟩ | ⟨hb16, hm⟩
      · refine r_not (wn_f rfl rfl (by decide) rfl hb16) ?_
        refine r_not (wn_f rfl rfl (by decide) rfl hb16) ?_
        refine r_pick_t (.bool true) hb16 rfl rfl ?_
        refine r_pure (.bool true) rfl ?_
        refine r_not (wn_f rfl rfl (by decide) rfl rfl) ?_
        refine r_not (wn_f rfl rfl (by decide) rfl rfl) ?_
        refine r_pick_t (.bool true) rfl rfl rfl ?_
        refine r_nil ?_
        refine n_cut ⟨true, upk (ac rfl (ac rfl (ac rfl an))), H, hm⟩
      · refine r_pure (.int .i64 r_) rfl ?_ (wn_t rfl rfl (by decide) rfl hb16)
        refine r_pure (.bool (decide (r_ < 0))) rfl ?_ (wn_t rfl rfl (by decide) rfl hb16)
        refine r_pick_f (.bool (decide (r_ < 0))) hb16 rfl rfl ?_
        refine r_pure (.bool (decide (r_ < 0))) rfl ?_
        rcases ite_some hm with ⟨hb17, hm⟩ | ⟨hb17, hm⟩
        · refine r_not (wn_f rfl rfl (by decide) rfl hb17) ?_
          refine r_not (wn_f rfl rfl (by decide) rfl hb17) ?_
          refine r_pick_t (.bool true) hb17 rfl rfl ?_
          refine r_nil ?_
          refine n_cut ⟨true, upk (ac rfl (ac rfl (ac rfl an))), H, hm⟩
        · refine r_pure (.int .i64 r_) rfl ?_ (wn_t rfl rfl (by decide) rfl hb17)
          refine r_pure (.bool (decide (r_ > 10000000))) rfl ?_ (wn_t rfl rfl (by decide) rfl hb17)
          refine r_pick_f (.bool (decide (r_ > 10000000))) hb17 rfl rfl ?_
          refine r_nil ?_
          refine n_cut ⟨decide (r_ > 10000000), upk (ac rfl (ac rfl (ac rfl an))), H, hm⟩
  · rintro ρ w ⟨q1, ⟨base, rfl⟩, H2, hm⟩
    unfold scutageref01_Of.j1 at hm
    rcases ite_some hm with ⟨hb3, hm⟩ | ⟨hb3, hm⟩
    · refine st_condt hb3 rfl ?_
      refine st_seq ?_
      refine st_region ?_
      refine r_pure (.int .i64 0) rfl ?_
      refine r_pure (.bool false) rfl ?_
      refine r_seq ?_
      obtain ⟨rfl, rfl⟩ := some_inj2 hm
      refine st_ret2 rfl rfl (Nat.le_of_ble_eq_true rfl) (Nat.le_of_ble_eq_true rfl) rfl rfl ?_
      exact ⟨rfl, H2⟩
    · refine st_condf hb3 rfl ?_
      refine st_skip ?_
      refine n_sq ?_
      refine st_seq ?_
      refine st_seq ?_
      refine st_region ?_
      refine r_pure (.int .i64 n_) rfl ?_
      refine r_pure (.bool (decide (n_ < 0))) rfl ?_
      refine r_seq ?_
      rcases ite_some hm with ⟨hb4, hm⟩ | ⟨hb4, hm⟩
      · refine st_condt hb4 rfl ?_
        refine st_seq ?_
        refine st_region ?_
        refine r_pure (.int .i64 n_) rfl ?_
        refine r_pure (.int .i64 (w64 (0 - n_))) rfl ?_
        refine r_pure (.int .i64 r_) rfl ?_
        obtain ⟨⟨y5, y6⟩, hy7, hm⟩ := bind_some hm
        refine r_callf Try.call96 (scutageref01_Of_r1_ok (w64 (0 - n_)) r_ y5 y6 H2 hy7) ?_
        rintro e9 wd8 ⟨rfl, H11⟩
        refine ⟨_, rfl, ?_⟩
        refine r_pure (.tuple #[.int .i64 y5, .bool y6]) rfl ?_
        refine r_pure (.int .i64 y5) rfl ?_
        refine r_pure (.bool y6) rfl ?_
        refine r_pure (.int .i64 y5) rfl ?_
        refine r_pure (.bool y6) rfl ?_
        refine r_seq ?_
        refine st_seq ?_
        refine st_region ?_
        refine r_pure (.int .i64 y5) rfl ?_
        refine r_pure (.int .i64 (w64 (0 - y5))) rfl ?_
        refine r_pure (.int .i64 (w64 (0 - y5))) rfl ?_
        refine r_pure (.bool true) rfl ?_
        refine r_seq ?_
        obtain ⟨rfl, rfl⟩ := some_inj2 hm
        refine st_ret2 rfl rfl (Nat.le_of_ble_eq_true rfl) (Nat.le_of_ble_eq_true rfl) rfl rfl ?_
        exact ⟨rfl, H11⟩
      · refine st_condf hb4 rfl ?_
        refine st_skip ?_
        refine n_sq ?_
        refine st_seq ?_
        refine st_region ?_
        refine r_pure (.int .i64 n_) rfl ?_
        refine r_pure (.int .i64 r_) rfl ?_
        refine r_pure (.int .i64 (w64 (n_ * r_))) rfl ?_
        refine r_pure (.int .i64 (w64 (n_ * r_))) rfl ?_
        refine r_seq ?_
        refine st_seq ?_
        refine st_region ?_
        refine r_pure (.int .i64 (w64 (n_ * r_))) rfl ?_
        refine r_quo (by decide) rfl rfl ?_
        refine r_pure (.int .i64 (w64 (n_ * r_))) rfl ?_
        refine r_rem (by decide) rfl rfl ?_
        refine r_pure (.int .i64 (w64 (Int.tdiv (w64 (n_ * r_)) 1000000))) rfl ?_
        refine r_pure (.int .i64 (Int.tmod (w64 (n_ * r_)) 1000000)) rfl ?_
        refine r_seq ?_
        refine st_cut (fun ρ w => ∃ v12 : Int, (∃ base, ρ = updl base [(9, .int .i64 v12)]) ∧ Hp w0 (Γ) w ∧ scutageref01_Of.j2 v12 = some (r0_, r1_)) ?_ ?_
        · refine st_seq ?_
          refine st_region ?_
          refine r_pure (.int .i64 (Int.tmod (w64 (n_ * r_)) 1000000)) rfl ?_
          refine r_pure (.int .i64 (w64 (2 * Int.tmod (w64 (n_ * r_)) 1000000))) rfl ?_
          refine r_pure (.bool (decide (w64 (2 * Int.tmod (w64 (n_ * r_)) 1000000) ≥ 1000000))) rfl ?_
          refine r_seq ?_
          rcases ite_some hm with ⟨hb14, hm⟩ | ⟨hb14, hm⟩
          · refine st_condt hb14 rfl ?_
            refine st_region ?_
            refine r_pure (.int .i64 (w64 (Int.tdiv (w64 (n_ * r_)) 1000000))) rfl ?_
            refine r_pure (.int .i64 (w64 (w64 (Int.tdiv (w64 (n_ * r_)) 1000000) + 1))) rfl ?_
            refine r_pure (.int .i64 (w64 (w64 (Int.tdiv (w64 (n_ * r_)) 1000000) + 1))) rfl ?_
            refine r_nil ?_
            refine n_cut ⟨w64 (w64 (Int.tdiv (w64 (n_ * r_)) 1000000) + 1), upk (ac rfl an), H2, hm⟩
          · refine st_condf hb14 rfl ?_
            refine st_skip ?_
            refine n_cut ⟨w64 (Int.tdiv (w64 (n_ * r_)) 1000000), upk (ac rfl an), H2, hm⟩
        · rintro ρ w ⟨v12, ⟨base, rfl⟩, H13, hm⟩
          unfold scutageref01_Of.j2 at hm
          refine st_seq ?_
          refine st_region ?_
          refine r_pure (.int .i64 v12) rfl ?_
          refine r_pure (.int .i64 v12) rfl ?_
          refine r_pure (.bool true) rfl ?_
          refine r_seq ?_
          obtain ⟨rfl, rfl⟩ := some_inj2 hm
          refine st_ret2 rfl rfl (Nat.le_of_ble_eq_true rfl) (Nat.le_of_ble_eq_true rfl) rfl rfl ?_
          exact ⟨rfl, H13⟩

set_option maxHeartbeats 2000000 in
theorem scutageref01_Part_ok {w0 w : World} {Γ : List (World → Prop)} (n_ : Int) (r_ : Int) (r0_ : Int) (H : Hp w0 (Γ) w) (hm : scutageref01_Part n_ r_ = some r0_) : Calls Try.prog 78 #[.int .i64 n_, .int .i64 r_] w (fun e w => e = .returned (.int .i64 r0_) ∧ Hp w0 (Γ) w) := by
  unfold scutageref01_Part at hm
  refine st_enter Try.func78 rfl Try.ntmps78 (Nat.le_of_ble_eq_true rfl) ?_
  refine st_seq ?_
  refine st_region ?_
  refine r_pure (.int .i64 0) rfl ?_
  refine r_seq ?_
  refine st_seq ?_
  refine st_region ?_
  refine r_pure (.int .i64 n_) rfl ?_
  refine r_pure (.int .i64 r_) rfl ?_
  obtain ⟨⟨y1, y2⟩, hy3, hm⟩ := bind_some hm
  refine r_callf Try.call96 (scutageref01_Of_ok n_ r_ y1 y2 H hy3) ?_
  rintro e5 wd4 ⟨rfl, H7⟩
  refine ⟨_, rfl, ?_⟩
  refine r_pure (.tuple #[.int .i64 y1, .bool y2]) rfl ?_
  refine r_pure (.int .i64 y1) rfl ?_
  refine r_pure (.bool y2) rfl ?_
  refine r_pure (.int .i64 y1) rfl ?_
  refine r_pure (.bool y2) rfl ?_
  refine r_seq ?_
  refine st_seq ?_
  refine st_region ?_
  refine r_pure (.int .i64 y1) rfl ?_
  refine r_pure (.int .i64 y1) rfl ?_
  refine r_seq ?_
  have hq_ := Option.some.inj hm
  subst hq_
  refine st_ret1 rfl rfl (Nat.le_of_ble_eq_true rfl) rfl ?_
  exact ⟨rfl, H7⟩

set_option maxHeartbeats 2000000 in
theorem scutageref09_Tax_ok {w0 w : World} {Γ : List (World → Prop)} (b1 : Nat) (l_ : scutageref09_Losses) (A2 : Option Addr) (n7 c3 : Nat) (hn6 : n7 = l_.V.length) (hc4 : l_.V.length ≤ c3) (hv5 : ∀ u, Hp w0 Γ u → SlR K38 A2 l_.V u) (hv8 : ∀ u, Hp w0 Γ u → Bx b1 28 [.slice A2 n7 c3] u) (book : Int) (perm : Int) (moved : Int) (cap : Int) (life : Int) (year : Int) (r_ : Int) (r0_ : scutageref09_Result) (r1_ : Option scutageref09_Losses) (r2_ : Int) (H : Hp w0 (Γ) w) (hm : scutageref09_Tax l_ book perm moved cap life year r_ = some (r0_, r1_, r2_)) : Calls Try.prog 41 #[.pointer (some ⟨b1, 0, none⟩), .int .i64 book, .int .i64 perm, .int .i64 moved, .int .i64 cap, .int .i64 life, .int .i64 year, .int .i64 r_] w (fun e w => (r1_ = none ∧ ∃ (Ax1 : Option Addr) (nx2 cx3 : Nat), e = .returned (.tuple #[.agg #[.int .i64 r0_.Income, .int .i64 r0_.Expired, .int .i64 r0_.Used, .int .i64 r0_.New, .int .i64 r0_.Taxable, .int .i64 r0_.Tax, .slice Ax1 nx2 cx3], .pointer none, .int .i64 r2_]) ∧ Hp w0 (Row K3 (.slice Ax1 nx2 cx3) r0_.Vector :: Γ) w) ∨ (∃ o_ : scutageref09_Losses, r1_ = some o_ ∧ ∃ (Ax1 : Option Addr) (nx2 cx3 : Nat), ∃ (bx4 : Nat), ∃ (Ax5 : Option Addr) (nx6 cx7 : Nat), e = .returned (.tuple #[.agg #[.int .i64 r0_.Income, .int .i64 r0_.Expired, .int .i64 r0_.Used, .int .i64 r0_.New, .int .i64 r0_.Taxable, .int .i64 r0_.Tax, .slice Ax1 nx2 cx3], .pointer (some ⟨bx4, 0, none⟩), .int .i64 r2_]) ∧ Hp w0 (Row K3 (.slice Ax1 nx2 cx3) r0_.Vector :: Bx bx4 28 [.slice Ax5 nx6 cx7] :: Row K38 (.slice Ax5 nx6 cx7) o_.V :: Γ) w)) := by
  subst hn6
  unfold scutageref09_Tax at hm
  refine st_enter Try.func41 rfl Try.ntmps41 (Nat.le_of_ble_eq_true rfl) ?_
  refine st_seq ?_
  refine st_region ?_
  refine r_alloc [.int .i64 0, .int .i64 0, .int .i64 0, .int .i64 0, .int .i64 0, .int .i64 0, .slice none 0 0] Try.zeroValue69 H rfl ?_
  intro b9 wd11 H10
  refine r_pure (.pointer none) rfl ?_
  refine r_pure (.int .i64 0) rfl ?_
  refine r_seq ?_
  refine st_seq ?_
  refine st_cut (fun ρ w => ∃ q12 : Bool, (∃ base, ρ = updl base [(0, .pointer (some ⟨b1, 0, none⟩)), (1, .int .i64 book), (2, .int .i64 perm), (3, .int .i64 moved), (4, .int .i64 cap), (5, .int .i64 life), (6, .int .i64 year), (7, .int .i64 r_), (16, .pointer (some ⟨b9, 0, none⟩)), (41, .bool q12)]) ∧ Hp w0 (Bx b9 69 [.int .i64 0, .int .i64 0, .int .i64 0, .int .i64 0, .int .i64 0, .int .i64 0, .slice none 0 0] :: Γ) w ∧ scutageref09_Tax.j1 book perm moved l_ year cap r_ life q12 = some (r0_, r1_, r2_)) ?_ ?_
  · refine st_region ?_
    refine r_pure (.int .i64 cap) rfl ?_
    obtain ⟨y211, hy212, hm⟩ := bind_some hm
    refine r_callf Try.call72 (scutageref01_Right_ok cap y211 H10 hy212) ?_
    rintro e214 wd213 ⟨rfl, H216⟩
    refine ⟨_, rfl, ?_⟩
    refine r_pure (.bool (!y211)) rfl ?_
    refine r_pure (.bool (!y211)) rfl ?_
    rcases ite_some hm with ⟨hb217, hm⟩ | ⟨hb217, hm⟩
    · refine r_not (wn_f rfl rfl (by decide) rfl hb217) ?_
      refine r_not (wn_f rfl rfl (by decide) rfl hb217) ?_
      refine r_not (wn_f rfl rfl (by decide) rfl hb217) ?_
      refine r_pick_t (.bool true) hb217 rfl rfl ?_
      refine r_pure (.bool true) rfl ?_
      refine r_not (wn_f rfl rfl (by decide) rfl rfl) ?_
      refine r_not (wn_f rfl rfl (by decide) rfl rfl) ?_
      refine r_not (wn_f rfl rfl (by decide) rfl rfl) ?_
      refine r_pick_t (.bool true) rfl rfl rfl ?_
      refine r_pure (.bool true) rfl ?_
      refine r_not (wn_f rfl rfl (by decide) rfl rfl) ?_
      refine r_not (wn_f rfl rfl (by decide) rfl rfl) ?_
      refine r_not (wn_f rfl rfl (by decide) rfl rfl) ?_
      refine r_pick_t (.bool true) rfl rfl rfl ?_
      refine r_nil ?_
      refine n_cut ⟨true, upk (ac rfl (ac rfl (ac rfl (ac rfl (ac rfl (ac rfl (ac rfl (ac rfl (ac rfl (ac rfl an)))))))))), H216, hm⟩
    · refine r_pure (.int .i64 r_) rfl ?_ (wn_t rfl rfl (by decide) rfl hb217)
      obtain ⟨y218, hy219, hm⟩ := bind_some hm
      refine r_callf Try.call72 (scutageref01_Right_ok r_ y218 H216 hy219) ?_ (wn_t rfl rfl (by decide) rfl hb217)
      rintro e221 wd220 ⟨rfl, H223⟩
      refine ⟨_, rfl, ?_⟩
      refine r_pure (.bool (!y218)) rfl ?_ (wn_t rfl rfl (by decide) rfl hb217)
      refine r_pick_f (.bool (!y218)) hb217 rfl rfl ?_
      refine r_pure (.bool (!y218)) rfl ?_
      rcases ite_some hm with ⟨hb224, hm⟩ | ⟨hb224, hm⟩
      · refine r_not (wn_f rfl rfl (by decide) rfl hb224) ?_
        refine r_not (wn_f rfl rfl (by decide) rfl hb224) ?_
        refine r_not (wn_f rfl rfl (by decide) rfl hb224) ?_
        refine r_pick_t (.bool true) hb224 rfl rfl ?_
        refine r_pure (.bool true) rfl ?_
        refine r_not (wn_f rfl rfl (by decide) rfl rfl) ?_
        refine r_not (wn_f rfl rfl (by decide) rfl rfl) ?_
        refine r_not (wn_f rfl rfl (by decide) rfl rfl) ?_
        refine r_pick_t (.bool true) rfl rfl rfl ?_
        refine r_nil ?_
        refine n_cut ⟨true, upk (ac rfl (ac rfl (ac rfl (ac rfl (ac rfl (ac rfl (ac rfl (ac rfl (ac rfl (ac rfl an)))))))))), H223, hm⟩
      · refine r_pure (.int .i64 life) rfl ?_ (wn_t rfl rfl (by decide) rfl hb224)
        obtain ⟨y225, hy226, hm⟩ := bind_some hm
        refine r_callf Try.call51 (scutageref09_Year_ok life y225 H223 hy226) ?_ (wn_t rfl rfl (by decide) rfl hb224)
        rintro e228 wd227 ⟨rfl, H230⟩
        refine ⟨_, rfl, ?_⟩
        refine r_pure (.bool (!y225)) rfl ?_ (wn_t rfl rfl (by decide) rfl hb224)
        refine r_pick_f (.bool (!y225)) hb224 rfl rfl ?_
        refine r_pure (.bool (!y225)) rfl ?_
        rcases ite_some hm with ⟨hb231, hm⟩ | ⟨hb231, hm⟩
        · refine r_not (wn_f rfl rfl (by decide) rfl hb231) ?_
          refine r_not (wn_f rfl rfl (by decide) rfl hb231) ?_
          refine r_not (wn_f rfl rfl (by decide) rfl hb231) ?_
          refine r_pick_t (.bool true) hb231 rfl rfl ?_
          refine r_nil ?_
          refine n_cut ⟨true, upk (ac rfl (ac rfl (ac rfl (ac rfl (ac rfl (ac rfl (ac rfl (ac rfl (ac rfl (ac rfl an)))))))))), H230, hm⟩
        · refine r_pure (.int .i64 year) rfl ?_ (wn_t rfl rfl (by decide) rfl hb231)
          obtain ⟨y232, hy233, hm⟩ := bind_some hm
          refine r_callf Try.call51 (scutageref09_Year_ok year y232 H230 hy233) ?_ (wn_t rfl rfl (by decide) rfl hb231)
          rintro e235 wd234 ⟨rfl, H237⟩
          refine ⟨_, rfl, ?_⟩
          refine r_pure (.bool (!y232)) rfl ?_ (wn_t rfl rfl (by decide) rfl hb231)
          refine r_pick_f (.bool (!y232)) hb231 rfl rfl ?_
          refine r_nil ?_
          refine n_cut ⟨!y232, upk (ac rfl (ac rfl (ac rfl (ac rfl (ac rfl (ac rfl (ac rfl (ac rfl (ac rfl (ac rfl an)))))))))), H237, hm⟩
  · rintro ρ w ⟨q12, ⟨base, rfl⟩, H13, hm⟩
    unfold scutageref09_Tax.j1 at hm
    rcases ite_some hm with ⟨hb14, hm⟩ | ⟨hb14, hm⟩
    · refine st_condt hb14 rfl ?_
      refine st_seq ?_
      refine st_region ?_
      refine r_build [.int .i64 0, .int .i64 0, .int .i64 0, .int .i64 0, .int .i64 0, .int .i64 0, .slice none 0 0] FL69 (by kernel_rfl) ?_
      refine r_stA [.int .i64 0, .int .i64 0, .int .i64 0, .int .i64 0, .int .i64 0, .int .i64 0, .slice none 0 0] LD69 rfl rfl rfl rfl H13 (Nat.le_of_ble_eq_true rfl) rfl ?_
      intro wd16 H15
      refine r_pure (.pointer none) rfl ?_
      refine r_pure (.int .i64 1) rfl ?_
      refine r_seq ?_
      have H17 := H15.add (A := Row K3 (.slice none 0 0) []) Row.nil
      obtain ⟨rfl, rfl, rfl⟩ := some_inj3 hm
      refine st_ret3c [.int .i64 0, .int .i64 0, .int .i64 0, .int .i64 0, .int .i64 0, .int .i64 0, .slice none 0 0] rfl rfl (Nat.le_of_ble_eq_true rfl) (Nat.le_of_ble_eq_true rfl) (Nat.le_of_ble_eq_true rfl) rfl LD69 rfl ((H17.g1).cells rfl) rfl rfl ?_
      exact .inl ⟨rfl, none, 0, 0, rfl, H17.u1.d⟩
    · refine st_condf hb14 rfl ?_
      refine st_skip ?_
      refine n_sq ?_
      refine st_seq ?_
      refine st_region ?_
      refine r_pure (.int .i64 book) rfl ?_
      refine r_pure (.int .i64 perm) rfl ?_
      refine r_pure (.int .i64 moved) rfl ?_
      obtain ⟨⟨y18, y19⟩, hy20, hm⟩ := bind_some hm
      refine r_callf Try.call73 (scutageref09_Income_ok book perm moved y18 y19 H13 hy20) ?_
      rintro e22 wd21 ⟨rfl, H24⟩
      refine ⟨_, rfl, ?_⟩
      refine r_pure (.tuple #[.int .i64 y18, .bool y19]) rfl ?_
      refine r_pure (.int .i64 y18) rfl ?_
      refine r_pure (.bool y19) rfl ?_
      refine r_pure (.int .i64 y18) rfl ?_
      refine r_pure (.bool y19) rfl ?_
      refine r_seq ?_
      refine st_seq ?_
      refine st_seq ?_
      refine st_region ?_
      refine r_pure (.bool y19) rfl ?_
      refine r_pure (.bool (!y19)) rfl ?_
      refine r_seq ?_
      rcases ite_some hm with ⟨hb25, hm⟩ | ⟨hb25, hm⟩
      · refine st_condt hb25 rfl ?_
        refine st_seq ?_
        refine st_region ?_
        refine r_build [.int .i64 0, .int .i64 0, .int .i64 0, .int .i64 0, .int .i64 0, .int .i64 0, .slice none 0 0] FL69 (by kernel_rfl) ?_
        refine r_stA [.int .i64 0, .int .i64 0, .int .i64 0, .int .i64 0, .int .i64 0, .int .i64 0, .slice none 0 0] LD69 rfl rfl rfl rfl H24 (Nat.le_of_ble_eq_true rfl) rfl ?_
        intro wd27 H26
        refine r_pure (.pointer none) rfl ?_
        refine r_pure (.int .i64 6) rfl ?_
        refine r_seq ?_
        have H28 := H26.add (A := Row K3 (.slice none 0 0) []) Row.nil
        obtain ⟨rfl, rfl, rfl⟩ := some_inj3 hm
        refine st_ret3c [.int .i64 0, .int .i64 0, .int .i64 0, .int .i64 0, .int .i64 0, .int .i64 0, .slice none 0 0] rfl rfl (Nat.le_of_ble_eq_true rfl) (Nat.le_of_ble_eq_true rfl) (Nat.le_of_ble_eq_true rfl) rfl LD69 rfl ((H28.g1).cells rfl) rfl rfl ?_
        exact .inl ⟨rfl, none, 0, 0, rfl, H28.u1.d⟩
      · refine st_condf hb25 rfl ?_
        refine st_skip ?_
        refine n_sq ?_
        refine st_seq ?_
        refine st_region ?_
        refine r_pure (.int .i64 y18) rfl ?_
        refine r_build [.int .i64 y18, .int .i64 0, .int .i64 0, .int .i64 0, .int .i64 0, .int .i64 0, .slice none 0 0] FL69 (by kernel_rfl) ?_
        refine r_alloc [.int .i64 0, .int .i64 0, .int .i64 0, .int .i64 0, .int .i64 0, .int .i64 0, .slice none 0 0] Try.zeroValue69 H24 rfl ?_
        intro b29 wd31 H30
        refine r_stA [.int .i64 y18, .int .i64 0, .int .i64 0, .int .i64 0, .int .i64 0, .int .i64 0, .slice none 0 0] LD69 rfl rfl rfl rfl H30 (Nat.le_of_ble_eq_true rfl) rfl ?_
        intro wd33 H32
        refine r_seq ?_
        refine st_seq ?_
        refine st_region ?_
        refine r_pure (.pointer (some ⟨b1, 0, none⟩)) rfl ?_
        obtain ⟨y34, hy35, hm⟩ := bind_some hm
        refine r_callf Try.call74 (scutageref09_Losses_Copy_ok b1 (⟨l_.V⟩ : scutageref09_Losses) A2 l_.V.length c3 rfl hc4 (fun _ H => (hv5 _ H.d.d)) (fun _ H => (hv8 _ H.d.d)) y34 H32 hy35) ?_
        rintro e37 wd36 ⟨b40, A41, n42, c43, rfl, H39⟩
        obtain rfl := (H39.g1).leneq
        refine ⟨_, rfl, ?_⟩
        refine r_pure (.pointer (some ⟨b40, 0, none⟩)) rfl ?_
        refine r_seq ?_
        refine st_seq ?_
        refine st_region ?_
        refine r_pure (.pointer (some ⟨b40, 0, none⟩)) rfl ?_
        refine r_pure (.int .i64 year) rfl ?_
        obtain ⟨⟨y44, y45⟩, hy46, hm⟩ := bind_some hm
        refine r_callf Try.call15 (scutageref09_Losses_Expire_ok b40 (⟨y34.V⟩ : scutageref09_Losses) A41 c43 year y44 y45 H39.u1.u1 hy46) ?_
        rintro e48 wd47 ⟨A51, n52, c53, rfl, H50⟩
        obtain rfl := (H50.g1).leneq
        refine ⟨_, rfl, ?_⟩
        refine r_fa FA69_1 ⟨b29, 1, none⟩ rfl rfl ?_
        refine r_st1 LD3 rfl rfl rfl H50.u2 rfl ?_
        intro wd55 H54
        refine r_seq ?_
        refine st_cut (fun ρ w => ∃ A60 : Option Addr, ∃ n61 : Nat, ∃ c62 : Nat, ∃ A64 : Option Addr, ∃ n65 : Nat, ∃ c66 : Nat, ∃ v58 : Int, ∃ v59 : Int, ∃ xs63 : List Int, ∃ xs67 : List api_Vintage, (∃ base, ρ = updl base [(7, .int .i64 r_), (16, .pointer (some ⟨b9, 0, none⟩)), (19, .int .i64 y18), (21, .pointer (some ⟨b29, 0, none⟩)), (22, .pointer (some ⟨b40, 0, none⟩))]) ∧ Hp w0 (Bx b9 69 [.int .i64 0, .int .i64 0, .int .i64 0, .int .i64 0, .int .i64 0, .int .i64 0, .slice none 0 0] :: Row K3 (.slice A60 n61 c62) xs63 :: Bx b29 69 [.int .i64 y18, .int .i64 y44, .int .i64 v58, .int .i64 v59, .int .i64 0, .int .i64 0, .slice A60 n61 c62] :: Row K38 (.slice A64 n65 c66) xs67 :: Bx b40 28 [.slice A64 n65 c66] :: Γ) w ∧ scutageref09_Tax.j2 y18 r_ y44 v58 v59 xs63 xs67 = some (r0_, r1_, r2_)) ?_ ?_
        · refine st_block ?_
          refine st_seq ?_
          refine st_region ?_
          refine r_pure (.int .i64 y18) rfl ?_
          refine r_pure (.bool (decide (y18 > 0))) rfl ?_
          refine r_pure (.bool (decide (y18 > 0))) rfl ?_
          refine r_seq ?_
          rcases ite_some hm with ⟨hb81, hm⟩ | ⟨hb81, hm⟩
          · refine st_condt hb81 rfl ?_
            refine st_seq ?_
            obtain ⟨y83, hy84, hm⟩ := bind_some hm
            obtain ⟨y89, hy90, hm⟩ := bind_some hm
            refine Flow.run' [[], [0], [0, 1], [0, 1, 2], [], [], [], [5, 6], [0, 1, 2, 3, 4, 5, 6, 7], [0, 1, 2, 3, 4, 5, 6, 7, 8], [0, 1, 2, 3, 4, 5, 6, 7, 8, 9]] [(64, 0), (65, 1), (66, 2), (67, 3), (68, 4), (69, 5), (70, 6), (71, 7), (72, 8), (73, 9)] [(fun η82 v => v.1 = .pointer (some ⟨b40, 0, none⟩)), (fun η82 v => v.1 = .pointer (some ⟨b40, 0, none⟩)), (fun η82 v => v.1 = .pointer (some ⟨b40, 0, none⟩)), (fun η82 v => v.1 = .slice A51 y45.V.length c53), (fun η82 v => v.1 = .int .i64 year), (fun η82 v => v.1 = .int .i64 y18), (fun η82 v => v.1 = .int .i64 cap), (fun η82 v => v.1 = .int .i64 y83), (fun η82 v => v.1 = .slice (vA (v.1)) y89.length (vC (v.1))), (fun η82 v => v.1 = .pointer (some ⟨b29, 6, none⟩)), (fun _ _ => True)] [⟨none, (some 10), fun η82 => Bx b29 69 [.int .i64 y18, .int .i64 y44, .int .i64 0, .int .i64 0, .int .i64 0, .int .i64 0, .slice none 0 0]⟩, ⟨(some 8), none, fun η82 => Row K3 (.slice (vA ((η82 8).1)) y89.length (vC ((η82 8).1))) y89⟩, ⟨(some 10), none, fun η82 => Bx b29 69 [.int .i64 y18, .int .i64 y44, .int .i64 0, .int .i64 0, .int .i64 0, .int .i64 0, .slice (vA ((η82 8).1)) y89.length (vC ((η82 8).1))]⟩] rfl (by kernel_rfl) (by kernel_rfl) H54 ⟨?_, ?_, ?_, ?_, ?_, ?_, ?_, ?_, ?_, ?_, ?_, trivial⟩ ?_
            · intro η82 wd103 Δ104 hE100 hR101 H102
              have H102 : Hp w0 ((Δ104 ++ (Bx b40 28 [.slice A51 y45.V.length c53] :: Row K38 (.slice A51 y45.V.length c53) y45.V :: Bx b9 69 [.int .i64 0, .int .i64 0, .int .i64 0, .int .i64 0, .int .i64 0, .int .i64 0, .slice none 0 0] :: Γ))) wd103 := H102
              refine sp_op [(22, .pointer (some ⟨b40, 0, none⟩))] (ac rfl an) ?_
              refine r_pure (.pointer (some ⟨b40, 0, none⟩)) rfl ?_
              exact r_nil (n_lp ⟨_, rfl, undef, rfl, H102⟩)
            · intro η82 wd108 Δ109 hE105 hR106 H107
              have H107 : Hp w0 ((Δ109 ++ (Bx b40 28 [.slice A51 y45.V.length c53] :: Row K38 (.slice A51 y45.V.length c53) y45.V :: Bx b9 69 [.int .i64 0, .int .i64 0, .int .i64 0, .int .i64 0, .int .i64 0, .int .i64 0, .slice none 0 0] :: Γ))) wd108 := H107
              refine sp_op [(64, .pointer (some ⟨b40, 0, none⟩))] (ac (hE105 0 (by decide)) an) ?_
              refine r_pure (.pointer (some ⟨b40, 0, none⟩)) rfl ?_
              exact r_nil (n_lp ⟨_, rfl, undef, rfl, H107⟩)
            · intro η82 wd113 Δ114 hE110 hR111 H112
              have H112 : Hp w0 ((Δ114 ++ (Bx b40 28 [.slice A51 y45.V.length c53] :: Row K38 (.slice A51 y45.V.length c53) y45.V :: Bx b9 69 [.int .i64 0, .int .i64 0, .int .i64 0, .int .i64 0, .int .i64 0, .int .i64 0, .slice none 0 0] :: Γ))) wd113 := H112
              refine sp_op [(65, .pointer (some ⟨b40, 0, none⟩))] (ac (hE110 1 (by decide)) an) ?_
              refine r_fa FA28_0 ⟨b40, 0, none⟩ rfl rfl ?_
              exact r_nil (n_lp ⟨_, rfl, undef, rfl, H112⟩)
            · intro η82 wd118 Δ119 hE115 hR116 H117
              have H117 : Hp w0 ((Δ119 ++ (Bx b40 28 [.slice A51 y45.V.length c53] :: Row K38 (.slice A51 y45.V.length c53) y45.V :: Bx b9 69 [.int .i64 0, .int .i64 0, .int .i64 0, .int .i64 0, .int .i64 0, .int .i64 0, .slice none 0 0] :: Γ))) wd118 := H117
              refine sp_op [(66, .pointer (some ⟨b40, 0, none⟩))] (ac (hE115 2 (by decide)) an) ?_
              refine r_ld1 (.slice A51 y45.V.length c53) LD26 rfl (((H117).tl.g0).cell _ rfl) ?_
              exact r_nil (n_lp ⟨_, rfl, undef, rfl, H117⟩)
            · intro η82 wd123 Δ124 hE120 hR121 H122
              have H122 : Hp w0 ((Δ124 ++ (Bx b40 28 [.slice A51 y45.V.length c53] :: Row K38 (.slice A51 y45.V.length c53) y45.V :: Bx b9 69 [.int .i64 0, .int .i64 0, .int .i64 0, .int .i64 0, .int .i64 0, .int .i64 0, .slice none 0 0] :: Γ))) wd123 := H122
              refine sp_op [(6, .int .i64 year)] (ac rfl an) ?_
              refine r_pure (.int .i64 year) rfl ?_
              exact r_nil (n_lp ⟨_, rfl, undef, rfl, H122⟩)
            · intro η82 wd128 Δ129 hE125 hR126 H127
              have H127 : Hp w0 ((Δ129 ++ (Bx b40 28 [.slice A51 y45.V.length c53] :: Row K38 (.slice A51 y45.V.length c53) y45.V :: Bx b9 69 [.int .i64 0, .int .i64 0, .int .i64 0, .int .i64 0, .int .i64 0, .int .i64 0, .slice none 0 0] :: Γ))) wd128 := H127
              refine sp_op [(19, .int .i64 y18)] (ac rfl an) ?_
              refine r_pure (.int .i64 y18) rfl ?_
              exact r_nil (n_lp ⟨_, rfl, undef, rfl, H127⟩)
            · intro η82 wd133 Δ134 hE130 hR131 H132
              have H132 : Hp w0 ((Δ134 ++ (Bx b40 28 [.slice A51 y45.V.length c53] :: Row K38 (.slice A51 y45.V.length c53) y45.V :: Bx b9 69 [.int .i64 0, .int .i64 0, .int .i64 0, .int .i64 0, .int .i64 0, .int .i64 0, .slice none 0 0] :: Γ))) wd133 := H132
              refine sp_op [(4, .int .i64 cap)] (ac rfl an) ?_
              refine r_pure (.int .i64 cap) rfl ?_
              exact r_nil (n_lp ⟨_, rfl, undef, rfl, H132⟩)
            · intro η82 wd138 Δ139 hE135 hR136 H137
              have H137 : Hp w0 ((Δ139 ++ (Bx b40 28 [.slice A51 y45.V.length c53] :: Row K38 (.slice A51 y45.V.length c53) y45.V :: Bx b9 69 [.int .i64 0, .int .i64 0, .int .i64 0, .int .i64 0, .int .i64 0, .int .i64 0, .slice none 0 0] :: Γ))) wd138 := H137
              refine sp_op [(69, .int .i64 y18), (70, .int .i64 cap)] (ac (hE135 5 (by decide)) (ac (hE135 6 (by decide)) an)) ?_
              refine r_callf Try.call76 (scutageref09_Room_ok y18 cap y83 H137 hy84) ?_
              rintro e143 wd142 ⟨rfl, H145⟩
              refine ⟨_, rfl, ?_⟩
              exact r_nil (n_lp ⟨_, rfl, undef, rfl, H145⟩)
            · intro η82 wd149 Δ150 hE146 hR147 H148
              have H148 : Hp w0 ((Δ150 ++ (Bx b40 28 [.slice A51 y45.V.length c53] :: Row K38 (.slice A51 y45.V.length c53) y45.V :: Bx b9 69 [.int .i64 0, .int .i64 0, .int .i64 0, .int .i64 0, .int .i64 0, .int .i64 0, .slice none 0 0] :: Γ))) wd149 := H148
              refine sp_op [(67, .slice A51 y45.V.length c53), (68, .int .i64 year), (71, .int .i64 y83)] (ac (hE146 3 (by decide)) (ac (hE146 4 (by decide)) (ac (hE146 7 (by decide)) an))) ?_
              refine r_callf Try.call75 (scutageref09_Vector_ok y45.V A51 y45.V.length c53 rfl ((((H148)).tl.g1).cap) (fun _ H => ((H).tl.g1.rd)) year y83 y89 H148 hy90) ?_
              rintro e154 wd153 ⟨A157, n158, c159, rfl, H156⟩
              obtain rfl := (H156.g0).leneq
              refine ⟨_, rfl, ?_⟩
              exact r_nil (n_lp ⟨_, rfl, (.tuple #[.slice A157 y89.length c159]), rfl, H156⟩)
            · intro η82 wd163 Δ164 hE160 hR161 H162
              have H162 : Hp w0 ((Δ164 ++ (Bx b40 28 [.slice A51 y45.V.length c53] :: Row K38 (.slice A51 y45.V.length c53) y45.V :: Bx b9 69 [.int .i64 0, .int .i64 0, .int .i64 0, .int .i64 0, .int .i64 0, .int .i64 0, .slice none 0 0] :: Γ))) wd163 := H162
              refine sp_op [(21, .pointer (some ⟨b29, 0, none⟩))] (ac rfl an) ?_
              refine r_fa FA69_6 ⟨b29, 6, none⟩ rfl rfl ?_
              exact r_nil (n_lp ⟨_, rfl, undef, rfl, H162⟩)
            · intro η82 wd168 Δ169 hE165 hR166 H167
              have H167 : Hp w0 (Bx b29 69 [.int .i64 y18, .int .i64 y44, .int .i64 0, .int .i64 0, .int .i64 0, .int .i64 0, .slice none 0 0] :: (Δ169 ++ (Bx b40 28 [.slice A51 y45.V.length c53] :: Row K38 (.slice A51 y45.V.length c53) y45.V :: Bx b9 69 [.int .i64 0, .int .i64 0, .int .i64 0, .int .i64 0, .int .i64 0, .int .i64 0, .slice none 0 0] :: Γ))) wd168 := H167
              refine sp_op [(72, .slice (vA ((η82 8).1)) y89.length (vC ((η82 8).1))), (73, .pointer (some ⟨b29, 6, none⟩))] (ac (hE165 8 (by decide)) (ac (hE165 9 (by decide)) an)) ?_
              refine r_st1 LD29 rfl rfl rfl H167 rfl ?_
              intro wd171 H170
              exact r_nil (n_lp ⟨_, rfl, (.tuple #[.pointer (some ⟨b29, 0, none⟩), .slice (vA ((η82 8).1)) y89.length (vC ((η82 8).1))]), trivial, H170⟩)
            · intro η82 wd173 hV174 H172
              have H175 : Hp w0 (Row K3 (.slice (vA ((η82 8).1)) y89.length (vC ((η82 8).1))) y89 :: Bx b29 69 [.int .i64 y18, .int .i64 y44, .int .i64 0, .int .i64 0, .int .i64 0, .int .i64 0, .slice (vA ((η82 8).1)) y89.length (vC ((η82 8).1))] :: Bx b40 28 [.slice A51 y45.V.length c53] :: Row K38 (.slice A51 y45.V.length c53) y45.V :: Bx b9 69 [.int .i64 0, .int .i64 0, .int .i64 0, .int .i64 0, .int .i64 0, .int .i64 0, .slice none 0 0] :: Γ) wd173 := H172
              refine n_frame [(7, .int .i64 r_), (16, .pointer (some ⟨b9, 0, none⟩)), (19, .int .i64 y18), (21, .pointer (some ⟨b29, 0, none⟩)), (22, .pointer (some ⟨b40, 0, none⟩))] (ac rfl (ac rfl (ac rfl (ac rfl (ac rfl an))))) ?_
              refine n_sq ?_
              refine st_seq ?_
              refine st_region ?_
              refine r_fa FA69_6 ⟨b29, 6, none⟩ rfl rfl ?_
              refine r_ld1 (.slice (vA ((η82 8).1)) y89.length (vC ((η82 8).1))) LD29 rfl ((H175.g1).cell _ rfl) ?_
              obtain ⟨y176, hy177, hm⟩ := bind_some hm
              refine r_callf Try.call77 (scutageref09_total_ok y89 (vA ((η82 8).1)) y89.length (vC ((η82 8).1)) rfl (((H175).g0).cap) (fun _ H => (H.g0.rd)) y176 H175 hy177) ?_
              rintro e179 wd178 ⟨rfl, H181⟩
              refine ⟨_, rfl, ?_⟩
              refine r_fa FA69_2 ⟨b29, 2, none⟩ rfl rfl ?_
              refine r_st1 LD3 rfl rfl rfl H181.u1 rfl ?_
              intro wd183 H182
              refine r_seq ?_
              refine st_region ?_
              refine r_pure (.pointer (some ⟨b40, 0, none⟩)) rfl ?_
              refine r_fa FA69_6 ⟨b29, 6, none⟩ rfl rfl ?_
              refine r_ld1 (.slice (vA ((η82 8).1)) y89.length (vC ((η82 8).1))) LD29 rfl ((H182.g0).cell _ rfl) ?_
              obtain ⟨⟨y184, y185⟩, hy186, hm⟩ := bind_some hm
              refine r_callf Try.call19 (scutageref09_Losses_Take_ok b40 (⟨y45.V⟩ : scutageref09_Losses) A51 c53 y89 (vA ((η82 8).1)) y89.length (vC ((η82 8).1)) rfl (((H182.u3.u3.d.d).g1).cap) (fun _ H => (H.g1.rd)) y184 y185 H182.u3.u3 hy186) ?_
              rintro e188 wd187 ⟨A191, n192, c193, rfl, H190⟩
              obtain rfl := (H190.g1).leneq
              refine ⟨_, rfl, ?_⟩
              refine r_nil ?_
              refine n_bl ?_
              refine n_cut ⟨(vA ((η82 8).1)), y89.length, (vC ((η82 8).1)), A191, y185.V.length, c193, y176, 0, y89, y185.V, upk (ac rfl (ac rfl (ac rfl (ac rfl (ac rfl an))))), H190.u1.u2.u3.u4, hm⟩
          · refine st_condf hb81 rfl ?_
            refine st_seq ?_
            refine st_region ?_
            refine r_pure (.int .i64 y18) rfl ?_
            refine r_pure (.bool (decide (y18 < 0))) rfl ?_
            refine r_pure (.bool (decide (y18 < 0))) rfl ?_
            refine r_seq ?_
            rcases ite_some hm with ⟨hb194, hm⟩ | ⟨hb194, hm⟩
            · refine st_condt hb194 rfl ?_
              refine st_seq ?_
              refine st_region ?_
              refine r_pure (.int .i64 y18) rfl ?_
              refine r_pure (.int .i64 (w64 (0 - y18))) rfl ?_
              refine r_fa FA69_3 ⟨b29, 3, none⟩ rfl rfl ?_
              refine r_st1 LD3 rfl rfl rfl H54 rfl ?_
              intro wd196 H195
              refine r_seq ?_
              refine st_seq ?_
              refine st_region ?_
              refine r_pure (.pointer (some ⟨b40, 0, none⟩)) rfl ?_
              refine r_pure (.int .i64 year) rfl ?_
              refine r_pure (.int .i64 year) rfl ?_
              refine r_pure (.int .i64 life) rfl ?_
              refine r_pure (.int .i64 (w64 (year + life))) rfl ?_
              refine r_pure (.int .i64 y18) rfl ?_
              refine r_pure (.int .i64 (w64 (0 - y18))) rfl ?_
              obtain ⟨⟨y197, y198⟩, hy199, hm⟩ := bind_some hm
              refine r_callf Try.call14 (scutageref09_Losses_Add_ok b40 (⟨y45.V⟩ : scutageref09_Losses) A51 c53 year (w64 (year + life)) (w64 (0 - y18)) y197 y198 H195.u2.u2 hy199) ?_
              rintro e201 wd200 ⟨A204, n205, c206, rfl, H203⟩
              obtain rfl := (H203.g1).leneq
              refine ⟨_, rfl, ?_⟩
              refine r_pure (.int .i64 y197) rfl ?_
              refine r_seq ?_
              refine st_seq ?_
              refine st_region ?_
              refine r_pure (.int .i64 y197) rfl ?_
              refine r_pure (.bool (y197 != 0)) rfl ?_
              refine r_seq ?_
              rcases ite_some hm with ⟨hb207, hm⟩ | ⟨hb207, hm⟩
              · refine st_condt hb207 rfl ?_
                refine st_seq ?_
                refine st_region ?_
                refine r_build [.int .i64 0, .int .i64 0, .int .i64 0, .int .i64 0, .int .i64 0, .int .i64 0, .slice none 0 0] FL69 (by kernel_rfl) ?_
                refine r_pure (.int .i64 y197) rfl ?_
                refine r_stA [.int .i64 0, .int .i64 0, .int .i64 0, .int .i64 0, .int .i64 0, .int .i64 0, .slice none 0 0] LD69 rfl rfl rfl rfl H203.u3 (Nat.le_of_ble_eq_true rfl) rfl ?_
                intro wd209 H208
                refine r_pure (.pointer none) rfl ?_
                refine r_pure (.int .i64 y197) rfl ?_
                refine r_seq ?_
                have H210 := H208.add (A := Row K3 (.slice none 0 0) []) Row.nil
                obtain ⟨rfl, rfl, rfl⟩ := some_inj3 hm
                refine st_ret3c [.int .i64 0, .int .i64 0, .int .i64 0, .int .i64 0, .int .i64 0, .int .i64 0, .slice none 0 0] rfl rfl (Nat.le_of_ble_eq_true rfl) (Nat.le_of_ble_eq_true rfl) (Nat.le_of_ble_eq_true rfl) rfl LD69 rfl ((H210.g1).cells rfl) rfl rfl ?_
                exact .inl ⟨rfl, none, 0, 0, rfl, H210.u1.d.u1.d.u1.d.u1.d⟩
              · refine st_condf hb207 rfl ?_
                refine st_skip ?_
                refine n_bl ?_
                have H211 := H203.add (A := Row K3 (.slice none 0 0) []) Row.nil
                refine n_cut ⟨none, 0, 0, A204, y198.V.length, c206, 0, w64 (0 - y18), ([] : List Int), y198.V, upk (ac rfl (ac rfl (ac rfl (ac rfl (ac rfl an))))), H211.u1.u2.u3.u3.u4, hm⟩
            · refine st_condf hb194 rfl ?_
              refine st_skip ?_
              refine n_bl ?_
              have H212 := H54.add (A := Row K3 (.slice none 0 0) []) Row.nil
              refine n_cut ⟨none, 0, 0, A51, y45.V.length, c53, 0, 0, ([] : List Int), y45.V, upk (ac rfl (ac rfl (ac rfl (ac rfl (ac rfl an))))), H212.u2.u3.u3.u3.u4, hm⟩
        · rintro ρ w ⟨A60, n61, c62, A64, n65, c66, v58, v59, xs63, xs67, ⟨base, rfl⟩, H68, hm⟩
          obtain rfl := (H68.g1).leneq
          obtain rfl := (H68.g3).leneq
          unfold scutageref09_Tax.j2 at hm
          refine st_seq ?_
          refine st_region ?_
          refine r_pure (.int .i64 y18) rfl ?_
          refine r_fa FA69_2 ⟨b29, 2, none⟩ rfl rfl ?_
          refine r_ld1 (.int .i64 v58) LD3 rfl ((H68.g2).cell _ rfl) ?_
          refine r_pure (.int .i64 (w64 (y18 - v58))) rfl ?_
          refine r_fa FA69_3 ⟨b29, 3, none⟩ rfl rfl ?_
          refine r_ld1 (.int .i64 v59) LD3 rfl ((H68.g2).cell _ rfl) ?_
          refine r_pure (.int .i64 (w64 (w64 (y18 - v58) + v59))) rfl ?_
          refine r_fa FA69_4 ⟨b29, 4, none⟩ rfl rfl ?_
          refine r_st1 LD3 rfl rfl rfl H68.u2 rfl ?_
          intro wd70 H69
          refine r_seq ?_
          refine st_seq ?_
          refine st_region ?_
          refine r_fa FA69_4 ⟨b29, 4, none⟩ rfl rfl ?_
          refine r_ld1 (.int .i64 (w64 (w64 (y18 - v58) + v59))) LD3 rfl ((H69.g0).cell _ rfl) ?_
          refine r_pure (.int .i64 r_) rfl ?_
          obtain ⟨y71, hy72, hm⟩ := bind_some hm
          refine r_callf Try.call78 (scutageref01_Part_ok (w64 (w64 (y18 - v58) + v59)) r_ y71 H69 hy72) ?_
          rintro e74 wd73 ⟨rfl, H76⟩
          refine ⟨_, rfl, ?_⟩
          refine r_fa FA69_5 ⟨b29, 5, none⟩ rfl rfl ?_
          refine r_st1 LD3 rfl rfl rfl H76 rfl ?_
          intro wd78 H77
          refine r_seq ?_
          refine st_seq ?_
          refine st_region ?_
          refine r_ldA [.int .i64 y18, .int .i64 y44, .int .i64 v58, .int .i64 v59, .int .i64 (w64 (w64 (y18 - v58) + v59)), .int .i64 y71, .slice A60 xs63.length c62] LD69 rfl rfl ((H77.g0).cells rfl) ?_
          refine r_pure (.pointer (some ⟨b40, 0, none⟩)) rfl ?_
          refine r_stA [.int .i64 y18, .int .i64 y44, .int .i64 v58, .int .i64 v59, .int .i64 (w64 (w64 (y18 - v58) + v59)), .int .i64 y71, .slice A60 xs63.length c62] LD69 rfl rfl rfl rfl H77.u1 (Nat.le_of_ble_eq_true rfl) rfl ?_
          intro wd80 H79
          refine r_pure (.pointer (some ⟨b40, 0, none⟩)) rfl ?_
          refine r_pure (.int .i64 0) rfl ?_
          refine r_seq ?_
          obtain ⟨rfl, rfl, rfl⟩ := some_inj3 hm
          refine st_ret3c [.int .i64 y18, .int .i64 y44, .int .i64 v58, .int .i64 v59, .int .i64 (w64 (w64 (y18 - v58) + v59)), .int .i64 y71, .slice A60 xs63.length c62] rfl rfl (Nat.le_of_ble_eq_true rfl) (Nat.le_of_ble_eq_true rfl) (Nat.le_of_ble_eq_true rfl) rfl LD69 rfl ((H79.g0).cells rfl) rfl rfl ?_
          exact .inr ⟨(⟨xs67⟩ : scutageref09_Losses), rfl, A60, xs63.length, c62, b40, A64, xs67.length, c66, rfl, H79.d.d.u1.u2.u2⟩

set_option maxHeartbeats 2000000 in
theorem scutagekeep_Same_int_ok {w0 w : World} {Γ : List (World → Prop)} (a_ : List Int) (A1 : Option Addr) (n6 c2 : Nat) (hn5 : n6 = a_.length) (hc3 : a_.length ≤ c2) (hv4 : ∀ u, Hp w0 Γ u → SlR K3 A1 a_ u) (b_ : List Int) (A7 : Option Addr) (n12 c8 : Nat) (hn11 : n12 = b_.length) (hc9 : b_.length ≤ c8) (hv10 : ∀ u, Hp w0 Γ u → SlR K3 A7 b_ u) (r0_ : Bool) (H : Hp w0 (Γ) w) (hm : scutagekeep_Same_int a_ b_ = some r0_) : Calls Try.prog 20 #[.slice A1 n6 c2, .slice A7 n12 c8] w (fun e w => e = .returned (.bool r0_) ∧ Hp w0 (Γ) w) := by
  subst hn5
  subst hn11
  unfold scutagekeep_Same_int at hm
  refine st_enter Try.func20 rfl Try.ntmps20 (Nat.le_of_ble_eq_true rfl) ?_
  refine st_seq ?_
  refine st_region ?_
  refine r_pure (.bool false) rfl ?_
  refine r_seq ?_
  refine st_seq ?_
  refine st_seq ?_
  refine st_region ?_
  refine r_pure (.slice A1 a_.length c2) rfl ?_
  refine r_len Try.underlying29 rfl ?_
  refine r_pure (.slice A7 b_.length c8) rfl ?_
  refine r_len Try.underlying29 rfl ?_
  refine r_pure (.bool ((a_.length : Int) != (b_.length : Int))) rfl ?_
  refine r_seq ?_
  rcases ite_some hm with ⟨hb13, hm⟩ | ⟨hb13, hm⟩
  · refine st_condt hb13 rfl ?_
    refine st_seq ?_
    refine st_region ?_
    refine r_pure (.bool false) rfl ?_
    refine r_seq ?_
    have hq_ := Option.some.inj hm
    subst hq_
    refine st_ret1 rfl rfl (Nat.le_of_ble_eq_true rfl) rfl ?_
    exact ⟨rfl, H⟩
  · refine st_condf hb13 rfl ?_
    refine st_skip ?_
    refine n_sq ?_
    refine st_seq ?_
    refine st_seq ?_
    refine st_region ?_
    refine r_pure (.int .i64 0) rfl ?_
    refine r_seq ?_
    refine st_block ?_
    obtain ⟨tl18, hl19, hm17⟩ := bind_some hm
    refine st_loopF (scutagekeep_Same_int.l1 a_ b_) (fun s ρ w => ∃ v15 : Int, v15 = s ∧ (∃ base, ρ = updl base [(0, .slice A1 a_.length c2), (1, .slice A7 b_.length c8), (5, .int .i64 v15)]) ∧ Hp w0 (Γ) w) hl19 (fun _ => rfl) ⟨0, rfl, upk (ac rfl (ac rfl (ac rfl an))), H⟩ ?_
    rintro fuel25 IH27 s ρ w ⟨v15, rfl, ⟨base, rfl⟩, H16⟩ hm
    rw [scutagekeep_Same_int.l1] at hm
    refine st_seq ?_
    refine st_seq ?_
    refine st_region ?_
    refine r_pure (.int .i64 v15) rfl ?_
    refine r_pure (.slice A1 a_.length c2) rfl ?_
    refine r_len Try.underlying29 rfl ?_
    refine r_pure (.bool (decide (v15 < (a_.length : Int)))) rfl ?_
    refine r_seq ?_
    rcases ite_some hm with ⟨hb28, hm⟩ | ⟨hb28, hm⟩
    · refine st_condt hb28 rfl ?_
      refine st_skip ?_
      refine n_sq ?_
      refine st_seq ?_
      refine st_block ?_
      refine st_seq ?_
      obtain ⟨⟨h030, h131⟩, hm⟩ := gd_some hm
      have hj32 := rd_get h030 h131
      obtain ⟨⟨h034, h135⟩, hm⟩ := gd_some hm
      have hj36 := rd_get h034 h135
      refine Flow.run' [[], [], [0, 1], [0, 1, 2], [], [], [4, 5], [4, 5, 6], [0, 1, 2, 3, 4, 5, 6, 7]] [(17, 0), (18, 1), (19, 2), (20, 3), (21, 4), (22, 5), (23, 6), (24, 7), (25, 8)] [(fun η29 v => v.1 = .slice A1 a_.length c2), (fun η29 v => v.1 = .int .i64 v15), (fun η29 v => v.1 = .pointer (some ((oA A1).add (Int.toNat v15 * 1)))), (fun η29 v => v.1 = .int .i64 (rd a_ v15)), (fun η29 v => v.1 = .slice A7 b_.length c8), (fun η29 v => v.1 = .int .i64 v15), (fun η29 v => v.1 = .pointer (some ((oA A7).add (Int.toNat v15 * 1)))), (fun η29 v => v.1 = .int .i64 (rd b_ v15)), (fun η29 v => v.1 = .bool ((rd a_ v15) != (rd b_ v15)))] [] rfl (by kernel_rfl) (by kernel_rfl) H16 ⟨?_, ?_, ?_, ?_, ?_, ?_, ?_, ?_, ?_, trivial⟩ ?_
      · intro η29 wd41 Δ42 hE38 hR39 H40
        have H40 : Hp w0 ((Δ42 ++ Γ)) wd41 := H40
        refine sp_op [(0, .slice A1 a_.length c2)] (ac rfl an) ?_
        refine r_pure (.slice A1 a_.length c2) rfl ?_
        exact r_nil (n_lp ⟨_, rfl, undef, rfl, H40⟩)
      · intro η29 wd46 Δ47 hE43 hR44 H45
        have H45 : Hp w0 ((Δ47 ++ Γ)) wd46 := H45
        refine sp_op [(5, .int .i64 v15)] (ac rfl an) ?_
        refine r_pure (.int .i64 v15) rfl ?_
        exact r_nil (n_lp ⟨_, rfl, undef, rfl, H45⟩)
      · intro η29 wd51 Δ52 hE48 hR49 H50
        have H50 : Hp w0 ((Δ52 ++ Γ)) wd51 := H50
        refine sp_op [(17, .slice A1 a_.length c2), (18, .int .i64 v15)] (ac (hE48 0 (by decide)) (ac (hE48 1 (by decide)) an)) ?_
        have hA56 := (hv4 _ (H50).tl).adO hj32
        refine r_ix IX29 rfl rfl hA56 h030 h131 ?_
        exact r_nil (n_lp ⟨_, rfl, undef, rfl, H50⟩)
      · intro η29 wd60 Δ61 hE57 hR58 H59
        have H59 : Hp w0 ((Δ61 ++ Γ)) wd60 := H59
        refine sp_op [(19, .pointer (some ((oA A1).add (Int.toNat v15 * 1))))] (ac (hE57 2 (by decide)) an) ?_
        have hA62 := (hv4 _ (H59).tl).adO hj32
        refine r_ld1 (.int .i64 (rd a_ v15)) LD3 rfl ((hv4 _ (H59).tl).c0A hA62 hj32 _ rfl) ?_
        exact r_nil (n_lp ⟨_, rfl, undef, rfl, H59⟩)
      · intro η29 wd66 Δ67 hE63 hR64 H65
        have H65 : Hp w0 ((Δ67 ++ Γ)) wd66 := H65
        refine sp_op [(1, .slice A7 b_.length c8)] (ac rfl an) ?_
        refine r_pure (.slice A7 b_.length c8) rfl ?_
        exact r_nil (n_lp ⟨_, rfl, undef, rfl, H65⟩)
      · intro η29 wd71 Δ72 hE68 hR69 H70
        have H70 : Hp w0 ((Δ72 ++ Γ)) wd71 := H70
        refine sp_op [(5, .int .i64 v15)] (ac rfl an) ?_
        refine r_pure (.int .i64 v15) rfl ?_
        exact r_nil (n_lp ⟨_, rfl, undef, rfl, H70⟩)
      · intro η29 wd76 Δ77 hE73 hR74 H75
        have H75 : Hp w0 ((Δ77 ++ Γ)) wd76 := H75
        refine sp_op [(21, .slice A7 b_.length c8), (22, .int .i64 v15)] (ac (hE73 4 (by decide)) (ac (hE73 5 (by decide)) an)) ?_
        have hA81 := (hv10 _ (H75).tl).adO hj36
        refine r_ix IX29 rfl rfl hA81 h034 h135 ?_
        exact r_nil (n_lp ⟨_, rfl, undef, rfl, H75⟩)
      · intro η29 wd85 Δ86 hE82 hR83 H84
        have H84 : Hp w0 ((Δ86 ++ Γ)) wd85 := H84
        refine sp_op [(23, .pointer (some ((oA A7).add (Int.toNat v15 * 1))))] (ac (hE82 6 (by decide)) an) ?_
        have hA87 := (hv10 _ (H84).tl).adO hj36
        refine r_ld1 (.int .i64 (rd b_ v15)) LD3 rfl ((hv10 _ (H84).tl).c0A hA87 hj36 _ rfl) ?_
        exact r_nil (n_lp ⟨_, rfl, undef, rfl, H84⟩)
      · intro η29 wd91 Δ92 hE88 hR89 H90
        have H90 : Hp w0 ((Δ92 ++ Γ)) wd91 := H90
        refine sp_op [(20, .int .i64 (rd a_ v15)), (24, .int .i64 (rd b_ v15))] (ac (hE88 3 (by decide)) (ac (hE88 7 (by decide)) an)) ?_
        refine r_pure (.bool ((rd a_ v15) != (rd b_ v15))) rfl ?_
        exact r_nil (n_lp ⟨_, rfl, undef, rfl, H90⟩)
      · intro η29 wd94 hV95 H93
        have H96 : Hp w0 (Γ) wd94 := H93
        refine n_frame [(0, .slice A1 a_.length c2), (1, .slice A7 b_.length c8), (5, .int .i64 v15), (25, .bool ((rd a_ v15) != (rd b_ v15)))] (ac rfl (ac rfl (ac rfl (ac (hV95 8 rfl) an)))) ?_
        refine n_sq ?_
        rcases ite_some hm with ⟨hb97, hm⟩ | ⟨hb97, hm⟩
        · refine st_condt hb97 rfl ?_
          refine st_seq ?_
          refine st_region ?_
          refine r_pure (.bool false) rfl ?_
          refine r_seq ?_
          have hq_ := Option.some.inj hm
          subst hq_
          have hq_ := Option.some.inj (show some (false : Bool) = some r0_ from hm17)
          subst hq_
          refine st_ret1 rfl rfl (Nat.le_of_ble_eq_true rfl) rfl ?_
          exact ⟨rfl, H96⟩
        · refine st_condf hb97 rfl ?_
          refine st_skip ?_
          refine n_bl ?_
          refine n_sq ?_
          refine st_region ?_
          refine r_pure (.int .i64 v15) rfl ?_
          refine r_pure (.int .i64 (w64 (v15 + 1))) rfl ?_
          refine r_pure (.int .i64 (w64 (v15 + 1))) rfl ?_
          refine r_nil ?_
          refine n_round (IH27 _ _ _ ⟨w64 (v15 + 1), rfl, upk (ac rfl (ac rfl (ac rfl an))), H96⟩ hm)
    · refine st_condf hb28 rfl ?_
      have hq_ := Option.some.inj hm
      refine st_exit rfl ?_
      subst hq_
      refine n_sq ?_
      refine st_seq ?_
      refine st_region ?_
      refine r_pure (.bool true) rfl ?_
      refine r_seq ?_
      have hq_ := Option.some.inj hm17
      subst hq_
      refine st_ret1 rfl rfl (Nat.le_of_ble_eq_true rfl) rfl ?_
      exact ⟨rfl, H16⟩

set_option maxHeartbeats 2000000 in
theorem scutagelaw15_Same_ok {w0 w : World} {Γ : List (World → Prop)} (a_ : current_Result) (A1 : Option Addr) (n6 c2 : Nat) (hn5 : n6 = a_.Vector.length) (hc3 : a_.Vector.length ≤ c2) (hv4 : ∀ u, Hp w0 Γ u → SlR K3 A1 a_.Vector u) (b_ : scutageref09_Result) (A7 : Option Addr) (n12 c8 : Nat) (hn11 : n12 = b_.Vector.length) (hc9 : b_.Vector.length ≤ c8) (hv10 : ∀ u, Hp w0 Γ u → SlR K3 A7 b_.Vector u) (r0_ : Bool) (H : Hp w0 (Γ) w) (hm : scutagelaw15_Same a_ b_ = some r0_) : Calls Try.prog 42 #[.agg #[.int .i64 a_.Income, .int .i64 a_.Expired, .int .i64 a_.Used, .int .i64 a_.New, .int .i64 a_.Taxable, .int .i64 a_.Tax, .slice A1 n6 c2], .agg #[.int .i64 b_.Income, .int .i64 b_.Expired, .int .i64 b_.Used, .int .i64 b_.New, .int .i64 b_.Taxable, .int .i64 b_.Tax, .slice A7 n12 c8]] w (fun e w => e = .returned (.bool r0_) ∧ Hp w0 (Γ) w) := by
  subst hn5
  subst hn11
  unfold scutagelaw15_Same at hm
  refine st_enter Try.func42 rfl Try.ntmps42 (Nat.le_of_ble_eq_true rfl) ?_
  refine st_seq ?_
  refine st_region ?_
  refine r_box [.int .i64 a_.Income, .int .i64 a_.Expired, .int .i64 a_.Used, .int .i64 a_.New, .int .i64 a_.Taxable, .int .i64 a_.Tax, .slice A1 a_.Vector.length c2] H rfl ?_
  intro b13 wd15 H14
  refine r_box [.int .i64 b_.Income, .int .i64 b_.Expired, .int .i64 b_.Used, .int .i64 b_.New, .int .i64 b_.Taxable, .int .i64 b_.Tax, .slice A7 b_.Vector.length c8] H14 rfl ?_
  intro b16 wd18 H17
  refine r_pure (.bool false) rfl ?_
  refine r_seq ?_
  refine st_cut (fun ρ w => ∃ q19 : Bool, (∃ base, ρ = updl base [(4, .bool q19)]) ∧ Hp w0 (Γ) w ∧ scutagelaw15_Same.j1 q19 = some r0_) ?_ ?_
  · refine st_region ?_
    refine r_fa FA59_0 ⟨b13, 0, none⟩ rfl rfl ?_
    refine r_ld1 (.int .i64 a_.Income) LD3 rfl ((H17.g1).cell _ rfl) ?_
    refine r_fa FA69_0 ⟨b16, 0, none⟩ rfl rfl ?_
    refine r_ld1 (.int .i64 b_.Income) LD3 rfl ((H17.g0).cell _ rfl) ?_
    refine r_pure (.bool (a_.Income == b_.Income)) rfl ?_
    refine r_pure (.bool (a_.Income == b_.Income)) rfl ?_
    rcases ite_some hm with ⟨hb21, hm⟩ | ⟨hb21, hm⟩
    · refine r_fa FA59_1 ⟨b13, 1, none⟩ rfl rfl ?_ (wn_t rfl rfl (by decide) rfl hb21)
      refine r_ld1 (.int .i64 a_.Expired) LD3 rfl ((H17.g1).cell _ rfl) ?_ (wn_t rfl rfl (by decide) rfl hb21)
      refine r_fa FA69_1 ⟨b16, 1, none⟩ rfl rfl ?_ (wn_t rfl rfl (by decide) rfl hb21)
      refine r_ld1 (.int .i64 b_.Expired) LD3 rfl ((H17.g0).cell _ rfl) ?_ (wn_t rfl rfl (by decide) rfl hb21)
      refine r_pure (.bool (a_.Expired == b_.Expired)) rfl ?_ (wn_t rfl rfl (by decide) rfl hb21)
      refine r_pick_t (.bool (a_.Expired == b_.Expired)) hb21 rfl rfl ?_
      refine r_pure (.bool (a_.Expired == b_.Expired)) rfl ?_
      rcases ite_some hm with ⟨hb22, hm⟩ | ⟨hb22, hm⟩
      · refine r_fa FA59_2 ⟨b13, 2, none⟩ rfl rfl ?_ (wn_t rfl rfl (by decide) rfl hb22)
        refine r_ld1 (.int .i64 a_.Used) LD3 rfl ((H17.g1).cell _ rfl) ?_ (wn_t rfl rfl (by decide) rfl hb22)
        refine r_fa FA69_2 ⟨b16, 2, none⟩ rfl rfl ?_ (wn_t rfl rfl (by decide) rfl hb22)
        refine r_ld1 (.int .i64 b_.Used) LD3 rfl ((H17.g0).cell _ rfl) ?_ (wn_t rfl rfl (by decide) rfl hb22)
        refine r_pure (.bool (a_.Used == b_.Used)) rfl ?_ (wn_t rfl rfl (by decide) rfl hb22)
        refine r_pick_t (.bool (a_.Used == b_.Used)) hb22 rfl rfl ?_
        refine r_pure (.bool (a_.Used == b_.Used)) rfl ?_
        rcases ite_some hm with ⟨hb23, hm⟩ | ⟨hb23, hm⟩
        · refine r_fa FA59_3 ⟨b13, 3, none⟩ rfl rfl ?_ (wn_t rfl rfl (by decide) rfl hb23)
          refine r_ld1 (.int .i64 a_.New) LD3 rfl ((H17.g1).cell _ rfl) ?_ (wn_t rfl rfl (by decide) rfl hb23)
          refine r_fa FA69_3 ⟨b16, 3, none⟩ rfl rfl ?_ (wn_t rfl rfl (by decide) rfl hb23)
          refine r_ld1 (.int .i64 b_.New) LD3 rfl ((H17.g0).cell _ rfl) ?_ (wn_t rfl rfl (by decide) rfl hb23)
          refine r_pure (.bool (a_.New == b_.New)) rfl ?_ (wn_t rfl rfl (by decide) rfl hb23)
          refine r_pick_t (.bool (a_.New == b_.New)) hb23 rfl rfl ?_
          refine r_pure (.bool (a_.New == b_.New)) rfl ?_
          rcases ite_some hm with ⟨hb24, hm⟩ | ⟨hb24, hm⟩
          · refine r_fa FA59_4 ⟨b13, 4, none⟩ rfl rfl ?_ (wn_t rfl rfl (by decide) rfl hb24)
            refine r_ld1 (.int .i64 a_.Taxable) LD3 rfl ((H17.g1).cell _ rfl) ?_ (wn_t rfl rfl (by decide) rfl hb24)
            refine r_fa FA69_4 ⟨b16, 4, none⟩ rfl rfl ?_ (wn_t rfl rfl (by decide) rfl hb24)
            refine r_ld1 (.int .i64 b_.Taxable) LD3 rfl ((H17.g0).cell _ rfl) ?_ (wn_t rfl rfl (by decide) rfl hb24)
            refine r_pure (.bool (a_.Taxable == b_.Taxable)) rfl ?_ (wn_t rfl rfl (by decide) rfl hb24)
            refine r_pick_t (.bool (a_.Taxable == b_.Taxable)) hb24 rfl rfl ?_
            refine r_pure (.bool (a_.Taxable == b_.Taxable)) rfl ?_
            rcases ite_some hm with ⟨hb25, hm⟩ | ⟨hb25, hm⟩
            · refine r_fa FA59_5 ⟨b13, 5, none⟩ rfl rfl ?_ (wn_t rfl rfl (by decide) rfl hb25)
              refine r_ld1 (.int .i64 a_.Tax) LD3 rfl ((H17.g1).cell _ rfl) ?_ (wn_t rfl rfl (by decide) rfl hb25)
              refine r_fa FA69_5 ⟨b16, 5, none⟩ rfl rfl ?_ (wn_t rfl rfl (by decide) rfl hb25)
              refine r_ld1 (.int .i64 b_.Tax) LD3 rfl ((H17.g0).cell _ rfl) ?_ (wn_t rfl rfl (by decide) rfl hb25)
              refine r_pure (.bool (a_.Tax == b_.Tax)) rfl ?_ (wn_t rfl rfl (by decide) rfl hb25)
              refine r_pick_t (.bool (a_.Tax == b_.Tax)) hb25 rfl rfl ?_
              refine r_pure (.bool (a_.Tax == b_.Tax)) rfl ?_
              rcases ite_some hm with ⟨hb26, hm⟩ | ⟨hb26, hm⟩
              · refine r_fa FA59_6 ⟨b13, 6, none⟩ rfl rfl ?_ (wn_t rfl rfl (by decide) rfl hb26)
                refine r_ld1 (.slice A1 a_.Vector.length c2) LD29 rfl ((H17.g1).cell _ rfl) ?_ (wn_t rfl rfl (by decide) rfl hb26)
                refine r_fa FA69_6 ⟨b16, 6, none⟩ rfl rfl ?_ (wn_t rfl rfl (by decide) rfl hb26)
                refine r_ld1 (.slice A7 b_.Vector.length c8) LD29 rfl ((H17.g0).cell _ rfl) ?_ (wn_t rfl rfl (by decide) rfl hb26)
                obtain ⟨y27, hy28, hm⟩ := bind_some hm
                refine r_callf Try.call20 (scutagekeep_Same_int_ok a_.Vector A1 a_.Vector.length c2 rfl hc3 (fun _ H => (hv4 _ H.d.d)) b_.Vector A7 b_.Vector.length c8 rfl hc9 (fun _ H => (hv10 _ H.d.d)) y27 H17 hy28) ?_ (wn_t rfl rfl (by decide) rfl hb26)
                rintro e30 wd29 ⟨rfl, H32⟩
                refine ⟨_, rfl, ?_⟩
                refine r_pick_t (.bool y27) hb26 rfl rfl ?_
                refine r_pure (.bool y27) rfl ?_
                refine r_nil ?_
                refine n_cut ⟨y27, upk (ac rfl an), H32.d.d, hm⟩
              · refine r_not (wn_f rfl rfl (by decide) rfl hb26) ?_
                refine r_not (wn_f rfl rfl (by decide) rfl hb26) ?_
                refine r_not (wn_f rfl rfl (by decide) rfl hb26) ?_
                refine r_not (wn_f rfl rfl (by decide) rfl hb26) ?_
                refine r_not (wn_f rfl rfl (by decide) rfl hb26) ?_
                refine r_pick_f (.bool false) hb26 rfl rfl ?_
                refine r_pure (.bool false) rfl ?_
                refine r_nil ?_
                refine n_cut ⟨false, upk (ac rfl an), H17.d.d, hm⟩
            · refine r_not (wn_f rfl rfl (by decide) rfl hb25) ?_
              refine r_not (wn_f rfl rfl (by decide) rfl hb25) ?_
              refine r_not (wn_f rfl rfl (by decide) rfl hb25) ?_
              refine r_not (wn_f rfl rfl (by decide) rfl hb25) ?_
              refine r_not (wn_f rfl rfl (by decide) rfl hb25) ?_
              refine r_pick_f (.bool false) hb25 rfl rfl ?_
              refine r_pure (.bool false) rfl ?_
              refine r_not (wn_f rfl rfl (by decide) rfl rfl) ?_
              refine r_not (wn_f rfl rfl (by decide) rfl rfl) ?_
              refine r_not (wn_f rfl rfl (by decide) rfl rfl) ?_
              refine r_not (wn_f rfl rfl (by decide) rfl rfl) ?_
              refine r_not (wn_f rfl rfl (by decide) rfl rfl) ?_
              refine r_pick_f (.bool false) rfl rfl rfl ?_
              refine r_pure (.bool false) rfl ?_
              refine r_nil ?_
              refine n_cut ⟨false, upk (ac rfl an), H17.d.d, hm⟩
          · refine r_not (wn_f rfl rfl (by decide) rfl hb24) ?_
            refine r_not (wn_f rfl rfl (by decide) rfl hb24) ?_
            refine r_not (wn_f rfl rfl (by decide) rfl hb24) ?_
            refine r_not (wn_f rfl rfl (by decide) rfl hb24) ?_
            refine r_not (wn_f rfl rfl (by decide) rfl hb24) ?_
            refine r_pick_f (.bool false) hb24 rfl rfl ?_
            refine r_pure (.bool false) rfl ?_
            refine r_not (wn_f rfl rfl (by decide) rfl rfl) ?_
            refine r_not (wn_f rfl rfl (by decide) rfl rfl) ?_
            refine r_not (wn_f rfl rfl (by decide) rfl rfl) ?_
            refine r_not (wn_f rfl rfl (by decide) rfl rfl) ?_
            refine r_not (wn_f rfl rfl (by decide) rfl rfl) ?_
            refine r_pick_f (.bool false) rfl rfl rfl ?_
            refine r_pure (.bool false) rfl ?_
            refine r_not (wn_f rfl rfl (by decide) rfl rfl) ?_
            refine r_not (wn_f rfl rfl (by decide) rfl rfl) ?_
            refine r_not (wn_f rfl rfl (by decide) rfl rfl) ?_
            refine r_not (wn_f rfl rfl (by decide) rfl rfl) ?_
            refine r_not (wn_f rfl rfl (by decide) rfl rfl) ?_
            refine r_pick_f (.bool false) rfl rfl rfl ?_
            refine r_pure (.bool false) rfl ?_
            refine r_nil ?_
            refine n_cut ⟨false, upk (ac rfl an), H17.d.d, hm⟩
        · refine r_not (wn_f rfl rfl (by decide) rfl hb23) ?_
          refine r_not (wn_f rfl rfl (by decide) rfl hb23) ?_
          refine r_not (wn_f rfl rfl (by decide) rfl hb23) ?_
          refine r_not (wn_f rfl rfl (by decide) rfl hb23) ?_
          refine r_not (wn_f rfl rfl (by decide) rfl hb23) ?_
          refine r_pick_f (.bool false) hb23 rfl rfl ?_
          refine r_pure (.bool false) rfl ?_
          refine r_not (wn_f rfl rfl (by decide) rfl rfl) ?_
          refine r_not (wn_f rfl rfl (by decide) rfl rfl) ?_
          refine r_not (wn_f rfl rfl (by decide) rfl rfl) ?_
          refine r_not (wn_f rfl rfl (by decide) rfl rfl) ?_
          refine r_not (wn_f rfl rfl (by decide) rfl rfl) ?_
          refine r_pick_f (.bool false) rfl rfl rfl ?_
          refine r_pure (.bool false) rfl ?_
          refine r_not (wn_f rfl rfl (by decide) rfl rfl) ?_
          refine r_not (wn_f rfl rfl (by decide) rfl rfl) ?_
          refine r_not (wn_f rfl rfl (by decide) rfl rfl) ?_
          refine r_not (wn_f rfl rfl (by decide) rfl rfl) ?_
          refine r_not (wn_f rfl rfl (by decide) rfl rfl) ?_
          refine r_pick_f (.bool false) rfl rfl rfl ?_
          refine r_pure (.bool false) rfl ?_
          refine r_not (wn_f rfl rfl (by decide) rfl rfl) ?_
          refine r_not (wn_f rfl rfl (by decide) rfl rfl) ?_
          refine r_not (wn_f rfl rfl (by decide) rfl rfl) ?_
          refine r_not (wn_f rfl rfl (by decide) rfl rfl) ?_
          refine r_not (wn_f rfl rfl (by decide) rfl rfl) ?_
          refine r_pick_f (.bool false) rfl rfl rfl ?_
          refine r_pure (.bool false) rfl ?_
          refine r_nil ?_
          refine n_cut ⟨false, upk (ac rfl an), H17.d.d, hm⟩
      · refine r_not (wn_f rfl rfl (by decide) rfl hb22) ?_
        refine r_not (wn_f rfl rfl (by decide) rfl hb22) ?_
        refine r_not (wn_f rfl rfl (by decide) rfl hb22) ?_
        refine r_not (wn_f rfl rfl (by decide) rfl hb22) ?_
        refine r_not (wn_f rfl rfl (by decide) rfl hb22) ?_
        refine r_pick_f (.bool false) hb22 rfl rfl ?_
        refine r_pure (.bool false) rfl ?_
        refine r_not (wn_f rfl rfl (by decide) rfl rfl) ?_
        refine r_not (wn_f rfl rfl (by decide) rfl rfl) ?_
        refine r_not (wn_f rfl rfl (by decide) rfl rfl) ?_
        refine r_not (wn_f rfl rfl (by decide) rfl rfl) ?_
        refine r_not (wn_f rfl rfl (by decide) rfl rfl) ?_
        refine r_pick_f (.bool false) rfl rfl rfl ?_
        refine r_pure (.bool false) rfl ?_
        refine r_not (wn_f rfl rfl (by decide) rfl rfl) ?_
        refine r_not (wn_f rfl rfl (by decide) rfl rfl) ?_
        refine r_not (wn_f rfl rfl (by decide) rfl rfl) ?_
        refine r_not (wn_f rfl rfl (by decide) rfl rfl) ?_
        refine r_not (wn_f rfl rfl (by decide) rfl rfl) ?_
        refine r_pick_f (.bool false) rfl rfl rfl ?_
        refine r_pure (.bool false) rfl ?_
        refine r_not (wn_f rfl rfl (by decide) rfl rfl) ?_
        refine r_not (wn_f rfl rfl (by decide) rfl rfl) ?_
        refine r_not (wn_f rfl rfl (by decide) rfl rfl) ?_
        refine r_not (wn_f rfl rfl (by decide) rfl rfl) ?_
        refine r_not (wn_f rfl rfl (by decide) rfl rfl) ?_
        refine r_pick_f (.bool false) rfl rfl rfl ?_
        refine r_pure (.bool false) rfl ?_
        refine r_not (wn_f rfl rfl (by decide) rfl rfl) ?_
        refine r_not (wn_f rfl rfl (by decide) rfl rfl) ?_
        refine r_not (wn_f rfl rfl (by decide) rfl rfl) ?_
        refine r_not (wn_f rfl rfl (by decide) rfl rfl) ?_
        refine r_not (wn_f rfl rfl (by decide) rfl rfl) ?_
        refine r_pick_f (.bool false) rfl rfl rfl ?_
        refine r_pure (.bool false) rfl ?_
        refine r_nil ?_
        refine n_cut ⟨false, upk (ac rfl an), H17.d.d, hm⟩
    · refine r_not (wn_f rfl rfl (by decide) rfl hb21) ?_
      refine r_not (wn_f rfl rfl (by decide) rfl hb21) ?_
      refine r_not (wn_f rfl rfl (by decide) rfl hb21) ?_
      refine r_not (wn_f rfl rfl (by decide) rfl hb21) ?_
      refine r_not (wn_f rfl rfl (by decide) rfl hb21) ?_
      refine r_pick_f (.bool false) hb21 rfl rfl ?_
      refine r_pure (.bool false) rfl ?_
      refine r_not (wn_f rfl rfl (by decide) rfl rfl) ?_
      refine r_not (wn_f rfl rfl (by decide) rfl rfl) ?_
      refine r_not (wn_f rfl rfl (by decide) rfl rfl) ?_
      refine r_not (wn_f rfl rfl (by decide) rfl rfl) ?_
      refine r_not (wn_f rfl rfl (by decide) rfl rfl) ?_
      refine r_pick_f (.bool false) rfl rfl rfl ?_
      refine r_pure (.bool false) rfl ?_
      refine r_not (wn_f rfl rfl (by decide) rfl rfl) ?_
      refine r_not (wn_f rfl rfl (by decide) rfl rfl) ?_
      refine r_not (wn_f rfl rfl (by decide) rfl rfl) ?_
      refine r_not (wn_f rfl rfl (by decide) rfl rfl) ?_
      refine r_not (wn_f rfl rfl (by decide) rfl rfl) ?_
      refine r_pick_f (.bool false) rfl rfl rfl ?_
      refine r_pure (.bool false) rfl ?_
      refine r_not (wn_f rfl rfl (by decide) rfl rfl) ?_
      refine r_not (wn_f rfl rfl (by decide) rfl rfl) ?_
      refine r_not (wn_f rfl rfl (by decide) rfl rfl) ?_
      refine r_not (wn_f rfl rfl (by decide) rfl rfl) ?_
      refine r_not (wn_f rfl rfl (by decide) rfl rfl) ?_
      refine r_pick_f (.bool false) rfl rfl rfl ?_
      refine r_pure (.bool false) rfl ?_
      refine r_not (wn_f rfl rfl (by decide) rfl rfl) ?_
      refine r_not (wn_f rfl rfl (by decide) rfl rfl) ?_
      refine r_not (wn_f rfl rfl (by decide) rfl rfl) ?_
      refine r_not (wn_f rfl rfl (by decide) rfl rfl) ?_
      refine r_not (wn_f rfl rfl (by decide) rfl rfl) ?_
      refine r_pick_f (.bool false) rfl rfl rfl ?_
      refine r_pure (.bool false) rfl ?_
      refine r_not (wn_f rfl rfl (by decide) rfl rfl) ?_
      refine r_not (wn_f rfl rfl (by decide) rfl rfl) ?_
      refine r_not (wn_f rfl rfl (by decide) rfl rfl) ?_
      refine r_not (wn_f rfl rfl (by decide) rfl rfl) ?_
      refine r_not (wn_f rfl rfl (by decide) rfl rfl) ?_
      refine r_pick_f (.bool false) rfl rfl rfl ?_
      refine r_pure (.bool false) rfl ?_
      refine r_nil ?_
      refine n_cut ⟨false, upk (ac rfl an), H17.d.d, hm⟩
  · rintro ρ w ⟨q19, ⟨base, rfl⟩, H20, hm⟩
    unfold scutagelaw15_Same.j1 at hm
    have hq_ := Option.some.inj hm
    subst hq_
    refine st_ret1 rfl rfl (Nat.le_of_ble_eq_true rfl) rfl ?_
    exact ⟨rfl, H20⟩

set_option maxHeartbeats 2000000 in
theorem scutagekeep_Same_api_Vintage_ok {w0 w : World} {Γ : List (World → Prop)} (a_ : List api_Vintage) (A1 : Option Addr) (n6 c2 : Nat) (hn5 : n6 = a_.length) (hc3 : a_.length ≤ c2) (hv4 : ∀ u, Hp w0 Γ u → SlR K38 A1 a_ u) (b_ : List api_Vintage) (A7 : Option Addr) (n12 c8 : Nat) (hn11 : n12 = b_.length) (hc9 : b_.length ≤ c8) (hv10 : ∀ u, Hp w0 Γ u → SlR K38 A7 b_ u) (r0_ : Bool) (H : Hp w0 (Γ) w) (hm : scutagekeep_Same_api_Vintage a_ b_ = some r0_) : Calls Try.prog 21 #[.slice A1 n6 c2, .slice A7 n12 c8] w (fun e w => e = .returned (.bool r0_) ∧ Hp w0 (Γ) w) := by
  subst hn5
  subst hn11
  unfold scutagekeep_Same_api_Vintage at hm
  refine st_enter Try.func21 rfl Try.ntmps21 (Nat.le_of_ble_eq_true rfl) ?_
  refine st_seq ?_
  refine st_region ?_
  refine r_pure (.bool false) rfl ?_
  refine r_seq ?_
  refine st_seq ?_
  refine st_seq ?_
  refine st_region ?_
  refine r_pure (.slice A1 a_.length c2) rfl ?_
  refine r_len Try.underlying26 rfl ?_
  refine r_pure (.slice A7 b_.length c8) rfl ?_
  refine r_len Try.underlying26 rfl ?_
  refine r_pure (.bool ((a_.length : Int) != (b_.length : Int))) rfl ?_
  refine r_seq ?_
  rcases ite_some hm with ⟨hb13, hm⟩ | ⟨hb13, hm⟩
  · refine st_condt hb13 rfl ?_
    refine st_seq ?_
    refine st_region ?_
    refine r_pure (.bool false) rfl ?_
    refine r_seq ?_
    have hq_ := Option.some.inj hm
    subst hq_
    refine st_ret1 rfl rfl (Nat.le_of_ble_eq_true rfl) rfl ?_
    exact ⟨rfl, H⟩
  · refine st_condf hb13 rfl ?_
    refine st_skip ?_
    refine n_sq ?_
    refine st_seq ?_
    refine st_seq ?_
    refine st_region ?_
    refine r_pure (.int .i64 0) rfl ?_
    refine r_seq ?_
    refine st_block ?_
    obtain ⟨tl18, hl19, hm17⟩ := bind_some hm
    refine st_loopF (scutagekeep_Same_api_Vintage.l1 a_ b_) (fun s ρ w => ∃ v15 : Int, v15 = s ∧ (∃ base, ρ = updl base [(0, .slice A1 a_.length c2), (1, .slice A7 b_.length c8), (5, .int .i64 v15)]) ∧ Hp w0 (Γ) w) hl19 (fun _ => rfl) ⟨0, rfl, upk (ac rfl (ac rfl (ac rfl an))), H⟩ ?_
    rintro fuel25 IH27 s ρ w ⟨v15, rfl, ⟨base, rfl⟩, H16⟩ hm
    rw [scutagekeep_Same_api_Vintage.l1] at hm
    refine st_seq ?_
    refine st_seq ?_
    refine st_region ?_
    refine r_pure (.int .i64 v15) rfl ?_
    refine r_pure (.slice A1 a_.length c2) rfl ?_
    refine r_len Try.underlying26 rfl ?_
    refine r_pure (.bool (decide (v15 < (a_.length : Int)))) rfl ?_
    refine r_seq ?_
    rcases ite_some hm with ⟨hb28, hm⟩ | ⟨hb28, hm⟩
    · refine st_condt hb28 rfl ?_
      refine st_skip ?_
      refine n_sq ?_
      refine st_seq ?_
      refine st_block ?_
      refine st_seq ?_
      obtain ⟨⟨h030, h131⟩, hm⟩ := gd_some hm
      have hj32 := rd_get h030 h131
      obtain ⟨⟨h034, h135⟩, hm⟩ := gd_some hm
      have hj36 := rd_get h034 h135
      refine Flow.run' [[], [], [0, 1], [0, 1, 2], [], [], [4, 5], [4, 5, 6], [0, 1, 2, 3, 4, 5, 6, 7]] [(17, 0), (18, 1), (19, 2), (20, 3), (21, 4), (22, 5), (23, 6), (24, 7), (25, 8)] [(fun η29 v => v.1 = .slice A1 a_.length c2), (fun η29 v => v.1 = .int .i64 v15), (fun η29 v => v.1 = .pointer (some ((oA A1).add (Int.toNat v15 * 3)))), (fun η29 v => v.1 = .agg #[.int .i64 ((rd a_ v15).Origin), .int .i64 ((rd a_ v15).Expiry), .int .i64 ((rd a_ v15).Left)]), (fun η29 v => v.1 = .slice A7 b_.length c8), (fun η29 v => v.1 = .int .i64 v15), (fun η29 v => v.1 = .pointer (some ((oA A7).add (Int.toNat v15 * 3)))), (fun η29 v => v.1 = .agg #[.int .i64 ((rd b_ v15).Origin), .int .i64 ((rd b_ v15).Expiry), .int .i64 ((rd b_ v15).Left)]), (fun η29 v => v.1 = .bool (!(((rd a_ v15).Origin) == ((rd b_ v15).Origin) && (((rd a_ v15).Expiry) == ((rd b_ v15).Expiry) && (((rd a_ v15).Left) == ((rd b_ v15).Left))))))] [] rfl (by kernel_rfl) (by kernel_rfl) H16 ⟨?_, ?_, ?_, ?_, ?_, ?_, ?_, ?_, ?_, trivial⟩ ?_
      · intro η29 wd41 Δ42 hE38 hR39 H40
        have H40 : Hp w0 ((Δ42 ++ Γ)) wd41 := H40
        refine sp_op [(0, .slice A1 a_.length c2)] (ac rfl an) ?_
        refine r_pure (.slice A1 a_.length c2) rfl ?_
        exact r_nil (n_lp ⟨_, rfl, undef, rfl, H40⟩)
      · intro η29 wd46 Δ47 hE43 hR44 H45
        have H45 : Hp w0 ((Δ47 ++ Γ)) wd46 := H45
        refine sp_op [(5, .int .i64 v15)] (ac rfl an) ?_
        refine r_pure (.int .i64 v15) rfl ?_
        exact r_nil (n_lp ⟨_, rfl, undef, rfl, H45⟩)
      · intro η29 wd51 Δ52 hE48 hR49 H50
        have H50 : Hp w0 ((Δ52 ++ Γ)) wd51 := H50
        refine sp_op [(17, .slice A1 a_.length c2), (18, .int .i64 v15)] (ac (hE48 0 (by decide)) (ac (hE48 1 (by decide)) an)) ?_
        have hA56 := (hv4 _ (H50).tl).adO hj32
        refine r_ix IX26 rfl rfl hA56 h030 h131 ?_
        exact r_nil (n_lp ⟨_, rfl, undef, rfl, H50⟩)
      · intro η29 wd60 Δ61 hE57 hR58 H59
        have H59 : Hp w0 ((Δ61 ++ Γ)) wd60 := H59
        refine sp_op [(19, .pointer (some ((oA A1).add (Int.toNat v15 * 3))))] (ac (hE57 2 (by decide)) an) ?_
        have hA62 := (hv4 _ (H59).tl).adO hj32
        refine r_ldA [.int .i64 ((rd a_ v15).Origin), .int .i64 ((rd a_ v15).Expiry), .int .i64 ((rd a_ v15).Left)] LD38 rfl rfl ((hv4 _ (H59).tl).csA hA62 hj32) ?_
        exact r_nil (n_lp ⟨_, rfl, undef, rfl, H59⟩)
      · intro η29 wd66 Δ67 hE63 hR64 H65
        have H65 : Hp w0 ((Δ67 ++ Γ)) wd66 := H65
        refine sp_op [(1, .slice A7 b_.length c8)] (ac rfl an) ?_
        refine r_pure (.slice A7 b_.length c8) rfl ?_
        exact r_nil (n_lp ⟨_, rfl, undef, rfl, H65⟩)
      · intro η29 wd71 Δ72 hE68 hR69 H70
        have H70 : Hp w0 ((Δ72 ++ Γ)) wd71 := H70
        refine sp_op [(5, .int .i64 v15)] (ac rfl an) ?_
        refine r_pure (.int .i64 v15) rfl ?_
        exact r_nil (n_lp ⟨_, rfl, undef, rfl, H70⟩)
      · intro η29 wd76 Δ77 hE73 hR74 H75
        have H75 : Hp w0 ((Δ77 ++ Γ)) wd76 := H75
        refine sp_op [(21, .slice A7 b_.length c8), (22, .int .i64 v15)] (ac (hE73 4 (by decide)) (ac (hE73 5 (by decide)) an)) ?_
        have hA81 := (hv10 _ (H75).tl).adO hj36
        refine r_ix IX26 rfl rfl hA81 h034 h135 ?_
        exact r_nil (n_lp ⟨_, rfl, undef, rfl, H75⟩)
      · intro η29 wd85 Δ86 hE82 hR83 H84
        have H84 : Hp w0 ((Δ86 ++ Γ)) wd85 := H84
        refine sp_op [(23, .pointer (some ((oA A7).add (Int.toNat v15 * 3))))] (ac (hE82 6 (by decide)) an) ?_
        have hA87 := (hv10 _ (H84).tl).adO hj36
        refine r_ldA [.int .i64 ((rd b_ v15).Origin), .int .i64 ((rd b_ v15).Expiry), .int .i64 ((rd b_ v15).Left)] LD38 rfl rfl ((hv10 _ (H84).tl).csA hA87 hj36) ?_
        exact r_nil (n_lp ⟨_, rfl, undef, rfl, H84⟩)
      · intro η29 wd91 Δ92 hE88 hR89 H90
        have H90 : Hp w0 ((Δ92 ++ Γ)) wd91 := H90
        refine sp_op [(20, .agg #[.int .i64 ((rd a_ v15).Origin), .int .i64 ((rd a_ v15).Expiry), .int .i64 ((rd a_ v15).Left)]), (24, .agg #[.int .i64 ((rd b_ v15).Origin), .int .i64 ((rd b_ v15).Expiry), .int .i64 ((rd b_ v15).Left)])] (ac (hE88 3 (by decide)) (ac (hE88 7 (by decide)) an)) ?_
        refine r_neS (EQ38 ((rd a_ v15).Origin) ((rd b_ v15).Origin) ((rd a_ v15).Expiry) ((rd b_ v15).Expiry) ((rd a_ v15).Left) ((rd b_ v15).Left)) (by decide) Try.eqGuardType38 rfl rfl ?_
        exact r_nil (n_lp ⟨_, rfl, undef, rfl, H90⟩)
      · intro η29 wd94 hV95 H93
        have H96 : Hp w0 (Γ) wd94 := H93
        refine n_frame [(0, .slice A1 a_.length c2), (1, .slice A7 b_.length c8), (5, .int .i64 v15), (25, .bool (!(((rd a_ v15).Origin) == ((rd b_ v15).Origin) && (((rd a_ v15).Expiry) == ((rd b_ v15).Expiry) && (((rd a_ v15).Left) == ((rd b_ v15).Left))))))] (ac rfl (ac rfl (ac rfl (ac (hV95 8 rfl) an)))) ?_
        refine n_sq ?_
        rcases ite_some hm with ⟨hb97, hm⟩ | ⟨hb97, hm⟩
        · refine st_condt hb97 rfl ?_
          refine st_seq ?_
          refine st_region ?_
          refine r_pure (.bool false) rfl ?_
          refine r_seq ?_
          have hq_ := Option.some.inj hm
          subst hq_
          have hq_ := Option.some.inj (show some (false : Bool) = some r0_ from hm17)
          subst hq_
          refine st_ret1 rfl rfl (Nat.le_of_ble_eq_true rfl) rfl ?_
          exact ⟨rfl, H96⟩
        · refine st_condf hb97 rfl ?_
          refine st_skip ?_
          refine n_bl ?_
          refine n_sq ?_
          refine st_region ?_
          refine r_pure (.int .i64 v15) rfl ?_
          refine r_pure (.int .i64 (w64 (v15 + 1))) rfl ?_
          refine r_pure (.int .i64 (w64 (v15 + 1))) rfl ?_
          refine r_nil ?_
          refine n_round (IH27 _ _ _ ⟨w64 (v15 + 1), rfl, upk (ac rfl (ac rfl (ac rfl an))), H96⟩ hm)
    · refine st_condf hb28 rfl ?_
      have hq_ := Option.some.inj hm
      refine st_exit rfl ?_
      subst hq_
      refine n_sq ?_
      refine st_seq ?_
      refine st_region ?_
      refine r_pure (.bool true) rfl ?_
      refine r_seq ?_
      have hq_ := Option.some.inj hm17
      subst hq_
      refine st_ret1 rfl rfl (Nat.le_of_ble_eq_true rfl) rfl ?_
      exact ⟨rfl, H16⟩

set_option maxHeartbeats 2000000 in
theorem scutagelaw15_wakes_ok {w0 w : World} {Γ : List (World → Prop)}  (r0_ : Bool) (H : Hp w0 (Γ) w) (hm : scutagelaw15_wakes = some r0_) : Calls Try.prog 36 #[] w (fun e w => e = .returned (.bool r0_) ∧ Hp w0 (Γ) w) := by
  unfold scutagelaw15_wakes at hm
  refine st_enter Try.func36 rfl Try.ntmps36 (Nat.le_of_ble_eq_true rfl) ?_
  refine st_seq ?_
  refine st_region ?_
  refine r_pure (.bool false) rfl ?_
  refine r_seq ?_
  refine st_seq ?_
  refine st_region ?_
  obtain ⟨y1, hy2, hm⟩ := bind_some hm
  refine r_callf Try.call8 (vintage_New_ok  y1 H hy2) ?_
  rintro e4 wd3 ⟨b7, A8, n9, c10, rfl, H6⟩
  obtain rfl := (H6.g1).leneq
  refine ⟨_, rfl, ?_⟩
  obtain ⟨⟨y11, y12, y13⟩, hy14, hm⟩ := bind_some hm
  refine r_callf Try.call35 (current_Tax_ok b7 (⟨y1.f_l⟩ : vintage_Losses) A8 y1.f_l.length c10 rfl (((H6).g1).cap) (fun _ H => (H.g1.rd)) (fun _ H => (H.g0)) 100 0 0 0 3 5 250000 y11 y12 y13 H6 hy14) ?_
  rintro e16 wd15 (⟨hn20, A21, n22, c23, rfl, H18⟩ | ⟨o17, hn20, A24, n25, c26, b27, A28, n29, c30, rfl, H19⟩)
  · subst hn20
    obtain rfl := (H18.g0).leneq
    have hm : (if (y13 == 0) = true then scutagelaw15_wakes.j1 else scutagelaw15_wakes.j1) = some r0_ := hm
    refine ⟨_, rfl, ?_⟩
    refine r_pure (.tuple #[.agg #[.int .i64 y11.Income, .int .i64 y11.Expired, .int .i64 y11.Used, .int .i64 y11.New, .int .i64 y11.Taxable, .int .i64 y11.Tax, .slice A21 y11.Vector.length c23], .pointer none, .int .i64 y13]) rfl ?_
    refine r_pure (.agg #[.int .i64 y11.Income, .int .i64 y11.Expired, .int .i64 y11.Used, .int .i64 y11.New, .int .i64 y11.Taxable, .int .i64 y11.Tax, .slice A21 y11.Vector.length c23]) rfl ?_
    refine r_pure (.pointer none) rfl ?_
    refine r_pure (.int .i64 y13) rfl ?_
    refine r_alloc [.int .i64 0, .int .i64 0, .int .i64 0, .int .i64 0, .int .i64 0, .int .i64 0, .slice none 0 0] Try.zeroValue59 H18 rfl ?_
    intro b31 wd33 H32
    refine r_stA [.int .i64 y11.Income, .int .i64 y11.Expired, .int .i64 y11.Used, .int .i64 y11.New, .int .i64 y11.Taxable, .int .i64 y11.Tax, .slice A21 y11.Vector.length c23] LD59 rfl rfl rfl rfl H32 (Nat.le_of_ble_eq_true rfl) rfl ?_
    intro wd35 H34
    refine r_pure (.pointer none) rfl ?_
    refine r_pure (.int .i64 y13) rfl ?_
    refine r_seq ?_
    refine st_cut (fun ρ w => (∃ base, ρ = updl base [(0, .bool false)]) ∧ Hp w0 (Γ) w ∧ scutagelaw15_wakes.j1 = some r0_) ?_ ?_
    · refine st_region ?_
      refine r_pure (.int .i64 y13) rfl ?_
      refine r_pure (.bool (y13 == 0)) rfl ?_
      refine r_pure (.bool (y13 == 0)) rfl ?_
      rcases ite_some hm with ⟨hb37, hm⟩ | ⟨hb37, hm⟩
      · refine r_pure (.pointer none) rfl ?_ (wn_t rfl rfl (by decide) rfl hb37)
        refine r_nen Try.underlying23 rfl rfl ?_ (wn_t rfl rfl (by decide) rfl hb37)
        refine r_pick_t (.bool false) hb37 rfl rfl ?_
        refine r_pure (.bool false) rfl ?_
        refine r_not (wn_f rfl rfl (by decide) rfl rfl) ?_
        refine r_not (wn_f rfl rfl (by decide) rfl rfl) ?_
        refine r_not (wn_f rfl rfl (by decide) rfl rfl) ?_
        refine r_pick_f (.bool false) rfl rfl rfl ?_
        refine r_pure (.bool false) rfl ?_
        refine r_not (wn_f rfl rfl (by decide) rfl rfl) ?_
        refine r_not (wn_f rfl rfl (by decide) rfl rfl) ?_
        refine r_not (wn_f rfl rfl (by decide) rfl rfl) ?_
        refine r_pick_f (.bool false) rfl rfl rfl ?_
        refine r_pure (.bool false) rfl ?_
        refine r_nil ?_
        refine n_cut ⟨upk (ac rfl an), H34.d.d.d.d, hm⟩
      · refine r_not (wn_f rfl rfl (by decide) rfl hb37) ?_
        refine r_not (wn_f rfl rfl (by decide) rfl hb37) ?_
        refine r_pick_f (.bool false) hb37 rfl rfl ?_
        refine r_pure (.bool false) rfl ?_
        refine r_not (wn_f rfl rfl (by decide) rfl rfl) ?_
        refine r_not (wn_f rfl rfl (by decide) rfl rfl) ?_
        refine r_not (wn_f rfl rfl (by decide) rfl rfl) ?_
        refine r_pick_f (.bool false) rfl rfl rfl ?_
        refine r_pure (.bool false) rfl ?_
        refine r_not (wn_f rfl rfl (by decide) rfl rfl) ?_
        refine r_not (wn_f rfl rfl (by decide) rfl rfl) ?_
        refine r_not (wn_f rfl rfl (by decide) rfl rfl) ?_
        refine r_pick_f (.bool false) rfl rfl rfl ?_
        refine r_pure (.bool false) rfl ?_
        refine r_nil ?_
        refine n_cut ⟨upk (ac rfl an), H34.d.d.d.d, hm⟩
    · rintro ρ w ⟨⟨base, rfl⟩, H36, hm⟩
      unfold scutagelaw15_wakes.j1 at hm
      have hq_ := Option.some.inj hm
      subst hq_
      refine st_ret1 rfl rfl (Nat.le_of_ble_eq_true rfl) rfl ?_
      exact ⟨rfl, H36⟩
  · subst hn20
    obtain rfl := (H19.g0).leneq
    obtain rfl := (H19.g2).leneq
    have hm : (if (y13 == 0) = true then (if (y11.Tax == 25) = true then scutagelaw15_wakes.j2 (y11.Taxable == 100) else scutagelaw15_wakes.j2 false) else scutagelaw15_wakes.j2 false) = some r0_ := hm
    refine ⟨_, rfl, ?_⟩
    refine r_pure (.tuple #[.agg #[.int .i64 y11.Income, .int .i64 y11.Expired, .int .i64 y11.Used, .int .i64 y11.New, .int .i64 y11.Taxable, .int .i64 y11.Tax, .slice A24 y11.Vector.length c26], .pointer (some ⟨b27, 0, none⟩), .int .i64 y13]) rfl ?_
    refine r_pure (.agg #[.int .i64 y11.Income, .int .i64 y11.Expired, .int .i64 y11.Used, .int .i64 y11.New, .int .i64 y11.Taxable, .int .i64 y11.Tax, .slice A24 y11.Vector.length c26]) rfl ?_
    refine r_pure (.pointer (some ⟨b27, 0, none⟩)) rfl ?_
    refine r_pure (.int .i64 y13) rfl ?_
    refine r_alloc [.int .i64 0, .int .i64 0, .int .i64 0, .int .i64 0, .int .i64 0, .int .i64 0, .slice none 0 0] Try.zeroValue59 H19 rfl ?_
    intro b38 wd40 H39
    refine r_stA [.int .i64 y11.Income, .int .i64 y11.Expired, .int .i64 y11.Used, .int .i64 y11.New, .int .i64 y11.Taxable, .int .i64 y11.Tax, .slice A24 y11.Vector.length c26] LD59 rfl rfl rfl rfl H39 (Nat.le_of_ble_eq_true rfl) rfl ?_
    intro wd42 H41
    refine r_pure (.pointer (some ⟨b27, 0, none⟩)) rfl ?_
    refine r_pure (.int .i64 y13) rfl ?_
    refine r_seq ?_
    refine st_cut (fun ρ w => ∃ q43 : Bool, (∃ base, ρ = updl base [(0, .bool q43)]) ∧ Hp w0 (Γ) w ∧ scutagelaw15_wakes.j2 q43 = some r0_) ?_ ?_
    · refine st_region ?_
      refine r_pure (.int .i64 y13) rfl ?_
      refine r_pure (.bool (y13 == 0)) rfl ?_
      refine r_pure (.bool (y13 == 0)) rfl ?_
      rcases ite_some hm with ⟨hb45, hm⟩ | ⟨hb45, hm⟩
      · refine r_pure (.pointer (some ⟨b27, 0, none⟩)) rfl ?_ (wn_t rfl rfl (by decide) rfl hb45)
        refine r_nen Try.underlying23 rfl rfl ?_ (wn_t rfl rfl (by decide) rfl hb45)
        refine r_pick_t (.bool true) hb45 rfl rfl ?_
        refine r_pure (.bool true) rfl ?_
        refine r_fa FA59_5 ⟨b38, 5, none⟩ rfl rfl ?_ (wn_t rfl rfl (by decide) rfl rfl)
        refine r_ld1 (.int .i64 y11.Tax) LD3 rfl ((H41.g0).cell _ rfl) ?_ (wn_t rfl rfl (by decide) rfl rfl)
        refine r_pure (.bool (y11.Tax == 25)) rfl ?_ (wn_t rfl rfl (by decide) rfl rfl)
        refine r_pick_t (.bool (y11.Tax == 25)) rfl rfl rfl ?_
        refine r_pure (.bool (y11.Tax == 25)) rfl ?_
        rcases ite_some hm with ⟨hb46, hm⟩ | ⟨hb46, hm⟩
        · refine r_fa FA59_4 ⟨b38, 4, none⟩ rfl rfl ?_ (wn_t rfl rfl (by decide) rfl hb46)
          refine r_ld1 (.int .i64 y11.Taxable) LD3 rfl ((H41.g0).cell _ rfl) ?_ (wn_t rfl rfl (by decide) rfl hb46)
          refine r_pure (.bool (y11.Taxable == 100)) rfl ?_ (wn_t rfl rfl (by decide) rfl hb46)
          refine r_pick_t (.bool (y11.Taxable == 100)) hb46 rfl rfl ?_
          refine r_pure (.bool (y11.Taxable == 100)) rfl ?_
          refine r_nil ?_
          refine n_cut ⟨y11.Taxable == 100, upk (ac rfl an), H41.d.d.d.d.d.d, hm⟩
        · refine r_not (wn_f rfl rfl (by decide) rfl hb46) ?_
          refine r_not (wn_f rfl rfl (by decide) rfl hb46) ?_
          refine r_not (wn_f rfl rfl (by decide) rfl hb46) ?_
          refine r_pick_f (.bool false) hb46 rfl rfl ?_
          refine r_pure (.bool false) rfl ?_
          refine r_nil ?_
          refine n_cut ⟨false, upk (ac rfl an), H41.d.d.d.d.d.d, hm⟩
      · refine r_not (wn_f rfl rfl (by decide) rfl hb45) ?_
        refine r_not (wn_f rfl rfl (by decide) rfl hb45) ?_
        refine r_pick_f (.bool false) hb45 rfl rfl ?_
        refine r_pure (.bool false) rfl ?_
        refine r_not (wn_f rfl rfl (by decide) rfl rfl) ?_
        refine r_not (wn_f rfl rfl (by decide) rfl rfl) ?_
        refine r_not (wn_f rfl rfl (by decide) rfl rfl) ?_
        refine r_pick_f (.bool false) rfl rfl rfl ?_
        refine r_pure (.bool false) rfl ?_
        refine r_not (wn_f rfl rfl (by decide) rfl rfl) ?_
        refine r_not (wn_f rfl rfl (by decide) rfl rfl) ?_
        refine r_not (wn_f rfl rfl (by decide) rfl rfl) ?_
        refine r_pick_f (.bool false) rfl rfl rfl ?_
        refine r_pure (.bool false) rfl ?_
        refine r_nil ?_
        refine n_cut ⟨false, upk (ac rfl an), H41.d.d.d.d.d.d, hm⟩
    · rintro ρ w ⟨q43, ⟨base, rfl⟩, H44, hm⟩
      unfold scutagelaw15_wakes.j2 at hm
      have hq_ := Option.some.inj hm
      subst hq_
      refine st_ret1 rfl rfl (Nat.le_of_ble_eq_true rfl) rfl ?_
      exact ⟨rfl, H44⟩


end Go.Proofs.Ytcmhekibcbpajaa
