/- The Go functions come to their models: printed by gen.py. -/
import Derived.Test.YtcmhekibcbpajaaVX0
set_option linter.unusedVariables false
set_option linter.unusedSimpArgs false
set_option maxRecDepth 100000
namespace Go.Proofs.Ytcmhekibcbpajaa
open Go Go.RowKit
attribute [local irreducible] W R N L Hp Row SlR Bx

set_option maxHeartbeats 2000000 in
theorem scutageref09_Losses_Take_ok {w0 w : World} {Γ : List (World → Prop)} (b1 : Nat) (l_ : scutageref09_Losses) (A2 : Option Addr) (c3 : Nat) (used : List Int) (A4 : Option Addr) (n9 c5 : Nat) (hn8 : n9 = used.length) (hc6 : used.length ≤ c5) (hv7 : ∀ u, Hp w0 Γ u → SlR K3 A4 used u) (r0_ : Int) (r1_ : scutageref09_Losses) (H : Hp w0 (Bx b1 28 [.slice A2 l_.V.length c3] :: Row K38 (.slice A2 l_.V.length c3) l_.V :: Γ) w) (hm : scutageref09_Losses_Take l_ used = some (r0_, r1_)) : Calls Try.prog 19 #[.pointer (some ⟨b1, 0, none⟩), .slice A4 n9 c5] w (fun e w => ∃ (Ax1 : Option Addr) (nx2 cx3 : Nat), e = .returned (.int .i64 r0_) ∧ Hp w0 (Bx b1 28 [.slice Ax1 nx2 cx3] :: Row K38 (.slice Ax1 nx2 cx3) r1_.V :: Γ) w) := by
  subst hn8
  unfold scutageref09_Losses_Take at hm
  refine st_enter Try.func19 rfl Try.ntmps19 (Nat.le_of_ble_eq_true rfl) ?_
  refine st_seq ?_
  refine st_region ?_
  refine r_pure (.int .i64 0) rfl ?_
  refine r_seq ?_
  refine st_seq ?_
  refine st_seq ?_
  refine st_region ?_
  refine r_pure (.slice A4 used.length c5) rfl ?_
  refine r_len Try.underlying29 rfl ?_
  refine r_pure (.pointer (some ⟨b1, 0, none⟩)) rfl ?_
  refine r_pure (.pointer (some ⟨b1, 0, none⟩)) rfl ?_
  refine r_fa FA28_0 ⟨b1, 0, none⟩ rfl rfl ?_
  refine r_ld1 (.slice A2 l_.V.length c3) LD26 rfl ((H.g0).cell _ rfl) ?_
  refine r_len Try.underlying26 rfl ?_
  refine r_pure (.bool ((used.length : Int) != (l_.V.length : Int))) rfl ?_
  refine r_seq ?_
  rcases ite_some hm with ⟨hb10, hm⟩ | ⟨hb10, hm⟩
  · refine st_condt hb10 rfl ?_
    refine st_seq ?_
    refine st_region ?_
    refine r_pure (.int .i64 1) rfl ?_
    refine r_seq ?_
    obtain ⟨rfl, rfl⟩ := some_inj2 hm
    refine st_ret1 rfl rfl (Nat.le_of_ble_eq_true rfl) rfl ?_
    exact ⟨A2, l_.V.length, c3, rfl, H.u1.u1⟩
  · refine st_condf hb10 rfl ?_
    refine st_skip ?_
    refine n_sq ?_
    refine st_seq ?_
    refine st_region ?_
    refine r_pure (.slice none 0 0) rfl ?_
    refine r_seq ?_
    refine st_seq ?_
    refine st_seq ?_
    refine st_region ?_
    refine r_pure (.pointer (some ⟨b1, 0, none⟩)) rfl ?_
    refine r_pure (.pointer (some ⟨b1, 0, none⟩)) rfl ?_
    refine r_fa FA28_0 ⟨b1, 0, none⟩ rfl rfl ?_
    refine r_ld1 (.slice A2 l_.V.length c3) LD26 rfl ((H.g0).cell _ rfl) ?_
    refine r_len Try.underlying26 rfl ?_
    refine r_pure (.int .i64 0) rfl ?_
    refine r_seq ?_
    refine st_block ?_
    have H16 := H.add (A := Row K38 (.slice none 0 0) []) Row.nil
    have hlim40 := (H16.g2.rd).lim
    obtain ⟨tl23, hl24, hm22⟩ := bind_some hm
    refine st_loopL (scutageref09_Losses_Take.l1 used l_) (fun ys29 s ρ w => ∃ i25 : Int, ∃ xs20 : List api_Vintage, ∃ dn26 : List api_Vintage, ∃ A17 : Option Addr, ∃ n18 : Nat, ∃ c19 : Nat, (i25, xs20) = s ∧ l_.V = dn26 ++ ys29 ∧ i25 = (dn26.length : Int) ∧ (∃ base, ρ = updl base [(0, .pointer (some ⟨b1, 0, none⟩)), (1, .slice A4 used.length c5), (5, .slice A17 n18 c19), (19, .slice A2 l_.V.length c3), (20, .int .i64 (l_.V.length : Int)), (21, .int .i64 i25)]) ∧ Hp w0 (Row K38 (.slice A2 l_.V.length c3) l_.V :: Bx b1 28 [.slice A2 l_.V.length c3] :: Row K38 (.slice A17 n18 c19) xs20 :: Γ) w) hl24 ⟨0, ([] : List api_Vintage), [], none, 0, 0, rfl, rfl, rfl, upk (ac rfl (ac rfl (ac rfl (ac rfl (ac rfl (ac rfl an)))))), H16.u1.u2⟩ ?_
    rintro m ys29 IH33 s ρ w ⟨i25, xs20, dn26, A17, n18, c19, rfl, hxs27, hi28, ⟨base, rfl⟩, H21⟩ hm
    obtain rfl := (H21.g2).leneq
    rcases ys29 with _ | ⟨y30, ys29⟩
    · rw [scutageref09_Losses_Take.l1] at hm
      have hb34 := range_end hxs27 hi28
      refine st_seq ?_
      refine st_region ?_
      refine r_pure (.bool (decide (i25 < (l_.V.length : Int)))) rfl ?_
      refine r_seq ?_
      refine st_seq ?_
      refine st_condf hb34 rfl ?_
      have hq_ := Option.some.inj hm
      refine st_exit rfl ?_
      subst hq_
      refine n_sq ?_
      refine st_seq ?_
      refine st_region ?_
      refine r_pure (.pointer (some ⟨b1, 0, none⟩)) rfl ?_
      refine r_pure (.slice A17 xs20.length c19) rfl ?_
      refine r_pure (.pointer (some ⟨b1, 0, none⟩)) rfl ?_
      refine r_fa FA28_0 ⟨b1, 0, none⟩ rfl rfl ?_
      refine r_st1 LD26 rfl rfl rfl H21.u1 rfl ?_
      intro wd42 H41
      refine r_seq ?_
      refine st_seq ?_
      refine st_region ?_
      refine r_pure (.int .i64 0) rfl ?_
      refine r_seq ?_
      obtain ⟨rfl, rfl⟩ := some_inj2 hm22
      refine st_ret1 rfl rfl (Nat.le_of_ble_eq_true rfl) rfl ?_
      exact ⟨A17, xs20.length, c19, rfl, H41.u1.d.u1.u1⟩
    · rw [scutageref09_Losses_Take.l1] at hm
      have hb35 := range_in hxs27 hi28
      obtain ⟨h036, h137, hj38⟩ := range_ix hxs27 hi28
      have hnx39 := range_next hxs27 hi28 hlim40
      refine st_seq ?_
      refine st_region ?_
      refine r_pure (.bool (decide (i25 < (l_.V.length : Int)))) rfl ?_
      refine r_seq ?_
      refine st_seq ?_
      refine st_condt hb35 rfl ?_
      refine st_skip ?_
      refine n_sq ?_
      refine st_cut (fun ρ w => ∃ A43 : Option Addr, ∃ n44 : Nat, ∃ c45 : Nat, ∃ xs46 : List api_Vintage, (∃ base, ρ = updl base [(0, .pointer (some ⟨b1, 0, none⟩)), (1, .slice A4 used.length c5), (5, .slice A43 n44 c45), (19, .slice A2 l_.V.length c3), (20, .int .i64 (l_.V.length : Int)), (21, .int .i64 i25)]) ∧ Hp w0 (Row K38 (.slice A2 l_.V.length c3) l_.V :: Bx b1 28 [.slice A2 l_.V.length c3] :: Row K38 (.slice A43 n44 c45) xs46 :: Γ) w ∧ scutageref09_Losses_Take.j1 (scutageref09_Losses_Take.l1 used l_ ys29) i25 xs46 = some tl23) ?_ ?_
      · refine st_block ?_
        refine st_seq ?_
        refine st_region ?_
        refine r_pure (.int .i64 i25) rfl ?_
        have hA48 := (H21.g0.rd).adO hj38
        refine r_ix IX26 rfl rfl hA48 h036 h137 ?_
        refine r_ldA [.int .i64 y30.Origin, .int .i64 y30.Expiry, .int .i64 y30.Left] LD38 rfl rfl ((H21.g0.rd).csA hA48 hj38) ?_
        refine r_alloc [.int .i64 0, .int .i64 0, .int .i64 0] Try.zeroValue38 H21 rfl ?_
        intro b49 wd51 H50
        refine r_pure (.int .i64 i25) rfl ?_
        refine r_stA [.int .i64 y30.Origin, .int .i64 y30.Expiry, .int .i64 y30.Left] LD38 rfl rfl rfl rfl H50 (Nat.le_of_ble_eq_true rfl) rfl ?_
        intro wd53 H52
        refine r_seq ?_
        refine st_seq ?_
        refine st_cut (fun ρ w => ∃ q54 : Bool, (∃ base, ρ = updl base [(0, .pointer (some ⟨b1, 0, none⟩)), (1, .slice A4 used.length c5), (5, .slice A17 xs20.length c19), (6, .int .i64 i25), (7, .pointer (some ⟨b49, 0, none⟩)), (19, .slice A2 l_.V.length c3), (20, .int .i64 (l_.V.length : Int)), (21, .int .i64 i25), (39, .bool q54)]) ∧ Hp w0 (Row K38 (.slice A2 l_.V.length c3) l_.V :: Bx b1 28 [.slice A2 l_.V.length c3] :: Row K38 (.slice A17 xs20.length c19) xs20 :: Bx b49 38 [.int .i64 y30.Origin, .int .i64 y30.Expiry, .int .i64 y30.Left] :: Γ) w ∧ scutageref09_Losses_Take.j2 l_ i25 used y30 xs20 (scutageref09_Losses_Take.l1 used l_ ys29) q54 = some tl23) ?_ ?_
        · obtain ⟨⟨h0130, h1131⟩, hm⟩ := gd_some hm
          have hj132 := rd_get h0130 h1131
          rcases ite_some hm with ⟨hb134, hm⟩ | ⟨hb134, hm⟩
          · refine Flow.run' [[], [], [0, 1], [0, 1, 2], [0, 1, 2, 3], [0, 1, 2, 3, 4], [0, 1, 2, 3, 4, 5], [0, 1, 2, 3, 4, 5], [0, 1, 2, 3, 4, 5, 6, 7], [0, 1, 2, 3, 4, 5, 6, 7, 8], [0, 1, 2, 3, 4, 5], [0, 1, 2, 3, 4, 5, 10], [0, 1, 2, 3, 4, 5, 6, 7, 8, 9, 10, 11], [0, 1, 2, 3, 4, 5, 6, 7, 8, 9, 10, 11, 12]] [(26, 0), (27, 1), (28, 2), (29, 3), (30, 4), (31, 5), (32, 6), (33, 7), (34, 8), (35, 9), (36, 10), (37, 11), (38, 12), (39, 13)] [(fun η129 v => v.1 = .slice A4 used.length c5), (fun η129 v => v.1 = .int .i64 i25), (fun η129 v => v.1 = .pointer (some ((oA A4).add (Int.toNat i25 * 1)))), (fun η129 v => v.1 = .int .i64 (rd used i25)), (fun η129 v => v.1 = .bool (decide ((rd used i25) < 0))), (fun η129 v => v.1 = .bool (decide ((rd used i25) < 0))), (fun η129 v => v.1 = undef), (fun η129 v => v.1 = undef), (fun η129 v => v.1 = undef), (fun η129 v => v.1 = undef), (fun η129 v => v.1 = undef), (fun η129 v => v.1 = undef), (fun η129 v => v.1 = undef), (fun η129 v => v.1 = .bool true)] [] rfl (by kernel_rfl) (by kernel_rfl) H52 ⟨?_, ?_, ?_, ?_, ?_, ?_, ?_, ?_, ?_, ?_, ?_, ?_, ?_, ?_, trivial⟩ ?_
            · intro η129 wd138 Δ139 hE135 hR136 H137
              have H137 : Hp w0 ((Δ139 ++ (Bx b49 38 [.int .i64 y30.Origin, .int .i64 y30.Expiry, .int .i64 y30.Left] :: Row K38 (.slice A2 l_.V.length c3) l_.V :: Bx b1 28 [.slice A2 l_.V.length c3] :: Row K38 (.slice A17 xs20.length c19) xs20 :: Γ))) wd138 := H137
              refine sp_op [(1, .slice A4 used.length c5)] (ac rfl an) ?_
              refine r_pure (.slice A4 used.length c5) rfl ?_
              exact r_nil (n_lp ⟨_, rfl, undef, rfl, H137⟩)
            · intro η129 wd143 Δ144 hE140 hR141 H142
              have H142 : Hp w0 ((Δ144 ++ (Bx b49 38 [.int .i64 y30.Origin, .int .i64 y30.Expiry, .int .i64 y30.Left] :: Row K38 (.slice A2 l_.V.length c3) l_.V :: Bx b1 28 [.slice A2 l_.V.length c3] :: Row K38 (.slice A17 xs20.length c19) xs20 :: Γ))) wd143 := H142
              refine sp_op [(6, .int .i64 i25)] (ac rfl an) ?_
              refine r_pure (.int .i64 i25) rfl ?_
              exact r_nil (n_lp ⟨_, rfl, undef, rfl, H142⟩)
            · intro η129 wd148 Δ149 hE145 hR146 H147
              have H147 : Hp w0 ((Δ149 ++ (Bx b49 38 [.int .i64 y30.Origin, .int .i64 y30.Expiry, .int .i64 y30.Left] :: Row K38 (.slice A2 l_.V.length c3) l_.V :: Bx b1 28 [.slice A2 l_.V.length c3] :: Row K38 (.slice A17 xs20.length c19) xs20 :: Γ))) wd148 := H147
              refine sp_op [(26, .slice A4 used.length c5), (27, .int .i64 i25)] (ac (hE145 0 (by decide)) (ac (hE145 1 (by decide)) an)) ?_
              have hA153 := (hv7 _ (H147).tl.d.d.d.d).adO hj132
              refine r_ix IX29 rfl rfl hA153 h0130 h1131 ?_
              exact r_nil (n_lp ⟨_, rfl, undef, rfl, H147⟩)
            · intro η129 wd157 Δ158 hE154 hR155 H156
              have H156 : Hp w0 ((Δ158 ++ (Bx b49 38 [.int .i64 y30.Origin, .int .i64 y30.Expiry, .int .i64 y30.Left] :: Row K38 (.slice A2 l_.V.length c3) l_.V :: Bx b1 28 [.slice A2 l_.V.length c3] :: Row K38 (.slice A17 xs20.length c19) xs20 :: Γ))) wd157 := H156
              refine sp_op [(28, .pointer (some ((oA A4).add (Int.toNat i25 * 1))))] (ac (hE154 2 (by decide)) an) ?_
              have hA159 := (hv7 _ (H156).tl.d.d.d.d).adO hj132
              refine r_ld1 (.int .i64 (rd used i25)) LD3 rfl ((hv7 _ (H156).tl.d.d.d.d).c0A hA159 hj132 _ rfl) ?_
              exact r_nil (n_lp ⟨_, rfl, undef, rfl, H156⟩)
            · intro η129 wd163 Δ164 hE160 hR161 H162
              have H162 : Hp w0 ((Δ164 ++ (Bx b49 38 [.int .i64 y30.Origin, .int .i64 y30.Expiry, .int .i64 y30.Left] :: Row K38 (.slice A2 l_.V.length c3) l_.V :: Bx b1 28 [.slice A2 l_.V.length c3] :: Row K38 (.slice A17 xs20.length c19) xs20 :: Γ))) wd163 := H162
              refine sp_op [(29, .int .i64 (rd used i25))] (ac (hE160 3 (by decide)) an) ?_
              refine r_pure (.bool (decide ((rd used i25) < 0))) rfl ?_
              exact r_nil (n_lp ⟨_, rfl, undef, rfl, H162⟩)
            · intro η129 wd168 Δ169 hE165 hR166 H167
              have H167 : Hp w0 ((Δ169 ++ (Bx b49 38 [.int .i64 y30.Origin, .int .i64 y30.Expiry, .int .i64 y30.Left] :: Row K38 (.slice A2 l_.V.length c3) l_.V :: Bx b1 28 [.slice A2 l_.V.length c3] :: Row K38 (.slice A17 xs20.length c19) xs20 :: Γ))) wd168 := H167
              refine sp_op [(30, .bool (decide ((rd used i25) < 0)))] (ac (hE165 4 (by decide)) an) ?_
              refine r_pure (.bool (decide ((rd used i25) < 0))) rfl ?_
              exact r_nil (n_lp ⟨_, rfl, undef, rfl, H167⟩)
            · intro η129 wd173 Δ174 hE170 hR171 H172
              have H172 : Hp w0 ((Δ174 ++ (Bx b49 38 [.int .i64 y30.Origin, .int .i64 y30.Expiry, .int .i64 y30.Left] :: Row K38 (.slice A2 l_.V.length c3) l_.V :: Bx b1 28 [.slice A2 l_.V.length c3] :: Row K38 (.slice A17 xs20.length c19) xs20 :: Γ))) wd173 := H172
              refine sp_op [(1, .slice A4 used.length c5), (31, .bool (decide ((rd used i25) < 0)))] (ac rfl (ac (hE170 5 (by decide)) an)) ?_
              refine r_not (wn_f rfl rfl (by decide) rfl hb134) ?_
              exact r_nil (n_lp ⟨_, rfl, undef, rfl, H172⟩)
            · intro η129 wd178 Δ179 hE175 hR176 H177
              have H177 : Hp w0 ((Δ179 ++ (Bx b49 38 [.int .i64 y30.Origin, .int .i64 y30.Expiry, .int .i64 y30.Left] :: Row K38 (.slice A2 l_.V.length c3) l_.V :: Bx b1 28 [.slice A2 l_.V.length c3] :: Row K38 (.slice A17 xs20.length c19) xs20 :: Γ))) wd178 := H177
              refine sp_op [(6, .int .i64 i25), (31, .bool (decide ((rd used i25) < 0)))] (ac rfl (ac (hE175 5 (by decide)) an)) ?_
              refine r_not (wn_f rfl rfl (by decide) rfl hb134) ?_
              exact r_nil (n_lp ⟨_, rfl, undef, rfl, H177⟩)
            · intro η129 wd183 Δ184 hE180 hR181 H182
              have H182 : Hp w0 ((Δ184 ++ (Bx b49 38 [.int .i64 y30.Origin, .int .i64 y30.Expiry, .int .i64 y30.Left] :: Row K38 (.slice A2 l_.V.length c3) l_.V :: Bx b1 28 [.slice A2 l_.V.length c3] :: Row K38 (.slice A17 xs20.length c19) xs20 :: Γ))) wd183 := H182
              refine sp_op [(31, .bool (decide ((rd used i25) < 0))), (32, undef), (33, undef)] (ac (hE180 5 (by decide)) (ac (hE180 6 (by decide)) (ac (hE180 7 (by decide)) an))) ?_
              refine r_not (wn_f rfl rfl (by decide) rfl hb134) ?_
              exact r_nil (n_lp ⟨_, rfl, undef, rfl, H182⟩)
            · intro η129 wd188 Δ189 hE185 hR186 H187
              have H187 : Hp w0 ((Δ189 ++ (Bx b49 38 [.int .i64 y30.Origin, .int .i64 y30.Expiry, .int .i64 y30.Left] :: Row K38 (.slice A2 l_.V.length c3) l_.V :: Bx b1 28 [.slice A2 l_.V.length c3] :: Row K38 (.slice A17 xs20.length c19) xs20 :: Γ))) wd188 := H187
              refine sp_op [(31, .bool (decide ((rd used i25) < 0))), (34, undef)] (ac (hE185 5 (by decide)) (ac (hE185 8 (by decide)) an)) ?_
              refine r_not (wn_f rfl rfl (by decide) rfl hb134) ?_
              exact r_nil (n_lp ⟨_, rfl, undef, rfl, H187⟩)
            · intro η129 wd193 Δ194 hE190 hR191 H192
              have H192 : Hp w0 ((Δ194 ++ (Bx b49 38 [.int .i64 y30.Origin, .int .i64 y30.Expiry, .int .i64 y30.Left] :: Row K38 (.slice A2 l_.V.length c3) l_.V :: Bx b1 28 [.slice A2 l_.V.length c3] :: Row K38 (.slice A17 xs20.length c19) xs20 :: Γ))) wd193 := H192
              refine sp_op [(7, .pointer (some ⟨b49, 0, none⟩)), (31, .bool (decide ((rd used i25) < 0)))] (ac rfl (ac (hE190 5 (by decide)) an)) ?_
              refine r_not (wn_f rfl rfl (by decide) rfl hb134) ?_
              exact r_nil (n_lp ⟨_, rfl, undef, rfl, H192⟩)
            · intro η129 wd198 Δ199 hE195 hR196 H197
              have H197 : Hp w0 ((Δ199 ++ (Bx b49 38 [.int .i64 y30.Origin, .int .i64 y30.Expiry, .int .i64 y30.Left] :: Row K38 (.slice A2 l_.V.length c3) l_.V :: Bx b1 28 [.slice A2 l_.V.length c3] :: Row K38 (.slice A17 xs20.length c19) xs20 :: Γ))) wd198 := H197
              refine sp_op [(31, .bool (decide ((rd used i25) < 0))), (36, undef)] (ac (hE195 5 (by decide)) (ac (hE195 10 (by decide)) an)) ?_
              refine r_not (wn_f rfl rfl (by decide) rfl hb134) ?_
              exact r_nil (n_lp ⟨_, rfl, undef, rfl, H197⟩)
            · intro η129 wd203 Δ204 hE200 hR201 H202
              have H202 : Hp w0 ((Δ204 ++ (Bx b49 38 [.int .i64 y30.Origin, .int .i64 y30.Expiry, .int .i64 y30.Left] :: Row K38 (.slice A2 l_.V.length c3) l_.V :: Bx b1 28 [.slice A2 l_.V.length c3] :: Row K38 (.slice A17 xs20.length c19) xs20 :: Γ))) wd203 := H202
              refine sp_op [(31, .bool (decide ((rd used i25) < 0))), (35, undef), (37, undef)] (ac (hE200 5 (by decide)) (ac (hE200 9 (by decide)) (ac (hE200 11 (by decide)) an))) ?_
              refine r_not (wn_f rfl rfl (by decide) rfl hb134) ?_
              exact r_nil (n_lp ⟨_, rfl, undef, rfl, H202⟩)
            · intro η129 wd208 Δ209 hE205 hR206 H207
              have H207 : Hp w0 ((Δ209 ++ (Bx b49 38 [.int .i64 y30.Origin, .int .i64 y30.Expiry, .int .i64 y30.Left] :: Row K38 (.slice A2 l_.V.length c3) l_.V :: Bx b1 28 [.slice A2 l_.V.length c3] :: Row K38 (.slice A17 xs20.length c19) xs20 :: Γ))) wd208 := H207
              refine sp_op [(31, .bool (decide ((rd used i25) < 0))), (38, undef)] (ac (hE205 5 (by decide)) (ac (hE205 12 (by decide)) an)) ?_
              refine r_pick_t (.bool true) hb134 rfl rfl ?_
              exact r_nil (n_lp ⟨_, rfl, undef, rfl, H207⟩)
            · intro η129 wd211 hV212 H210
              have H213 : Hp w0 (Bx b49 38 [.int .i64 y30.Origin, .int .i64 y30.Expiry, .int .i64 y30.Left] :: Row K38 (.slice A2 l_.V.length c3) l_.V :: Bx b1 28 [.slice A2 l_.V.length c3] :: Row K38 (.slice A17 xs20.length c19) xs20 :: Γ) wd211 := H210
              refine n_frame [(0, .pointer (some ⟨b1, 0, none⟩)), (1, .slice A4 used.length c5), (5, .slice A17 xs20.length c19), (6, .int .i64 i25), (7, .pointer (some ⟨b49, 0, none⟩)), (19, .slice A2 l_.V.length c3), (20, .int .i64 (l_.V.length : Int)), (21, .int .i64 i25), (39, .bool true)] (ac rfl (ac rfl (ac rfl (ac rfl (ac rfl (ac rfl (ac rfl (ac rfl (ac (hV212 13 rfl) an))))))))) ?_
              refine n_cut ⟨true, upk (ac rfl (ac rfl (ac rfl (ac rfl (ac rfl (ac rfl (ac rfl (ac rfl (ac rfl an))))))))), H213.u3.u3.u3, hm⟩
          · refine Flow.run' [[], [], [0, 1], [0, 1, 2], [0, 1, 2, 3], [0, 1, 2, 3, 4], [0, 1, 2, 3, 4, 5], [0, 1, 2, 3, 4, 5], [0, 1, 2, 3, 4, 5, 6, 7], [0, 1, 2, 3, 4, 5, 6, 7, 8], [0, 1, 2, 3, 4, 5], [0, 1, 2, 3, 4, 5, 10], [0, 1, 2, 3, 4, 5, 6, 7, 8, 9, 10, 11], [0, 1, 2, 3, 4, 5, 6, 7, 8, 9, 10, 11, 12]] [(26, 0), (27, 1), (28, 2), (29, 3), (30, 4), (31, 5), (32, 6), (33, 7), (34, 8), (35, 9), (36, 10), (37, 11), (38, 12), (39, 13)] [(fun η129 v => v.1 = .slice A4 used.length c5), (fun η129 v => v.1 = .int .i64 i25), (fun η129 v => v.1 = .pointer (some ((oA A4).add (Int.toNat i25 * 1)))), (fun η129 v => v.1 = .int .i64 (rd used i25)), (fun η129 v => v.1 = .bool (decide ((rd used i25) < 0))), (fun η129 v => v.1 = .bool (decide ((rd used i25) < 0))), (fun η129 v => v.1 = .slice A4 used.length c5), (fun η129 v => v.1 = .int .i64 i25), (fun η129 v => v.1 = .pointer (some ((oA A4).add (Int.toNat i25 * 1)))), (fun η129 v => v.1 = .int .i64 (rd used i25)), (fun η129 v => v.1 = .pointer (some ⟨b49, 2, none⟩)), (fun η129 v => v.1 = .int .i64 y30.Left), (fun η129 v => v.1 = .bool (decide ((rd used i25) > y30.Left))), (fun η129 v => v.1 = .bool (decide ((rd used i25) > y30.Left)))] [] rfl (by kernel_rfl) (by kernel_rfl) H52 ⟨?_, ?_, ?_, ?_, ?_, ?_, ?_, ?_, ?_, ?_, ?_, ?_, ?_, ?_, trivial⟩ ?_
            · intro η129 wd217 Δ218 hE214 hR215 H216
              have H216 : Hp w0 ((Δ218 ++ (Bx b49 38 [.int .i64 y30.Origin, .int .i64 y30.Expiry, .int .i64 y30.Left] :: Row K38 (.slice A2 l_.V.length c3) l_.V :: Bx b1 28 [.slice A2 l_.V.length c3] :: Row K38 (.slice A17 xs20.length c19) xs20 :: Γ))) wd217 := H216
              refine sp_op [(1, .slice A4 used.length c5)] (ac rfl an) ?_
              refine r_pure (.slice A4 used.length c5) rfl ?_
              exact r_nil (n_lp ⟨_, rfl, undef, rfl, H216⟩)
            · intro η129 wd222 Δ223 hE219 hR220 H221
              have H221 : Hp w0 ((Δ223 ++ (Bx b49 38 [.int .i64 y30.Origin, .int .i64 y30.Expiry, .int .i64 y30.Left] :: Row K38 (.slice A2 l_.V.length c3) l_.V :: Bx b1 28 [.slice A2 l_.V.length c3] :: Row K38 (.slice A17 xs20.length c19) xs20 :: Γ))) wd222 := H221
              refine sp_op [(6, .int .i64 i25)] (ac rfl an) ?_
              refine r_pure (.int .i64 i25) rfl ?_
              exact r_nil (n_lp ⟨_, rfl, undef, rfl, H221⟩)
            · intro η129 wd227 Δ228 hE224 hR225 H226
              have H226 : Hp w0 ((Δ228 ++ (Bx b49 38 [.int .i64 y30.Origin, .int .i64 y30.Expiry, .int .i64 y30.Left] :: Row K38 (.slice A2 l_.V.length c3) l_.V :: Bx b1 28 [.slice A2 l_.V.length c3] :: Row K38 (.slice A17 xs20.length c19) xs20 :: Γ))) wd227 := H226
              refine sp_op [(26, .slice A4 used.length c5), (27, .int .i64 i25)] (ac (hE224 0 (by decide)) (ac (hE224 1 (by decide)) an)) ?_
              have hA232 := (hv7 _ (H226).tl.d.d.d.d).adO hj132
              refine r_ix IX29 rfl rfl hA232 h0130 h1131 ?_
              exact r_nil (n_lp ⟨_, rfl, undef, rfl, H226⟩)
            · intro η129 wd236 Δ237 hE233 hR234 H235
              have H235 : Hp w0 ((Δ237 ++ (Bx b49 38 [.int .i64 y30.Origin, .int .i64 y30.Expiry, .int .i64 y30.Left] :: Row K38 (.slice A2 l_.V.length c3) l_.V :: Bx b1 28 [.slice A2 l_.V.length c3] :: Row K38 (.slice A17 xs20.length c19) xs20 :: Γ))) wd236 := H235
              refine sp_op [(28, .pointer (some ((oA A4).add (Int.toNat i25 * 1))))] (ac (hE233 2 (by decide)) an) ?_
              have hA238 := (hv7 _ (H235).tl.d.d.d.d).adO hj132
              refine r_ld1 (.int .i64 (rd used i25)) LD3 rfl ((hv7 _ (H235).tl.d.d.d.d).c0A hA238 hj132 _ rfl) ?_
              exact r_nil (n_lp ⟨_, rfl, undef, rfl, H235⟩)
            · intro η129 wd242 Δ243 hE239 hR240 H241
              have H241 : Hp w0 ((Δ243 ++ (Bx b49 38 [.int .i64 y30.Origin, .int .i64 y30.Expiry, .int .i64 y30.Left] :: Row K38 (.slice A2 l_.V.length c3) l_.V :: Bx b1 28 [.slice A2 l_.V.length c3] :: Row K38 (.slice A17 xs20.length c19) xs20 :: Γ))) wd242 := H241
              refine sp_op [(29, .int .i64 (rd used i25))] (ac (hE239 3 (by decide)) an) ?_
              refine r_pure (.bool (decide ((rd used i25) < 0))) rfl ?_
              exact r_nil (n_lp ⟨_, rfl, undef, rfl, H241⟩)
            · intro η129 wd247 Δ248 hE244 hR245 H246
              have H246 : Hp w0 ((Δ248 ++ (Bx b49 38 [.int .i64 y30.Origin, .int .i64 y30.Expiry, .int .i64 y30.Left] :: Row K38 (.slice A2 l_.V.length c3) l_.V :: Bx b1 28 [.slice A2 l_.V.length c3] :: Row K38 (.slice A17 xs20.length c19) xs20 :: Γ))) wd247 := H246
              refine sp_op [(30, .bool (decide ((rd used i25) < 0)))] (ac (hE244 4 (by decide)) an) ?_
              refine r_pure (.bool (decide ((rd used i25) < 0))) rfl ?_
              exact r_nil (n_lp ⟨_, rfl, undef, rfl, H246⟩)
            · intro η129 wd252 Δ253 hE249 hR250 H251
              have H251 : Hp w0 ((Δ253 ++ (Bx b49 38 [.int .i64 y30.Origin, .int .i64 y30.Expiry, .int .i64 y30.Left] :: Row K38 (.slice A2 l_.V.length c3) l_.V :: Bx b1 28 [.slice A2 l_.V.length c3] :: Row K38 (.slice A17 xs20.length c19) xs20 :: Γ))) wd252 := H251
              refine sp_op [(1, .slice A4 used.length c5), (31, .bool (decide ((rd used i25) < 0)))] (ac rfl (ac (hE249 5 (by decide)) an)) ?_
              refine r_pure (.slice A4 used.length c5) rfl ?_ (wn_t rfl rfl (by decide) rfl hb134)
              exact r_nil (n_lp ⟨_, rfl, undef, rfl, H251⟩)
            · intro η129 wd257 Δ258 hE254 hR255 H256
              have H256 : Hp w0 ((Δ258 ++ (Bx b49 38 [.int .i64 y30.Origin, .int .i64 y30.Expiry, .int .i64 y30.Left] :: Row K38 (.slice A2 l_.V.length c3) l_.V :: Bx b1 28 [.slice A2 l_.V.length c3] :: Row K38 (.slice A17 xs20.length c19) xs20 :: Γ))) wd257 := H256
              refine sp_op [(6, .int .i64 i25), (31, .bool (decide ((rd used i25) < 0)))] (ac rfl (ac (hE254 5 (by decide)) an)) ?_
              refine r_pure (.int .i64 i25) rfl ?_ (wn_t rfl rfl (by decide) rfl hb134)
              exact r_nil (n_lp ⟨_, rfl, undef, rfl, H256⟩)
            · intro η129 wd262 Δ263 hE259 hR260 H261
              have H261 : Hp w0 ((Δ263 ++ (Bx b49 38 [.int .i64 y30.Origin, .int .i64 y30.Expiry, .int .i64 y30.Left] :: Row K38 (.slice A2 l_.V.length c3) l_.V :: Bx b1 28 [.slice A2 l_.V.length c3] :: Row K38 (.slice A17 xs20.length c19) xs20 :: Γ))) wd262 := H261
              refine sp_op [(31, .bool (decide ((rd used i25) < 0))), (32, .slice A4 used.length c5), (33, .int .i64 i25)] (ac (hE259 5 (by decide)) (ac (hE259 6 (by decide)) (ac (hE259 7 (by decide)) an))) ?_
              have hA264 := (hv7 _ (H261).tl.d.d.d.d).adO hj132
              refine r_ix IX29 rfl rfl hA264 h0130 h1131 ?_ (wn_t rfl rfl (by decide) rfl hb134)
              exact r_nil (n_lp ⟨_, rfl, undef, rfl, H261⟩)
            · intro η129 wd268 Δ269 hE265 hR266 H267
              have H267 : Hp w0 ((Δ269 ++ (Bx b49 38 [.int .i64 y30.Origin, .int .i64 y30.Expiry, .int .i64 y30.Left] :: Row K38 (.slice A2 l_.V.length c3) l_.V :: Bx b1 28 [.slice A2 l_.V.length c3] :: Row K38 (.slice A17 xs20.length c19) xs20 :: Γ))) wd268 := H267
              refine sp_op [(31, .bool (decide ((rd used i25) < 0))), (34, .pointer (some ((oA A4).add (Int.toNat i25 * 1))))] (ac (hE265 5 (by decide)) (ac (hE265 8 (by decide)) an)) ?_
              have hA270 := (hv7 _ (H267).tl.d.d.d.d).adO hj132
              refine r_ld1 (.int .i64 (rd used i25)) LD3 rfl ((hv7 _ (H267).tl.d.d.d.d).c0A hA270 hj132 _ rfl) ?_ (wn_t rfl rfl (by decide) rfl hb134)
              exact r_nil (n_lp ⟨_, rfl, undef, rfl, H267⟩)
            · intro η129 wd274 Δ275 hE271 hR272 H273
              have H273 : Hp w0 ((Δ275 ++ (Bx b49 38 [.int .i64 y30.Origin, .int .i64 y30.Expiry, .int .i64 y30.Left] :: Row K38 (.slice A2 l_.V.length c3) l_.V :: Bx b1 28 [.slice A2 l_.V.length c3] :: Row K38 (.slice A17 xs20.length c19) xs20 :: Γ))) wd274 := H273
              refine sp_op [(7, .pointer (some ⟨b49, 0, none⟩)), (31, .bool (decide ((rd used i25) < 0)))] (ac rfl (ac (hE271 5 (by decide)) an)) ?_
              refine r_fa FA38_2 ⟨b49, 2, none⟩ rfl rfl ?_ (wn_t rfl rfl (by decide) rfl hb134)
              exact r_nil (n_lp ⟨_, rfl, undef, rfl, H273⟩)
            · intro η129 wd279 Δ280 hE276 hR277 H278
              have H278 : Hp w0 ((Δ280 ++ (Bx b49 38 [.int .i64 y30.Origin, .int .i64 y30.Expiry, .int .i64 y30.Left] :: Row K38 (.slice A2 l_.V.length c3) l_.V :: Bx b1 28 [.slice A2 l_.V.length c3] :: Row K38 (.slice A17 xs20.length c19) xs20 :: Γ))) wd279 := H278
              refine sp_op [(31, .bool (decide ((rd used i25) < 0))), (36, .pointer (some ⟨b49, 2, none⟩))] (ac (hE276 5 (by decide)) (ac (hE276 10 (by decide)) an)) ?_
              refine r_ld1 (.int .i64 y30.Left) LD3 rfl (((H278).tl.g0).cell _ rfl) ?_ (wn_t rfl rfl (by decide) rfl hb134)
              exact r_nil (n_lp ⟨_, rfl, undef, rfl, H278⟩)
            · intro η129 wd284 Δ285 hE281 hR282 H283
              have H283 : Hp w0 ((Δ285 ++ (Bx b49 38 [.int .i64 y30.Origin, .int .i64 y30.Expiry, .int .i64 y30.Left] :: Row K38 (.slice A2 l_.V.length c3) l_.V :: Bx b1 28 [.slice A2 l_.V.length c3] :: Row K38 (.slice A17 xs20.length c19) xs20 :: Γ))) wd284 := H283
              refine sp_op [(31, .bool (decide ((rd used i25) < 0))), (35, .int .i64 (rd used i25)), (37, .int .i64 y30.Left)] (ac (hE281 5 (by decide)) (ac (hE281 9 (by decide)) (ac (hE281 11 (by decide)) an))) ?_
              refine r_pure (.bool (decide ((rd used i25) > y30.Left))) rfl ?_ (wn_t rfl rfl (by decide) rfl hb134)
              exact r_nil (n_lp ⟨_, rfl, undef, rfl, H283⟩)
            · intro η129 wd289 Δ290 hE286 hR287 H288
              have H288 : Hp w0 ((Δ290 ++ (Bx b49 38 [.int .i64 y30.Origin, .int .i64 y30.Expiry, .int .i64 y30.Left] :: Row K38 (.slice A2 l_.V.length c3) l_.V :: Bx b1 28 [.slice A2 l_.V.length c3] :: Row K38 (.slice A17 xs20.length c19) xs20 :: Γ))) wd289 := H288
              refine sp_op [(31, .bool (decide ((rd used i25) < 0))), (38, .bool (decide ((rd used i25) > y30.Left)))] (ac (hE286 5 (by decide)) (ac (hE286 12 (by decide)) an)) ?_
              refine r_pick_f (.bool (decide ((rd used i25) > y30.Left))) hb134 rfl rfl ?_
              exact r_nil (n_lp ⟨_, rfl, undef, rfl, H288⟩)
            · intro η129 wd292 hV293 H291
              have H294 : Hp w0 (Bx b49 38 [.int .i64 y30.Origin, .int .i64 y30.Expiry, .int .i64 y30.Left] :: Row K38 (.slice A2 l_.V.length c3) l_.V :: Bx b1 28 [.slice A2 l_.V.length c3] :: Row K38 (.slice A17 xs20.length c19) xs20 :: Γ) wd292 := H291
              refine n_frame [(0, .pointer (some ⟨b1, 0, none⟩)), (1, .slice A4 used.length c5), (5, .slice A17 xs20.length c19), (6, .int .i64 i25), (7, .pointer (some ⟨b49, 0, none⟩)), (19, .slice A2 l_.V.length c3), (20, .int .i64 (l_.V.length : Int)), (21, .int .i64 i25), (32, .slice A4 used.length c5), (33, .int .i64 i25), (34, .pointer (some ((oA A4).add (Int.toNat i25 * 1)))), (35, .int .i64 (rd used i25)), (36, .pointer (some ⟨b49, 2, none⟩)), (37, .int .i64 y30.Left), (38, .bool (decide ((rd used i25) > y30.Left))), (39, .bool (decide ((rd used i25) > y30.Left)))] (ac rfl (ac rfl (ac rfl (ac rfl (ac rfl (ac rfl (ac rfl (ac rfl (ac (hV293 6 rfl) (ac (hV293 7 rfl) (ac (hV293 8 rfl) (ac (hV293 9 rfl) (ac (hV293 10 rfl) (ac (hV293 11 rfl) (ac (hV293 12 rfl) (ac (hV293 13 rfl) an)))))))))))))))) ?_
              refine n_cut ⟨decide ((rd used i25) > y30.Left), upk (ac rfl (ac rfl (ac rfl (ac rfl (ac rfl (ac rfl (ac rfl (ac rfl (ac rfl an))))))))), H294.u3.u3.u3, hm⟩
        · rintro ρ w ⟨q54, ⟨base, rfl⟩, H55, hm⟩
          unfold scutageref09_Losses_Take.j2 at hm
          rcases ite_some hm with ⟨hb56, hm⟩ | ⟨hb56, hm⟩
          · refine st_condt hb56 rfl ?_
            refine st_seq ?_
            refine st_region ?_
            refine r_pure (.int .i64 1) rfl ?_
            refine r_seq ?_
            have hq_ := Option.some.inj hm
            subst hq_
            obtain ⟨rfl, rfl⟩ := some_inj2 (show some ((1, (⟨l_.V⟩ : scutageref09_Losses)) : (Int × scutageref09_Losses)) = some (r0_, r1_) from hm22)
            refine st_ret1 rfl rfl (Nat.le_of_ble_eq_true rfl) rfl ?_
            exact ⟨A2, l_.V.length, c3, rfl, H55.u2.d.u2.d.u1⟩
          · refine st_condf hb56 rfl ?_
            refine st_skip ?_
            refine n_sq ?_
            refine st_seq ?_
            obtain ⟨⟨h058, h159⟩, hm⟩ := gd_some hm
            have hj60 := rd_get h058 h159
            refine Flow.run' [[], [0], [], [], [2, 3], [2, 3, 4], [0, 1, 2, 3, 4, 5], [0, 1, 2, 3, 4, 5, 6], [0, 1, 2, 3, 4, 5, 6, 7]] [(40, 0), (41, 1), (42, 2), (43, 3), (44, 4), (45, 5), (46, 6), (47, 7)] [(fun η57 v => v.1 = .pointer (some ⟨b49, 2, none⟩)), (fun η57 v => v.1 = .int .i64 y30.Left), (fun η57 v => v.1 = .slice A4 used.length c5), (fun η57 v => v.1 = .int .i64 i25), (fun η57 v => v.1 = .pointer (some ((oA A4).add (Int.toNat i25 * 1)))), (fun η57 v => v.1 = .int .i64 (rd used i25)), (fun η57 v => v.1 = .int .i64 (w64 (y30.Left - (rd used i25)))), (fun η57 v => v.1 = .pointer (some ⟨b49, 2, none⟩)), (fun _ _ => True)] [⟨none, (some 8), fun η57 => Bx b49 38 [.int .i64 y30.Origin, .int .i64 y30.Expiry, .int .i64 y30.Left]⟩, ⟨(some 8), none, fun η57 => Bx b49 38 [.int .i64 y30.Origin, .int .i64 y30.Expiry, .int .i64 (w64 (y30.Left - (rd used i25)))]⟩] rfl (by kernel_rfl) (by kernel_rfl) H55.u3 ⟨?_, ?_, ?_, ?_, ?_, ?_, ?_, ?_, ?_, trivial⟩ ?_
            · intro η57 wd67 Δ68 hE64 hR65 H66
              have H66 : Hp w0 ((Δ68 ++ (Row K38 (.slice A2 l_.V.length c3) l_.V :: Bx b1 28 [.slice A2 l_.V.length c3] :: Row K38 (.slice A17 xs20.length c19) xs20 :: Γ))) wd67 := H66
              refine sp_op [(7, .pointer (some ⟨b49, 0, none⟩))] (ac rfl an) ?_
              refine r_fa FA38_2 ⟨b49, 2, none⟩ rfl rfl ?_
              exact r_nil (n_lp ⟨_, rfl, undef, rfl, H66⟩)
            · intro η57 wd72 Δ73 hE69 hR70 H71
              have H71 : Hp w0 ((Δ73 ++ (Row K38 (.slice A2 l_.V.length c3) l_.V :: Bx b1 28 [.slice A2 l_.V.length c3] :: Row K38 (.slice A17 xs20.length c19) xs20 :: Γ))) wd72 := H71
              refine sp_op [(40, .pointer (some ⟨b49, 2, none⟩))] (ac (hE69 0 (by decide)) an) ?_
              refine r_ld1 (.int .i64 y30.Left) LD3 rfl (((show (Bx b49 38 [.int .i64 y30.Origin, .int .i64 y30.Expiry, .int .i64 y30.Left]) _ from (H71).memr (hR70 _ (List.mem_of_getElem? (i := 0) rfl) rfl))).cell _ rfl) ?_
              exact r_nil (n_lp ⟨_, rfl, undef, rfl, H71⟩)
            · intro η57 wd77 Δ78 hE74 hR75 H76
              have H76 : Hp w0 ((Δ78 ++ (Row K38 (.slice A2 l_.V.length c3) l_.V :: Bx b1 28 [.slice A2 l_.V.length c3] :: Row K38 (.slice A17 xs20.length c19) xs20 :: Γ))) wd77 := H76
              refine sp_op [(1, .slice A4 used.length c5)] (ac rfl an) ?_
              refine r_pure (.slice A4 used.length c5) rfl ?_
              exact r_nil (n_lp ⟨_, rfl, undef, rfl, H76⟩)
            · intro η57 wd82 Δ83 hE79 hR80 H81
              have H81 : Hp w0 ((Δ83 ++ (Row K38 (.slice A2 l_.V.length c3) l_.V :: Bx b1 28 [.slice A2 l_.V.length c3] :: Row K38 (.slice A17 xs20.length c19) xs20 :: Γ))) wd82 := H81
              refine sp_op [(6, .int .i64 i25)] (ac rfl an) ?_
              refine r_pure (.int .i64 i25) rfl ?_
              exact r_nil (n_lp ⟨_, rfl, undef, rfl, H81⟩)
            · intro η57 wd87 Δ88 hE84 hR85 H86
              have H86 : Hp w0 ((Δ88 ++ (Row K38 (.slice A2 l_.V.length c3) l_.V :: Bx b1 28 [.slice A2 l_.V.length c3] :: Row K38 (.slice A17 xs20.length c19) xs20 :: Γ))) wd87 := H86
              refine sp_op [(42, .slice A4 used.length c5), (43, .int .i64 i25)] (ac (hE84 2 (by decide)) (ac (hE84 3 (by decide)) an)) ?_
              have hA92 := (hv7 _ (H86).tl.d.d.d).adO hj60
              refine r_ix IX29 rfl rfl hA92 h058 h159 ?_
              exact r_nil (n_lp ⟨_, rfl, undef, rfl, H86⟩)
            · intro η57 wd96 Δ97 hE93 hR94 H95
              have H95 : Hp w0 ((Δ97 ++ (Row K38 (.slice A2 l_.V.length c3) l_.V :: Bx b1 28 [.slice A2 l_.V.length c3] :: Row K38 (.slice A17 xs20.length c19) xs20 :: Γ))) wd96 := H95
              refine sp_op [(44, .pointer (some ((oA A4).add (Int.toNat i25 * 1))))] (ac (hE93 4 (by decide)) an) ?_
              have hA98 := (hv7 _ (H95).tl.d.d.d).adO hj60
              refine r_ld1 (.int .i64 (rd used i25)) LD3 rfl ((hv7 _ (H95).tl.d.d.d).c0A hA98 hj60 _ rfl) ?_
              exact r_nil (n_lp ⟨_, rfl, undef, rfl, H95⟩)
            · intro η57 wd102 Δ103 hE99 hR100 H101
              have H101 : Hp w0 ((Δ103 ++ (Row K38 (.slice A2 l_.V.length c3) l_.V :: Bx b1 28 [.slice A2 l_.V.length c3] :: Row K38 (.slice A17 xs20.length c19) xs20 :: Γ))) wd102 := H101
              refine sp_op [(41, .int .i64 y30.Left), (45, .int .i64 (rd used i25))] (ac (hE99 1 (by decide)) (ac (hE99 5 (by decide)) an)) ?_
              refine r_pure (.int .i64 (w64 (y30.Left - (rd used i25)))) rfl ?_
              exact r_nil (n_lp ⟨_, rfl, undef, rfl, H101⟩)
            · intro η57 wd107 Δ108 hE104 hR105 H106
              have H106 : Hp w0 ((Δ108 ++ (Row K38 (.slice A2 l_.V.length c3) l_.V :: Bx b1 28 [.slice A2 l_.V.length c3] :: Row K38 (.slice A17 xs20.length c19) xs20 :: Γ))) wd107 := H106
              refine sp_op [(7, .pointer (some ⟨b49, 0, none⟩))] (ac rfl an) ?_
              refine r_fa FA38_2 ⟨b49, 2, none⟩ rfl rfl ?_
              exact r_nil (n_lp ⟨_, rfl, undef, rfl, H106⟩)
            · intro η57 wd112 Δ113 hE109 hR110 H111
              have H111 : Hp w0 (Bx b49 38 [.int .i64 y30.Origin, .int .i64 y30.Expiry, .int .i64 y30.Left] :: (Δ113 ++ (Row K38 (.slice A2 l_.V.length c3) l_.V :: Bx b1 28 [.slice A2 l_.V.length c3] :: Row K38 (.slice A17 xs20.length c19) xs20 :: Γ))) wd112 := H111
              refine sp_op [(46, .int .i64 (w64 (y30.Left - (rd used i25)))), (47, .pointer (some ⟨b49, 2, none⟩))] (ac (hE109 6 (by decide)) (ac (hE109 7 (by decide)) an)) ?_
              refine r_st1 LD3 rfl rfl rfl H111 rfl ?_
              intro wd115 H114
              exact r_nil (n_lp ⟨_, rfl, (.tuple #[.pointer (some ⟨b49, 0, none⟩)]), trivial, H114⟩)
            · intro η57 wd117 hV118 H116
              have H119 : Hp w0 (Bx b49 38 [.int .i64 y30.Origin, .int .i64 y30.Expiry, .int .i64 (w64 (y30.Left - (rd used i25)))] :: Row K38 (.slice A2 l_.V.length c3) l_.V :: Bx b1 28 [.slice A2 l_.V.length c3] :: Row K38 (.slice A17 xs20.length c19) xs20 :: Γ) wd117 := H116
              refine n_frame [(0, .pointer (some ⟨b1, 0, none⟩)), (1, .slice A4 used.length c5), (5, .slice A17 xs20.length c19), (7, .pointer (some ⟨b49, 0, none⟩)), (19, .slice A2 l_.V.length c3), (20, .int .i64 (l_.V.length : Int)), (21, .int .i64 i25)] (ac rfl (ac rfl (ac rfl (ac rfl (ac rfl (ac rfl (ac rfl an))))))) ?_
              refine n_sq ?_
              refine st_seq ?_
              refine st_region ?_
              refine r_fa FA38_2 ⟨b49, 2, none⟩ rfl rfl ?_
              refine r_ld1 (.int .i64 (w64 (y30.Left - (rd used i25)))) LD3 rfl ((H119.g0).cell _ rfl) ?_
              refine r_pure (.bool (decide (w64 (y30.Left - (rd used i25)) > 0))) rfl ?_
              refine r_seq ?_
              rcases ite_some hm with ⟨hb120, hm⟩ | ⟨hb120, hm⟩
              · refine st_condt hb120 rfl ?_
                refine st_region ?_
                refine r_pure (.slice A17 xs20.length c19) rfl ?_
                refine r_ldA [.int .i64 y30.Origin, .int .i64 y30.Expiry, .int .i64 (w64 (y30.Left - (rd used i25)))] LD38 rfl rfl ((H119.g0).cells rfl) ?_
                refine r_buildSlice (K := K38) [(⟨y30.Origin, y30.Expiry, w64 (y30.Left - (rd used i25))⟩ : api_Vintage)] EL26 rfl rfl rfl (by decide) (by decide) rfl H119 ?_
                intro b121 wd123 H122
                obtain ⟨hf124, hm⟩ := gd_some hm
                refine r_append (K := K38) (ys := [(⟨y30.Origin, y30.Expiry, w64 (y30.Left - (rd used i25))⟩ : api_Vintage)]) AP26 rfl rfl rfl rfl H122.u4 (((H122.u4).g1).src) (fit_le hf124 (by decide)) ?_
                intro A125 c126 wd127 H128
                refine r_pure (.slice A125 ((xs20 ++ [(⟨y30.Origin, y30.Expiry, w64 (y30.Left - (rd used i25))⟩ : api_Vintage)]).length) c126) rfl ?_
                refine r_nil ?_
                refine n_bl ?_
                refine n_cut ⟨A125, (xs20 ++ [(⟨y30.Origin, y30.Expiry, w64 (y30.Left - (rd used i25))⟩ : api_Vintage)]).length, c126, xs20 ++ [(⟨y30.Origin, y30.Expiry, w64 (y30.Left - (rd used i25))⟩ : api_Vintage)], upk (ac rfl (ac rfl (ac rfl (ac rfl (ac rfl (ac rfl an)))))), H128.u1.d.u1.d.u2.u2, hm⟩
              · refine st_condf hb120 rfl ?_
                refine st_skip ?_
                refine n_bl ?_
                refine n_cut ⟨A17, xs20.length, c19, xs20, upk (ac rfl (ac rfl (ac rfl (ac rfl (ac rfl (ac rfl an)))))), H119.d.u2.u2.u2, hm⟩
      · rintro ρ w ⟨A43, n44, c45, xs46, ⟨base, rfl⟩, H47, hm⟩
        obtain rfl := (H47.g2).leneq
        unfold scutageref09_Losses_Take.j1 at hm
        refine st_region ?_
        refine r_pure (.int .i64 (w64 (i25 + 1))) rfl ?_
        refine r_pure (.int .i64 (w64 (i25 + 1))) rfl ?_
        refine r_nil ?_
        refine n_round (IH33 _ _ rfl _ _ _ ⟨i25 + 1, xs46, dn26 ++ [y30], A43, xs46.length, c45, rfl, range_more hxs27, range_len hi28, upk (ac rfl (ac rfl (ac rfl (ac rfl (ac rfl (ac hnx39 an)))))), H47.u2.u2.u2⟩ hm)

set_option maxHeartbeats 2000000 in
theorem scutagekeep_Same_int_ok {w0 w : World} {Γ : List (World → Prop)} (a_ : List Int) (A1 : Option Addr) (n6 c2 : Nat) (hn5 : n6 = a_.length) (hc3 : a_.length ≤ c2) (hv4 : ∀ u, Hp w0 Γ u → SlR K3 A1 a_ u) (b_ : List Int) (A7 : Option Addr) (n12 c8 : Nat) (hn11 : n12 = b_.length) (hc9 : b_.length ≤ c8) (hv10 : ∀ u, Hp w0 Γ u → SlR K3 A7 b_ u) (r0_ : Bool) (H : Hp w0 (Γ) w) (hm : scutagekeep_Same_int a_ b_ = some r0_) : Calls Try.prog 20 #[.slice A1 n6 c2, .slice A7 n12 c8] w (fun e w => e = .returned (.bool r0_) ∧ Hp w0 (Γ) w) := by
  subst hn5
  subst hn11
  unfold scutagekeep_Same_int at hm
  refine st_enter Try.func20 rfl Try.ntmps20 (Nat.le_of_ble_eq_true rfl) ?_
  refine st_seq ?_
  refine st_region ?_
  refine r_pure (.bool false) rfl ?_
  refine r_seq ?_
  refine st_seq ?_
  refine st_seq ?_
  refine st_region ?_
  refine r_pure (.slice A1 a_.length c2) rfl ?_
  refine r_len Try.underlying29 rfl ?_
  refine r_pure (.slice A7 b_.length c8) rfl ?_
  refine r_len Try.underlying29 rfl ?_
  refine r_pure (.bool ((a_.length : Int) != (b_.length : Int))) rfl ?_
  refine r_seq ?_
  rcases ite_some hm with ⟨hb13, hm⟩ | ⟨hb13, hm⟩
  · refine st_condt hb13 rfl ?_
    refine st_seq ?_
    refine st_region ?_
    refine r_pure (.bool false) rfl ?_
    refine r_seq ?_
    have hq_ := Option.some.inj hm
    subst hq_
    refine st_ret1 rfl rfl (Nat.le_of_ble_eq_true rfl) rfl ?_
    exact ⟨rfl, H⟩
  · refine st_condf hb13 rfl ?_
    refine st_skip ?_
    refine n_sq ?_
    refine st_seq ?_
    refine st_seq ?_
    refine st_region ?_
    refine r_pure (.int .i64 0) rfl ?_
    refine r_seq ?_
    refine st_block ?_
    obtain ⟨tl18, hl19, hm17⟩ := bind_some hm
    refine st_loopF (scutagekeep_Same_int.l1 a_ b_) (fun s ρ w => ∃ v15 : Int, v15 = s ∧ (∃ base, ρ = updl base [(0, .slice A1 a_.length c2), (1, .slice A7 b_.length c8), (5, .int .i64 v15)]) ∧ Hp w0 (Γ) w) hl19 (fun _ => rfl) ⟨0, rfl, upk (ac rfl (ac rfl (ac rfl an))), H⟩ ?_
    rintro fuel25 IH27 s ρ w ⟨v15, rfl, ⟨base, rfl⟩, H16⟩ hm
    rw [scutagekeep_Same_int.l1] at hm
    refine st_seq ?_
    refine st_seq ?_
    refine st_region ?_
    refine r_pure (.int .i64 v15) rfl ?_
    refine r_pure (.slice A1 a_.length c2) rfl ?_
    refine r_len Try.underlying29 rfl ?_
    refine r_pure (.bool (decide (v15 < (a_.length : Int)))) rfl ?_
    refine r_seq ?_
    rcases ite_some hm with ⟨hb28, hm⟩ | ⟨hb28, hm⟩
    · refine st_condt hb28 rfl ?_
      refine st_skip ?_
      refine n_sq ?_
      refine st_seq ?_
      refine st_block ?_
      refine st_seq ?_
      obtain ⟨⟨h030, h131⟩, hm⟩ := gd_some hm
      have hj32 := rd_get h030 h131
      obtain ⟨⟨h034, h135⟩, hm⟩ := gd_some hm
      have hj36 := rd_get h034 h135
      refine Flow.run' [[], [], [0, 1], [0, 1, 2], [], [], [4, 5], [4, 5, 6], [0, 1, 2, 3, 4, 5, 6, 7]] [(17, 0), (18, 1), (19, 2), (20, 3), (21, 4), (22, 5), (23, 6), (24, 7), (25, 8)] [(fun η29 v => v.1 = .slice A1 a_.length c2), (fun η29 v => v.1 = .int .i64 v15), (fun η29 v => v.1 = .pointer (some ((oA A1).add (Int.toNat v15 * 1)))), (fun η29 v => v.1 = .int .i64 (rd a_ v15)), (fun η29 v => v.1 = .slice A7 b_.length c8), (fun η29 v => v.1 = .int .i64 v15), (fun η29 v => v.1 = .pointer (some ((oA A7).add (Int.toNat v15 * 1)))), (fun η29 v => v.1 = .int .i64 (rd b_ v15)), (fun η29 v => v.1 = .bool ((rd a_ v15) != (rd b_ v15)))] [] rfl (by kernel_rfl) (by kernel_rfl) H16 ⟨?_, ?_, ?_, ?_, ?_, ?_, ?_, ?_, ?_, trivial⟩ ?_
      · intro η29 wd41 Δ42 hE38 hR39 H40
        have H40 : Hp w0 ((Δ42 ++ Γ)) wd41 := H40
        refine sp_op [(0, .slice A1 a_.length c2)] (ac rfl an) ?_
        refine r_pure (.slice A1 a_.length c2) rfl ?_
        exact r_nil (n_lp ⟨_, rfl, undef, rfl, H40⟩)
      · intro η29 wd46 Δ47 hE43 hR44 H45
        have H45 : Hp w0 ((Δ47 ++ Γ)) wd46 := H45
        refine sp_op [(5, .int .i64 v15)] (ac rfl an) ?_
        refine r_pure (.int .i64 v15) rfl ?_
        exact r_nil (n_lp ⟨_, rfl, undef, rfl, H45⟩)
      · intro η29 wd51 Δ52 hE48 hR49 H50
        have H50 : Hp w0 ((Δ52 ++ Γ)) wd51 := H50
        refine sp_op [(17, .slice A1 a_.length c2), (18, .int .i64 v15)] (ac (hE48 0 (by decide)) (ac (hE48 1 (by decide)) an)) ?_
        have hA56 := (hv4 _ (H50).tl).adO hj32
        refine r_ix IX29 rfl rfl hA56 h030 h131 ?_
        exact r_nil (n_lp ⟨_, rfl, undef, rfl, H50⟩)
      · intro η29 wd60 Δ61 hE57 hR58 H59
        have H59 : Hp w0 ((Δ61 ++ Γ)) wd60 := H59
        refine sp_op [(19, .pointer (some ((oA A1).add (Int.toNat v15 * 1))))] (ac (hE57 2 (by decide)) an) ?_
        have hA62 := (hv4 _ (H59).tl).adO hj32
        refine r_ld1 (.int .i64 (rd a_ v15)) LD3 rfl ((hv4 _ (H59).tl).c0A hA62 hj32 _ rfl) ?_
        exact r_nil (n_lp ⟨_, rfl, undef, rfl, H59⟩)
      · intro η29 wd66 Δ67 hE63 hR64 H65
        have H65 : Hp w0 ((Δ67 ++ Γ)) wd66 := H65
        refine sp_op [(1, .slice A7 b_.length c8)] (ac rfl an) ?_
        refine r_pure (.slice A7 b_.length c8) rfl ?_
        exact r_nil (n_lp ⟨_, rfl, undef, rfl, H65⟩)
      · intro η29 wd71 Δ72 hE68 hR69 H70
        have H70 : Hp w0 ((Δ72 ++ Γ)) wd71 := H70
        refine sp_op [(5, .int .i64 v15)] (ac rfl an) ?_
        refine r_pure (.int .i64 v15) rfl ?_
        exact r_nil (n_lp ⟨_, rfl, undef, rfl, H70⟩)
      · intro η29 wd76 Δ77 hE73 hR74 H75
        have H75 : Hp w0 ((Δ77 ++ Γ)) wd76 := H75
        refine sp_op [(21, .slice A7 b_.length c8), (22, .int .i64 v15)] (ac (hE73 4 (by decide)) (ac (hE73 5 (by decide)) an)) ?_
        have hA81 := (hv10 _ (H75).tl).adO hj36
        refine r_ix IX29 rfl rfl hA81 h034 h135 ?_
        exact r_nil (n_lp ⟨_, rfl, undef, rfl, H75⟩)
      · intro η29 wd85 Δ86 hE82 hR83 H84
        have H84 : Hp w0 ((Δ86 ++ Γ)) wd85 := H84
        refine sp_op [(23, .pointer (some ((oA A7).add (Int.toNat v15 * 1))))] (ac (hE82 6 (by decide)) an) ?_
        have hA87 := (hv10 _ (H84).tl).adO hj36
        refine r_ld1 (.int .i64 (rd b_ v15)) LD3 rfl ((hv10 _ (H84).tl).c0A hA87 hj36 _ rfl) ?_
        exact r_nil (n_lp ⟨_, rfl, undef, rfl, H84⟩)
      · intro η29 wd91 Δ92 hE88 hR89 H90
        have H90 : Hp w0 ((Δ92 ++ Γ)) wd91 := H90
        refine sp_op [(20, .int .i64 (rd a_ v15)), (24, .int .i64 (rd b_ v15))] (ac (hE88 3 (by decide)) (ac (hE88 7 (by decide)) an)) ?_
        refine r_pure (.bool ((rd a_ v15) != (rd b_ v15))) rfl ?_
        exact r_nil (n_lp ⟨_, rfl, undef, rfl, H90⟩)
      · intro η29 wd94 hV95 H93
        have H96 : Hp w0 (Γ) wd94 := H93
        refine n_frame [(0, .slice A1 a_.length c2), (1, .slice A7 b_.length c8), (5, .int .i64 v15), (25, .bool ((rd a_ v15) != (rd b_ v15)))] (ac rfl (ac rfl (ac rfl (ac (hV95 8 rfl) an)))) ?_
        refine n_sq ?_
        rcases ite_some hm with ⟨hb97, hm⟩ | ⟨hb97, hm⟩
        · refine st_condt hb97 rfl ?_
          refine st_seq ?_
          refine st_region ?_
          refine r_pure (.bool false) rfl ?_
          refine r_seq ?_
          have hq_ := Option.some.inj hm
          subst hq_
          have hq_ := Option.some.inj (show some (false : Bool) = some r0_ from hm17)
          subst hq_
          refine st_ret1 rfl rfl (Nat.le_of_ble_eq_true rfl) rfl ?_
          exact ⟨rfl, H96⟩
        · refine st_condf hb97 rfl ?_
          refine st_skip ?_
          refine n_bl ?_
          refine n_sq ?_
          refine st_region ?_
          refine r_pure (.int .i64 v15) rfl ?_
          refine r_pure (.int .i64 (w64 (v15 + 1))) rfl ?_
          refine r_pure (.int .i64 (w64 (v15 + 1))) rfl ?_
          refine r_nil ?_
          refine n_round (IH27 _ _ _ ⟨w64 (v15 + 1), rfl, upk (ac rfl (ac rfl (ac rfl an))), H96⟩ hm)
    · refine st_condf hb28 rfl ?_
      have hq_ := Option.some.inj hm
      refine st_exit rfl ?_
      subst hq_
      refine n_sq ?_
      refine st_seq ?_
      refine st_region ?_
      refine r_pure (.bool true) rfl ?_
      refine r_seq ?_
      have hq_ := Option.some.inj hm17
      subst hq_
      refine st_ret1 rfl rfl (Nat.le_of_ble_eq_true rfl) rfl ?_
      exact ⟨rfl, H16⟩

set_option maxHeartbeats 2000000 in
theorem vintage_Losses_Clone_ok {w0 w : World} {Γ : List (World → Prop)} (b1 : Nat) (l_ : vintage_Losses) (A2 : Option Addr) (n7 c3 : Nat) (hn6 : n7 = l_.f_l.length) (hc4 : l_.f_l.length ≤ c3) (hv5 : ∀ u, Hp w0 Γ u → SlR K38 A2 l_.f_l u) (hv8 : ∀ u, Hp w0 Γ u → Bx b1 75 [.slice A2 n7 c3] u) (r0_ : vintage_Losses) (H : Hp w0 (Γ) w) (hm : vintage_Losses_Clone l_ = some r0_) : Calls Try.prog 11 #[.pointer (some ⟨b1, 0, none⟩)] w (fun e w => ∃ (bx1 : Nat), ∃ (Ax2 : Option Addr) (nx3 cx4 : Nat), e = .returned (.pointer (some ⟨bx1, 0, none⟩)) ∧ Hp w0 (Bx bx1 75 [.slice Ax2 nx3 cx4] :: Row K38 (.slice Ax2 nx3 cx4) r0_.f_l :: Γ) w) := by
  subst hn6
  unfold vintage_Losses_Clone at hm
  refine st_enter Try.func11 rfl Try.ntmps11 (Nat.le_of_ble_eq_true rfl) ?_
  refine st_seq ?_
  refine st_region ?_
  refine r_pure (.pointer none) rfl ?_
  refine r_seq ?_
  refine st_seq ?_
  refine st_region ?_
  refine r_pure (.pointer (some ⟨b1, 0, none⟩)) rfl ?_
  obtain ⟨y9, hy10, hm⟩ := bind_some hm
  refine r_callf Try.call22 (vintage_Losses_Rows_ok b1 (⟨l_.f_l⟩ : vintage_Losses) A2 l_.f_l.length c3 rfl hc4 (fun _ H => (hv5 _ H)) (fun _ H => (hv8 _ H)) y9 H hy10) ?_
  rintro e12 wd11 ⟨A15, n16, c17, rfl, H14⟩
  obtain rfl := (H14.g0).leneq
  refine ⟨_, rfl, ?_⟩
  refine r_build [.slice A15 y9.length c17] FL75 rfl ?_
  refine r_box [.slice A15 y9.length c17] H14 rfl ?_
  intro b18 wd20 H19
  refine r_pure (.pointer (some ⟨b18, 0, none⟩)) rfl ?_
  refine r_seq ?_
  have hq_ := Option.some.inj hm
  subst hq_
  refine st_ret1 rfl rfl (Nat.le_of_ble_eq_true rfl) rfl ?_
  exact ⟨b18, A15, y9.length, c17, rfl, H19.u1.u1⟩

set_option maxHeartbeats 2000000 in
theorem scutagelaw13_wakes_ok {w0 w : World} {Γ : List (World → Prop)}  (r0_ : Bool) (H : Hp w0 (Γ) w) (hm : scutagelaw13_wakes = some r0_) : Calls Try.prog 25 #[] w (fun e w => e = .returned (.bool r0_) ∧ Hp w0 (Γ) w) := by
  unfold scutagelaw13_wakes at hm
  refine st_enter Try.func25 rfl Try.ntmps25 (Nat.le_of_ble_eq_true rfl) ?_
  refine st_seq ?_
  refine st_region ?_
  refine r_pure (.bool false) rfl ?_
  refine r_seq ?_
  refine st_seq ?_
  refine st_region ?_
  obtain ⟨y1, hy2, hm⟩ := bind_some hm
  refine r_callf Try.call8 (vintage_New_ok  y1 H hy2) ?_
  rintro e4 wd3 ⟨b7, A8, n9, c10, rfl, H6⟩
  obtain rfl := (H6.g1).leneq
  refine ⟨_, rfl, ?_⟩
  refine r_pure (.pointer (some ⟨b7, 0, none⟩)) rfl ?_
  refine r_seq ?_
  refine st_cut (fun ρ w => ∃ q11 : Bool, (∃ base, ρ = updl base [(0, .bool q11)]) ∧ Hp w0 (Γ) w ∧ scutagelaw13_wakes.j1 q11 = some r0_) ?_ ?_
  · refine st_region ?_
    refine r_pure (.pointer (some ⟨b7, 0, none⟩)) rfl ?_
    refine r_nen Try.underlying23 rfl rfl ?_
    refine r_pure (.bool true) rfl ?_
    refine r_pure (.pointer (some ⟨b7, 0, none⟩)) rfl ?_ (wn_t rfl rfl (by decide) rfl rfl)
    obtain ⟨y13, hy14, hm⟩ := bind_some hm
    refine r_callf Try.call23 (vintage_Losses_Left_ok b7 (⟨y1.f_l⟩ : vintage_Losses) A8 y1.f_l.length c10 rfl (((H6).g1).cap) (fun _ H => (H.g1.rd)) (fun _ H => (H.g0)) y13 H6 hy14) ?_ (wn_t rfl rfl (by decide) rfl rfl)
    rintro e16 wd15 ⟨rfl, H18⟩
    refine ⟨_, rfl, ?_⟩
    refine r_pure (.bool (y13 == 0)) rfl ?_ (wn_t rfl rfl (by decide) rfl rfl)
    refine r_pick_t (.bool (y13 == 0)) rfl rfl rfl ?_
    refine r_pure (.bool (y13 == 0)) rfl ?_
    rcases ite_some hm with ⟨hb19, hm⟩ | ⟨hb19, hm⟩
    · refine r_pure (.pointer (some ⟨b7, 0, none⟩)) rfl ?_ (wn_t rfl rfl (by decide) rfl hb19)
      obtain ⟨⟨y20, y21⟩, hy22, hm⟩ := bind_some hm
      refine r_callf Try.call12 (vintage_Losses_Add_ok b7 (⟨y1.f_l⟩ : vintage_Losses) A8 c10 3 8 100 y20 y21 H18.u1.u1 hy22) ?_ (wn_t rfl rfl (by decide) rfl hb19)
      rintro e24 wd23 ⟨A27, n28, c29, rfl, H26⟩
      obtain rfl := (H26.g1).leneq
      refine ⟨_, rfl, ?_⟩
      refine r_pure (.bool (y20 == 0)) rfl ?_ (wn_t rfl rfl (by decide) rfl hb19)
      refine r_pick_t (.bool (y20 == 0)) hb19 rfl rfl ?_
      refine r_pure (.bool (y20 == 0)) rfl ?_
      rcases ite_some hm with ⟨hb30, hm⟩ | ⟨hb30, hm⟩
      · refine r_pure (.pointer (some ⟨b7, 0, none⟩)) rfl ?_ (wn_t rfl rfl (by decide) rfl hb30)
        obtain ⟨y31, hy32, hm⟩ := bind_some hm
        refine r_callf Try.call23 (vintage_Losses_Left_ok b7 (⟨y21.f_l⟩ : vintage_Losses) A27 y21.f_l.length c29 rfl (((H26).g1).cap) (fun _ H => (H.g1.rd)) (fun _ H => (H.g0)) y31 H26 hy32) ?_ (wn_t rfl rfl (by decide) rfl hb30)
        rintro e34 wd33 ⟨rfl, H36⟩
        refine ⟨_, rfl, ?_⟩
        refine r_pure (.bool (y31 == 100)) rfl ?_ (wn_t rfl rfl (by decide) rfl hb30)
        refine r_pick_t (.bool (y31 == 100)) hb30 rfl rfl ?_
        refine r_pure (.bool (y31 == 100)) rfl ?_
        rcases ite_some hm with ⟨hb37, hm⟩ | ⟨hb37, hm⟩
        · refine r_pure (.pointer (some ⟨b7, 0, none⟩)) rfl ?_ (wn_t rfl rfl (by decide) rfl hb37)
          obtain ⟨⟨y38, y39⟩, hy40, hm⟩ := bind_some hm
          refine r_callf Try.call13 (vintage_Losses_Expire_ok b7 (⟨y21.f_l⟩ : vintage_Losses) A27 c29 9 y38 y39 H36.u1.u1 hy40) ?_ (wn_t rfl rfl (by decide) rfl hb37)
          rintro e42 wd41 ⟨A45, n46, c47, rfl, H44⟩
          obtain rfl := (H44.g1).leneq
          refine ⟨_, rfl, ?_⟩
          refine r_pure (.bool (y38 == 100)) rfl ?_ (wn_t rfl rfl (by decide) rfl hb37)
          refine r_pick_t (.bool (y38 == 100)) hb37 rfl rfl ?_
          refine r_pure (.bool (y38 == 100)) rfl ?_
          refine r_nil ?_
          refine n_cut ⟨y38 == 100, upk (ac rfl an), H44.d.d, hm⟩
        · refine r_not (wn_f rfl rfl (by decide) rfl hb37) ?_
          refine r_not (wn_f rfl rfl (by decide) rfl hb37) ?_
          refine r_not (wn_f rfl rfl (by decide) rfl hb37) ?_
          refine r_pick_f (.bool false) hb37 rfl rfl ?_
          refine r_pure (.bool false) rfl ?_
          refine r_nil ?_
          refine n_cut ⟨false, upk (ac rfl an), H36.d.d, hm⟩
      · refine r_not (wn_f rfl rfl (by decide) rfl hb30) ?_
        refine r_not (wn_f rfl rfl (by decide) rfl hb30) ?_
        refine r_not (wn_f rfl rfl (by decide) rfl hb30) ?_
        refine r_pick_f (.bool false) hb30 rfl rfl ?_
        refine r_pure (.bool false) rfl ?_
        refine r_not (wn_f rfl rfl (by decide) rfl rfl) ?_
        refine r_not (wn_f rfl rfl (by decide) rfl rfl) ?_
        refine r_not (wn_f rfl rfl (by decide) rfl rfl) ?_
        refine r_pick_f (.bool false) rfl rfl rfl ?_
        refine r_pure (.bool false) rfl ?_
        refine r_nil ?_
        refine n_cut ⟨false, upk (ac rfl an), H26.d.d, hm⟩
    · refine r_not (wn_f rfl rfl (by decide) rfl hb19) ?_
      refine r_not (wn_f rfl rfl (by decide) rfl hb19) ?_
      refine r_not (wn_f rfl rfl (by decide) rfl hb19) ?_
      refine r_pick_f (.bool false) hb19 rfl rfl ?_
      refine r_pure (.bool false) rfl ?_
      refine r_not (wn_f rfl rfl (by decide) rfl rfl) ?_
      refine r_not (wn_f rfl rfl (by decide) rfl rfl) ?_
      refine r_not (wn_f rfl rfl (by decide) rfl rfl) ?_
      refine r_pick_f (.bool false) rfl rfl rfl ?_
      refine r_pure (.bool false) rfl ?_
      refine r_not (wn_f rfl rfl (by decide) rfl rfl) ?_
      refine r_not (wn_f rfl rfl (by decide) rfl rfl) ?_
      refine r_not (wn_f rfl rfl (by decide) rfl rfl) ?_
      refine r_pick_f (.bool false) rfl rfl rfl ?_
      refine r_pure (.bool false) rfl ?_
      refine r_nil ?_
      refine n_cut ⟨false, upk (ac rfl an), H18.d.d, hm⟩
  · rintro ρ w ⟨q11, ⟨base, rfl⟩, H12, hm⟩
    unfold scutagelaw13_wakes.j1 at hm
    have hq_ := Option.some.inj hm
    subst hq_
    refine st_ret1 rfl rfl (Nat.le_of_ble_eq_true rfl) rfl ?_
    exact ⟨rfl, H12⟩


end Go.Proofs.Ytcmhekibcbpajaa
