/- The Go functions come to their models: printed by gen.py. -/
import Derived.Test.YtdhekpodgemneaaPX0
set_option linter.unusedVariables false
set_option linter.unusedSimpArgs false
set_option maxRecDepth 100000
namespace Go.Proofs.Ytdhekpodgemneaa
open Go Go.RowKit
attribute [local irreducible] W R N L Hp Row SlR Bx RwN

set_option maxHeartbeats 2000000 in
theorem scutageref01_Check_ok {w0 w : World} {Γ : List (World → Prop)} (lines : List api_Line) (A1 : Option Addr) (n6 c2 : Nat) (hn5 : n6 = lines.length) (hc3 : lines.length ≤ c2) (hv4 : ∀ u, Hp w0 Γ u → SlR K43 A1 lines u) (r0_ : Bool) (H : Hp w0 (Γ) w) (hm : scutageref01_Check lines = some r0_) : Calls Try.prog 26 #[.slice A1 n6 c2] w (fun e w => e = .returned (.bool r0_) ∧ Hp w0 (Γ) w) := by
  subst hn5
  unfold scutageref01_Check at hm
  refine st_enter Try.func26 rfl Try.ntmps26 (Nat.le_of_ble_eq_true rfl) ?_
  refine st_seq ?_
  refine st_region ?_
  refine r_pure (.bool false) rfl ?_
  refine r_seq ?_
  refine st_seq ?_
  refine st_region ?_
  refine r_pure (.int .i64 0) rfl ?_
  refine r_seq ?_
  refine st_seq ?_
  refine st_seq ?_
  refine st_region ?_
  refine r_pure (.slice A1 lines.length c2) rfl ?_
  refine r_len Try.underlying34 rfl ?_
  refine r_pure (.int .i64 0) rfl ?_
  refine r_seq ?_
  refine st_block ?_
  have hlim28 := (hv4 _ H).lim
  obtain ⟨tl11, hl12, hm10⟩ := bind_some hm
  refine st_loopL (scutageref01_Check.l1 lines) (fun ys17 s ρ w => ∃ i13 : Int, ∃ v8 : Int, ∃ dn14 : List api_Line, (i13, v8) = s ∧ lines = dn14 ++ ys17 ∧ i13 = (dn14.length : Int) ∧ (∃ base, ρ = updl base [(0, .slice A1 lines.length c2), (3, .int .i64 v8), (6, .slice A1 lines.length c2), (7, .int .i64 (lines.length : Int)), (8, .int .i64 i13)]) ∧ Hp w0 (Γ) w) hl12 ⟨0, 0, [], rfl, rfl, rfl, upk (ac rfl (ac rfl (ac rfl (ac rfl (ac rfl an))))), H⟩ ?_
  rintro m ys17 IH21 s ρ w ⟨i13, v8, dn14, rfl, hxs15, hi16, ⟨base, rfl⟩, H9⟩ hm
  rcases ys17 with _ | ⟨y18, ys17⟩
  · rw [scutageref01_Check.l1] at hm
    have hb22 := range_end hxs15 hi16
    refine st_seq ?_
    refine st_region ?_
    refine r_pure (.bool (decide (i13 < (lines.length : Int)))) rfl ?_
    refine r_seq ?_
    refine st_seq ?_
    refine st_condf hb22 rfl ?_
    have hq_ := Option.some.inj hm
    refine st_exit rfl ?_
    subst hq_
    refine n_sq ?_
    refine st_seq ?_
    refine st_region ?_
    refine r_pure (.int .i64 v8) rfl ?_
    refine r_pure (.bool (v8 == 0)) rfl ?_
    refine r_pure (.bool (v8 == 0)) rfl ?_
    refine r_seq ?_
    have hq_ := Option.some.inj hm10
    subst hq_
    refine st_ret1 rfl rfl (Nat.le_of_ble_eq_true rfl) rfl ?_
    exact ⟨rfl, H9⟩
  · rw [scutageref01_Check.l1] at hm
    have hb23 := range_in hxs15 hi16
    obtain ⟨h024, h125, hj26⟩ := range_ix hxs15 hi16
    have hnx27 := range_next hxs15 hi16 hlim28
    refine st_seq ?_
    refine st_region ?_
    refine r_pure (.bool (decide (i13 < (lines.length : Int)))) rfl ?_
    refine r_seq ?_
    refine st_seq ?_
    refine st_condt hb23 rfl ?_
    refine st_skip ?_
    refine n_sq ?_
    refine st_seq ?_
    refine st_block ?_
    refine st_seq ?_
    refine st_region ?_
    refine r_pure (.int .i64 i13) rfl ?_
    have hA29 := (hv4 _ H9).adO hj26
    refine r_ix IX34 rfl rfl hA29 h024 h125 ?_
    refine r_ldA [.int .i64 y18.Account, .int .i64 y18.Amount] LD43 rfl rfl ((hv4 _ H9).csA hA29 hj26) ?_
    refine r_alloc [.int .i64 0, .int .i64 0] Try.zeroValue43 H9 rfl ?_
    intro b30 wd32 H31
    refine r_pure (.int .i64 i13) rfl ?_
    refine r_stA [.int .i64 y18.Account, .int .i64 y18.Amount] LD43 rfl rfl rfl rfl H31 (Nat.le_of_ble_eq_true rfl) rfl ?_
    intro wd34 H33
    refine r_seq ?_
    refine st_seq ?_
    refine st_cut (fun ρ w => ∃ q35 : Bool, (∃ base, ρ = updl base [(0, .slice A1 lines.length c2), (3, .int .i64 v8), (5, .pointer (some ⟨b30, 0, none⟩)), (6, .slice A1 lines.length c2), (7, .int .i64 (lines.length : Int)), (8, .int .i64 i13), (46, .bool q35)]) ∧ Hp w0 (Bx b30 43 [.int .i64 y18.Account, .int .i64 y18.Amount] :: Γ) w ∧ scutageref01_Check.j1 (scutageref01_Check.l1 lines ys17) i13 v8 y18 q35 = some tl11) ?_ ?_
    · rcases ite_some hm with ⟨hb39, hm⟩ | ⟨hb39, hm⟩
      · refine Flow.run' RA26_5 RW26_5 ((fun η38 v => v.1 = .int .i64 i13) :: (fun η38 v => v.1 = .bool (decide (i13 ≥ 20))) :: (fun η38 v => v.1 = .bool (decide (i13 ≥ 20))) :: (fun η38 v => v.1 = undef) :: (fun η38 v => v.1 = undef) :: (fun η38 v => v.1 = undef) :: (fun η38 v => v.1 = undef) :: (fun η38 v => v.1 = .bool true) :: (fun η38 v => v.1 = .bool true) :: (fun η38 v => v.1 = undef) :: (fun η38 v => v.1 = undef) :: (fun η38 v => v.1 = undef) :: (fun η38 v => v.1 = .bool true) :: (fun η38 v => v.1 = .bool true) :: (fun η38 v => v.1 = undef) :: (fun η38 v => v.1 = undef) :: (fun η38 v => v.1 = undef) :: (fun η38 v => v.1 = undef) :: (fun η38 v => v.1 = .bool true) :: (fun η38 v => v.1 = .bool true) :: (fun η38 v => v.1 = undef) :: (fun η38 v => v.1 = undef) :: (fun η38 v => v.1 = undef) :: (fun η38 v => v.1 = undef) :: (fun η38 v => v.1 = undef) :: (fun η38 v => v.1 = undef) :: (fun η38 v => v.1 = undef) :: (fun η38 v => v.1 = undef) :: (fun η38 v => v.1 = undef) :: (fun η38 v => v.1 = undef) :: (fun η38 v => v.1 = undef) :: (fun η38 v => v.1 = undef) :: (fun η38 v => v.1 = undef) :: (fun η38 v => v.1 = .bool true) :: []) [] rfl (by kernel_rfl) (by kernel_rfl) H33 ⟨?_, ?_, ?_, ?_, ?_, ?_, ?_, ?_, ?_, ?_, ?_, ?_, ?_, ?_, ?_, ?_, ?_, ?_, ?_, ?_, ?_, ?_, ?_, ?_, ?_, ?_, ?_, ?_, ?_, ?_, ?_, ?_, ?_, ?_, trivial⟩ ?_
        · intro η38 wd44 Δ45 hE40 hR41 hA42 H43
          refine sp_op [(4, .int .i64 i13)] (ac rfl an) ?_
          refine r_pure (.int .i64 i13) rfl ?_
          exact r_nil (n_lp ⟨_, rfl, undef, rfl, H43⟩)
        · intro η38 wd50 Δ51 hE46 hR47 hA48 H49
          refine sp_op [(13, .int .i64 i13)] (ac (hE46 0 (by decide)) an) ?_
          refine r_pure (.bool (decide (i13 ≥ 20))) rfl ?_
          exact r_nil (n_lp ⟨_, rfl, undef, rfl, H49⟩)
        · intro η38 wd56 Δ57 hE52 hR53 hA54 H55
          refine sp_op [(14, .bool (decide (i13 ≥ 20)))] (ac (hE52 1 (by decide)) an) ?_
          refine r_pure (.bool (decide (i13 ≥ 20))) rfl ?_
          exact r_nil (n_lp ⟨_, rfl, undef, rfl, H55⟩)
        · intro η38 wd62 Δ63 hE58 hR59 hA60 H61
          refine sp_op [(15, .bool (decide (i13 ≥ 20)))] (ac (hE58 2 (by decide)) an) ?_
          refine r_not (wn_f rfl rfl (by decide) rfl hb39) ?_
          exact r_nil (n_lp ⟨_, rfl, undef, rfl, H61⟩)
        · intro η38 wd68 Δ69 hE64 hR65 hA66 H67
          refine sp_op [(15, .bool (decide (i13 ≥ 20)))] (ac (hE64 2 (by decide)) an) ?_
          refine r_not (wn_f rfl rfl (by decide) rfl hb39) ?_
          exact r_nil (n_lp ⟨_, rfl, undef, rfl, H67⟩)
        · intro η38 wd74 Δ75 hE70 hR71 hA72 H73
          refine sp_op [(15, .bool (decide (i13 ≥ 20)))] (ac (hE70 2 (by decide)) an) ?_
          refine r_not (wn_f rfl rfl (by decide) rfl hb39) ?_
          exact r_nil (n_lp ⟨_, rfl, undef, rfl, H73⟩)
        · intro η38 wd80 Δ81 hE76 hR77 hA78 H79
          refine sp_op [(15, .bool (decide (i13 ≥ 20)))] (ac (hE76 2 (by decide)) an) ?_
          refine r_not (wn_f rfl rfl (by decide) rfl hb39) ?_
          exact r_nil (n_lp ⟨_, rfl, undef, rfl, H79⟩)
        · intro η38 wd86 Δ87 hE82 hR83 hA84 H85
          refine sp_op [(15, .bool (decide (i13 ≥ 20))), (19, undef)] (ac (hE82 2 (by decide)) (ac (hE82 6 (by decide)) an)) ?_
          refine r_pick_t (.bool true) hb39 rfl rfl ?_
          exact r_nil (n_lp ⟨_, rfl, undef, rfl, H85⟩)
        · intro η38 wd92 Δ93 hE88 hR89 hA90 H91
          refine sp_op [(20, .bool true)] (ac (hE88 7 (by decide)) an) ?_
          refine r_pure (.bool true) rfl ?_
          exact r_nil (n_lp ⟨_, rfl, undef, rfl, H91⟩)
        · intro η38 wd98 Δ99 hE94 hR95 hA96 H97
          refine sp_op [(21, .bool true)] (ac (hE94 8 (by decide)) an) ?_
          refine r_not (wn_f rfl rfl (by decide) rfl rfl) ?_
          exact r_nil (n_lp ⟨_, rfl, undef, rfl, H97⟩)
        · intro η38 wd104 Δ105 hE100 hR101 hA102 H103
          refine sp_op [(21, .bool true)] (ac (hE100 8 (by decide)) an) ?_
          refine r_not (wn_f rfl rfl (by decide) rfl rfl) ?_
          exact r_nil (n_lp ⟨_, rfl, undef, rfl, H103⟩)
        · intro η38 wd110 Δ111 hE106 hR107 hA108 H109
          refine sp_op [(21, .bool true)] (ac (hE106 8 (by decide)) an) ?_
          refine r_not (wn_f rfl rfl (by decide) rfl rfl) ?_
          exact r_nil (n_lp ⟨_, rfl, undef, rfl, H109⟩)
        · intro η38 wd116 Δ117 hE112 hR113 hA114 H115
          refine sp_op [(21, .bool true), (24, undef)] (ac (hE112 8 (by decide)) (ac (hE112 11 (by decide)) an)) ?_
          refine r_pick_t (.bool true) rfl rfl rfl ?_
          exact r_nil (n_lp ⟨_, rfl, undef, rfl, H115⟩)
        · intro η38 wd122 Δ123 hE118 hR119 hA120 H121
          refine sp_op [(25, .bool true)] (ac (hE118 12 (by decide)) an) ?_
          refine r_pure (.bool true) rfl ?_
          exact r_nil (n_lp ⟨_, rfl, undef, rfl, H121⟩)
        · intro η38 wd128 Δ129 hE124 hR125 hA126 H127
          refine sp_op [(26, .bool true)] (ac (hE124 13 (by decide)) an) ?_
          refine r_not (wn_f rfl rfl (by decide) rfl rfl) ?_
          exact r_nil (n_lp ⟨_, rfl, undef, rfl, H127⟩)
        · intro η38 wd134 Δ135 hE130 hR131 hA132 H133
          refine sp_op [(26, .bool true)] (ac (hE130 13 (by decide)) an) ?_
          refine r_not (wn_f rfl rfl (by decide) rfl rfl) ?_
          exact r_nil (n_lp ⟨_, rfl, undef, rfl, H133⟩)
        · intro η38 wd140 Δ141 hE136 hR137 hA138 H139
          refine sp_op [(26, .bool true)] (ac (hE136 13 (by decide)) an) ?_
          refine r_not (wn_f rfl rfl (by decide) rfl rfl) ?_
          exact r_nil (n_lp ⟨_, rfl, undef, rfl, H139⟩)
        · intro η38 wd146 Δ147 hE142 hR143 hA144 H145
          refine sp_op [(26, .bool true)] (ac (hE142 13 (by decide)) an) ?_
          refine r_not (wn_f rfl rfl (by decide) rfl rfl) ?_
          exact r_nil (n_lp ⟨_, rfl, undef, rfl, H145⟩)
        · intro η38 wd152 Δ153 hE148 hR149 hA150 H151
          refine sp_op [(26, .bool true), (30, undef)] (ac (hE148 13 (by decide)) (ac (hE148 17 (by decide)) an)) ?_
          refine r_pick_t (.bool true) rfl rfl rfl ?_
          exact r_nil (n_lp ⟨_, rfl, undef, rfl, H151⟩)
        · intro η38 wd158 Δ159 hE154 hR155 hA156 H157
          refine sp_op [(31, .bool true)] (ac (hE154 18 (by decide)) an) ?_
          refine r_pure (.bool true) rfl ?_
          exact r_nil (n_lp ⟨_, rfl, undef, rfl, H157⟩)
        · intro η38 wd164 Δ165 hE160 hR161 hA162 H163
          refine sp_op [(32, .bool true)] (ac (hE160 19 (by decide)) an) ?_
          refine r_not (wn_f rfl rfl (by decide) rfl rfl) ?_
          exact r_nil (n_lp ⟨_, rfl, undef, rfl, H163⟩)
        · intro η38 wd170 Δ171 hE166 hR167 hA168 H169
          refine sp_op [(32, .bool true)] (ac (hE166 19 (by decide)) an) ?_
          refine r_not (wn_f rfl rfl (by decide) rfl rfl) ?_
          exact r_nil (n_lp ⟨_, rfl, undef, rfl, H169⟩)
        · intro η38 wd176 Δ177 hE172 hR173 hA174 H175
          refine sp_op [(32, .bool true)] (ac (hE172 19 (by decide)) an) ?_
          refine r_not (wn_f rfl rfl (by decide) rfl rfl) ?_
          exact r_nil (n_lp ⟨_, rfl, undef, rfl, H175⟩)
        · intro η38 wd182 Δ183 hE178 hR179 hA180 H181
          refine sp_op [(35, undef)] (ac (hE178 22 (by decide)) an) ?_
          refine r_not (wn_u rfl rfl (by decide) rfl rfl) ?_
          exact r_nil (n_lp ⟨_, rfl, undef, rfl, H181⟩)
        · intro η38 wd188 Δ189 hE184 hR185 hA186 H187
          refine sp_op [(35, undef)] (ac (hE184 22 (by decide)) an) ?_
          refine r_not (wn_u rfl rfl (by decide) rfl rfl) ?_
          exact r_nil (n_lp ⟨_, rfl, undef, rfl, H187⟩)
        · intro η38 wd194 Δ195 hE190 hR191 hA192 H193
          refine sp_op [(35, undef)] (ac (hE190 22 (by decide)) an) ?_
          refine r_not (wn_u rfl rfl (by decide) rfl rfl) ?_
          exact r_nil (n_lp ⟨_, rfl, undef, rfl, H193⟩)
        · intro η38 wd200 Δ201 hE196 hR197 hA198 H199
          refine sp_op [(35, undef)] (ac (hE196 22 (by decide)) an) ?_
          refine r_not (wn_u rfl rfl (by decide) rfl rfl) ?_
          exact r_nil (n_lp ⟨_, rfl, undef, rfl, H199⟩)
        · intro η38 wd206 Δ207 hE202 hR203 hA204 H205
          refine sp_op [(35, undef)] (ac (hE202 22 (by decide)) an) ?_
          refine r_not (wn_u rfl rfl (by decide) rfl rfl) ?_
          exact r_nil (n_lp ⟨_, rfl, undef, rfl, H205⟩)
        · intro η38 wd212 Δ213 hE208 hR209 hA210 H211
          refine sp_op [(35, undef)] (ac (hE208 22 (by decide)) an) ?_
          refine r_not (wn_u rfl rfl (by decide) rfl rfl) ?_
          exact r_nil (n_lp ⟨_, rfl, undef, rfl, H211⟩)
        · intro η38 wd218 Δ219 hE214 hR215 hA216 H217
          refine sp_op [(35, undef)] (ac (hE214 22 (by decide)) an) ?_
          refine r_not (wn_u rfl rfl (by decide) rfl rfl) ?_
          exact r_nil (n_lp ⟨_, rfl, undef, rfl, H217⟩)
        · intro η38 wd224 Δ225 hE220 hR221 hA222 H223
          refine sp_op [(35, undef)] (ac (hE220 22 (by decide)) an) ?_
          refine r_not (wn_u rfl rfl (by decide) rfl rfl) ?_
          exact r_nil (n_lp ⟨_, rfl, undef, rfl, H223⟩)
        · intro η38 wd230 Δ231 hE226 hR227 hA228 H229
          refine sp_op [(35, undef)] (ac (hE226 22 (by decide)) an) ?_
          refine r_not (wn_u rfl rfl (by decide) rfl rfl) ?_
          exact r_nil (n_lp ⟨_, rfl, undef, rfl, H229⟩)
        · intro η38 wd236 Δ237 hE232 hR233 hA234 H235
          refine sp_op [(32, .bool true)] (ac (hE232 19 (by decide)) an) ?_
          refine r_not (wn_f rfl rfl (by decide) rfl rfl) ?_
          exact r_nil (n_lp ⟨_, rfl, undef, rfl, H235⟩)
        · intro η38 wd242 Δ243 hE238 hR239 hA240 H241
          refine sp_op [(32, .bool true), (45, undef)] (ac (hE238 19 (by decide)) (ac (hE238 32 (by decide)) an)) ?_
          refine r_pick_t (.bool true) rfl rfl rfl ?_
          exact r_nil (n_lp ⟨_, rfl, undef, rfl, H241⟩)
        · intro η38 wd245 hV246 H244
          have H247 : Hp w0 (Bx b30 43 [.int .i64 y18.Account, .int .i64 y18.Amount] :: Γ) wd245 := H244
          refine n_frame [(0, .slice A1 lines.length c2), (3, .int .i64 v8), (5, .pointer (some ⟨b30, 0, none⟩)), (6, .slice A1 lines.length c2), (7, .int .i64 (lines.length : Int)), (8, .int .i64 i13), (46, .bool true)] (ac rfl (ac rfl (ac rfl (ac rfl (ac rfl (ac rfl (ac (hV246 33 rfl) an))))))) ?_
          refine n_cut ⟨true, upk (ac rfl (ac rfl (ac rfl (ac rfl (ac rfl (ac rfl (ac rfl an))))))), H247, hm⟩
      · obtain ⟨y248, hy249, hm⟩ := bind_some hm
        rcases ite_some hm with ⟨hb254, hm⟩ | ⟨hb254, hm⟩
        · refine Flow.run' RA26_5 RW26_5 ((fun η38 v => v.1 = .int .i64 i13) :: (fun η38 v => v.1 = .bool (decide (i13 ≥ 20))) :: (fun η38 v => v.1 = .bool (decide (i13 ≥ 20))) :: (fun η38 v => v.1 = .pointer (some ⟨b30, 0, none⟩)) :: (fun η38 v => v.1 = .int .i64 y18.Account) :: (fun η38 v => v.1 = .bool y248) :: (fun η38 v => v.1 = .bool (!y248)) :: (fun η38 v => v.1 = .bool (!y248)) :: (fun η38 v => v.1 = .bool (!y248)) :: (fun η38 v => v.1 = undef) :: (fun η38 v => v.1 = undef) :: (fun η38 v => v.1 = undef) :: (fun η38 v => v.1 = .bool true) :: (fun η38 v => v.1 = .bool true) :: (fun η38 v => v.1 = undef) :: (fun η38 v => v.1 = undef) :: (fun η38 v => v.1 = undef) :: (fun η38 v => v.1 = undef) :: (fun η38 v => v.1 = .bool true) :: (fun η38 v => v.1 = .bool true) :: (fun η38 v => v.1 = undef) :: (fun η38 v => v.1 = undef) :: (fun η38 v => v.1 = undef) :: (fun η38 v => v.1 = undef) :: (fun η38 v => v.1 = undef) :: (fun η38 v => v.1 = undef) :: (fun η38 v => v.1 = undef) :: (fun η38 v => v.1 = undef) :: (fun η38 v => v.1 = undef) :: (fun η38 v => v.1 = undef) :: (fun η38 v => v.1 = undef) :: (fun η38 v => v.1 = undef) :: (fun η38 v => v.1 = undef) :: (fun η38 v => v.1 = .bool true) :: []) [] rfl (by kernel_rfl) (by kernel_rfl) H33 ⟨?_, ?_, ?_, ?_, ?_, ?_, ?_, ?_, ?_, ?_, ?_, ?_, ?_, ?_, ?_, ?_, ?_, ?_, ?_, ?_, ?_, ?_, ?_, ?_, ?_, ?_, ?_, ?_, ?_, ?_, ?_, ?_, ?_, ?_, trivial⟩ ?_
          · intro η38 wd259 Δ260 hE255 hR256 hA257 H258
            refine sp_op [(4, .int .i64 i13)] (ac rfl an) ?_
            refine r_pure (.int .i64 i13) rfl ?_
            exact r_nil (n_lp ⟨_, rfl, undef, rfl, H258⟩)
          · intro η38 wd265 Δ266 hE261 hR262 hA263 H264
            refine sp_op [(13, .int .i64 i13)] (ac (hE261 0 (by decide)) an) ?_
            refine r_pure (.bool (decide (i13 ≥ 20))) rfl ?_
            exact r_nil (n_lp ⟨_, rfl, undef, rfl, H264⟩)
          · intro η38 wd271 Δ272 hE267 hR268 hA269 H270
            refine sp_op [(14, .bool (decide (i13 ≥ 20)))] (ac (hE267 1 (by decide)) an) ?_
            refine r_pure (.bool (decide (i13 ≥ 20))) rfl ?_
            exact r_nil (n_lp ⟨_, rfl, undef, rfl, H270⟩)
          · intro η38 wd277 Δ278 hE273 hR274 hA275 H276
            refine sp_op [(5, .pointer (some ⟨b30, 0, none⟩)), (15, .bool (decide (i13 ≥ 20)))] (ac rfl (ac (hE273 2 (by decide)) an)) ?_
            refine r_fa FA43_0 ⟨b30, 0, none⟩ rfl rfl ?_ (wn_t rfl rfl (by decide) rfl hb39)
            exact r_nil (n_lp ⟨_, rfl, undef, rfl, H276⟩)
          · intro η38 wd283 Δ284 hE279 hR280 hA281 H282
            have H282 : Hp w0 ((Δ284 ++ (Bx b30 43 [.int .i64 y18.Account, .int .i64 y18.Amount] :: Γ))) wd283 := H282
            refine sp_op [(15, .bool (decide (i13 ≥ 20))), (16, .pointer (some ⟨b30, 0, none⟩))] (ac (hE279 2 (by decide)) (ac (hE279 3 (by decide)) an)) ?_
            refine r_ld1 (.int .i64 y18.Account) LD3 rfl (((H282).tl.g0).cell _ rfl) ?_ (wn_t rfl rfl (by decide) rfl hb39)
            exact r_nil (n_lp ⟨_, rfl, undef, rfl, H282⟩)
          · intro η38 wd289 Δ290 hE285 hR286 hA287 H288
            have H288 : Hp w0 ((Δ290 ++ (Bx b30 43 [.int .i64 y18.Account, .int .i64 y18.Amount] :: Γ))) wd289 := H288
            refine sp_op [(15, .bool (decide (i13 ≥ 20))), (17, .int .i64 y18.Account)] (ac (hE285 2 (by decide)) (ac (hE285 4 (by decide)) an)) ?_
            refine r_callf Try.call38 (scutageref01_Account_ok y18.Account y248 H288 hy249) ?_ (wn_t rfl rfl (by decide) rfl hb39)
            rintro e294 wd293 ⟨rfl, H296⟩
            refine ⟨_, rfl, ?_⟩
            exact r_nil (n_lp ⟨_, rfl, undef, rfl, H296⟩)
          · intro η38 wd301 Δ302 hE297 hR298 hA299 H300
            refine sp_op [(15, .bool (decide (i13 ≥ 20))), (18, .bool y248)] (ac (hE297 2 (by decide)) (ac (hE297 5 (by decide)) an)) ?_
            refine r_pure (.bool (!y248)) rfl ?_ (wn_t rfl rfl (by decide) rfl hb39)
            exact r_nil (n_lp ⟨_, rfl, undef, rfl, H300⟩)
          · intro η38 wd307 Δ308 hE303 hR304 hA305 H306
            refine sp_op [(15, .bool (decide (i13 ≥ 20))), (19, .bool (!y248))] (ac (hE303 2 (by decide)) (ac (hE303 6 (by decide)) an)) ?_
            refine r_pick_f (.bool (!y248)) hb39 rfl rfl ?_
            exact r_nil (n_lp ⟨_, rfl, undef, rfl, H306⟩)
          · intro η38 wd313 Δ314 hE309 hR310 hA311 H312
            refine sp_op [(20, .bool (!y248))] (ac (hE309 7 (by decide)) an) ?_
            refine r_pure (.bool (!y248)) rfl ?_
            exact r_nil (n_lp ⟨_, rfl, undef, rfl, H312⟩)
          · intro η38 wd319 Δ320 hE315 hR316 hA317 H318
            refine sp_op [(21, .bool (!y248))] (ac (hE315 8 (by decide)) an) ?_
            refine r_not (wn_f rfl rfl (by decide) rfl hb254) ?_
            exact r_nil (n_lp ⟨_, rfl, undef, rfl, H318⟩)
          · intro η38 wd325 Δ326 hE321 hR322 hA323 H324
            refine sp_op [(21, .bool (!y248))] (ac (hE321 8 (by decide)) an) ?_
            refine r_not (wn_f rfl rfl (by decide) rfl hb254) ?_
            exact r_nil (n_lp ⟨_, rfl, undef, rfl, H324⟩)
          · intro η38 wd331 Δ332 hE327 hR328 hA329 H330
            refine sp_op [(21, .bool (!y248))] (ac (hE327 8 (by decide)) an) ?_
            refine r_not (wn_f rfl rfl (by decide) rfl hb254) ?_
            exact r_nil (n_lp ⟨_, rfl, undef, rfl, H330⟩)
          · intro η38 wd337 Δ338 hE333 hR334 hA335 H336
            refine sp_op [(21, .bool (!y248)), (24, undef)] (ac (hE333 8 (by decide)) (ac (hE333 11 (by decide)) an)) ?_
            refine r_pick_t (.bool true) hb254 rfl rfl ?_
            exact r_nil (n_lp ⟨_, rfl, undef, rfl, H336⟩)
          · intro η38 wd343 Δ344 hE339 hR340 hA341 H342
            refine sp_op [(25, .bool true)] (ac (hE339 12 (by decide)) an) ?_
            refine r_pure (.bool true) rfl ?_
            exact r_nil (n_lp ⟨_, rfl, undef, rfl, H342⟩)
          · intro η38 wd349 Δ350 hE345 hR346 hA347 H348
            refine sp_op [(26, .bool true)] (ac (hE345 13 (by decide)) an) ?_
            refine r_not (wn_f rfl rfl (by decide) rfl rfl) ?_
            exact r_nil (n_lp ⟨_, rfl, undef, rfl, H348⟩)
          · intro η38 wd355 Δ356 hE351 hR352 hA353 H354
            refine sp_op [(26, .bool true)] (ac (hE351 13 (by decide)) an) ?_
            refine r_not (wn_f rfl rfl (by decide) rfl rfl) ?_
            exact r_nil (n_lp ⟨_, rfl, undef, rfl, H354⟩)
          · intro η38 wd361 Δ362 hE357 hR358 hA359 H360
            refine sp_op [(26, .bool true)] (ac (hE357 13 (by decide)) an) ?_
            refine r_not (wn_f rfl rfl (by decide) rfl rfl) ?_
            exact r_nil (n_lp ⟨_, rfl, undef, rfl, H360⟩)
          · intro η38 wd367 Δ368 hE363 hR364 hA365 H366
            refine sp_op [(26, .bool true)] (ac (hE363 13 (by decide)) an) ?_
            refine r_not (wn_f rfl rfl (by decide) rfl rfl) ?_
            exact r_nil (n_lp ⟨_, rfl, undef, rfl, H366⟩)
          · intro η38 wd373 Δ374 hE369 hR370 hA371 H372
            refine sp_op [(26, .bool true), (30, undef)] (ac (hE369 13 (by decide)) (ac (hE369 17 (by decide)) an)) ?_
            refine r_pick_t (.bool true) rfl rfl rfl ?_
            exact r_nil (n_lp ⟨_, rfl, undef, rfl, H372⟩)
          · intro η38 wd379 Δ380 hE375 hR376 hA377 H378
            refine sp_op [(31, .bool true)] (ac (hE375 18 (by decide)) an) ?_
            refine r_pure (.bool true) rfl ?_
            exact r_nil (n_lp ⟨_, rfl, undef, rfl, H378⟩)
          · intro η38 wd385 Δ386 hE381 hR382 hA383 H384
            refine sp_op [(32, .bool true)] (ac (hE381 19 (by decide)) an) ?_
            refine r_not (wn_f rfl rfl (by decide) rfl rfl) ?_
            exact r_nil (n_lp ⟨_, rfl, undef, rfl, H384⟩)
          · intro η38 wd391 Δ392 hE387 hR388 hA389 H390
            refine sp_op [(32, .bool true)] (ac (hE387 19 (by decide)) an) ?_
            refine r_not (wn_f rfl rfl (by decide) rfl rfl) ?_
            exact r_nil (n_lp ⟨_, rfl, undef, rfl, H390⟩)
          · intro η38 wd397 Δ398 hE393 hR394 hA395 H396
            refine sp_op [(32, .bool true)] (ac (hE393 19 (by decide)) an) ?_
            refine r_not (wn_f rfl rfl (by decide) rfl rfl) ?_
            exact r_nil (n_lp ⟨_, rfl, undef, rfl, H396⟩)
          · intro η38 wd403 Δ404 hE399 hR400 hA401 H402
            refine sp_op [(35, undef)] (ac (hE399 22 (by decide)) an) ?_
            refine r_not (wn_u rfl rfl (by decide) rfl rfl) ?_
            exact r_nil (n_lp ⟨_, rfl, undef, rfl, H402⟩)
          · intro η38 wd409 Δ410 hE405 hR406 hA407 H408
            refine sp_op [(35, undef)] (ac (hE405 22 (by decide)) an) ?_
            refine r_not (wn_u rfl rfl (by decide) rfl rfl) ?_
            exact r_nil (n_lp ⟨_, rfl, undef, rfl, H408⟩)
          · intro η38 wd415 Δ416 hE411 hR412 hA413 H414
            refine sp_op [(35, undef)] (ac (hE411 22 (by decide)) an) ?_
            refine r_not (wn_u rfl rfl (by decide) rfl rfl) ?_
            exact r_nil (n_lp ⟨_, rfl, undef, rfl, H414⟩)
          · intro η38 wd421 Δ422 hE417 hR418 hA419 H420
            refine sp_op [(35, undef)] (ac (hE417 22 (by decide)) an) ?_
            refine r_not (wn_u rfl rfl (by decide) rfl rfl) ?_
            exact r_nil (n_lp ⟨_, rfl, undef, rfl, H420⟩)
          · intro η38 wd427 Δ428 hE423 hR424 hA425 H426
            refine sp_op [(35, undef)] (ac (hE423 22 (by decide)) an) ?_
            refine r_not (wn_u rfl rfl (by decide) rfl rfl) ?_
            exact r_nil (n_lp ⟨_, rfl, undef, rfl, H426⟩)
          · intro η38 wd433 Δ434 hE429 hR430 hA431 H432
            refine sp_op [(35, undef)] (ac (hE429 22 (by decide)) an) ?_
            refine r_not (wn_u rfl rfl (by decide) rfl rfl) ?_
            exact r_nil (n_lp ⟨_, rfl, undef, rfl, H432⟩)
          · intro η38 wd439 Δ440 hE435 hR436 hA437 H438
            refine sp_op [(35, undef)] (ac (hE435 22 (by decide)) an) ?_
            refine r_not (wn_u rfl rfl (by decide) rfl rfl) ?_
            exact r_nil (n_lp ⟨_, rfl, undef, rfl, H438⟩)
          · intro η38 wd445 Δ446 hE441 hR442 hA443 H444
            refine sp_op [(35, undef)] (ac (hE441 22 (by decide)) an) ?_
            refine r_not (wn_u rfl rfl (by decide) rfl rfl) ?_
            exact r_nil (n_lp ⟨_, rfl, undef, rfl, H444⟩)
          · intro η38 wd451 Δ452 hE447 hR448 hA449 H450
            refine sp_op [(35, undef)] (ac (hE447 22 (by decide)) an) ?_
            refine r_not (wn_u rfl rfl (by decide) rfl rfl) ?_
            exact r_nil (n_lp ⟨_, rfl, undef, rfl, H450⟩)
          · intro η38 wd457 Δ458 hE453 hR454 hA455 H456
            refine sp_op [(32, .bool true)] (ac (hE453 19 (by decide)) an) ?_
            refine r_not (wn_f rfl rfl (by decide) rfl rfl) ?_
            exact r_nil (n_lp ⟨_, rfl, undef, rfl, H456⟩)
          · intro η38 wd463 Δ464 hE459 hR460 hA461 H462
            refine sp_op [(32, .bool true), (45, undef)] (ac (hE459 19 (by decide)) (ac (hE459 32 (by decide)) an)) ?_
            refine r_pick_t (.bool true) rfl rfl rfl ?_
            exact r_nil (n_lp ⟨_, rfl, undef, rfl, H462⟩)
          · intro η38 wd466 hV467 H465
            have H468 : Hp w0 (Bx b30 43 [.int .i64 y18.Account, .int .i64 y18.Amount] :: Γ) wd466 := H465
            refine n_frame [(0, .slice A1 lines.length c2), (3, .int .i64 v8), (5, .pointer (some ⟨b30, 0, none⟩)), (6, .slice A1 lines.length c2), (7, .int .i64 (lines.length : Int)), (8, .int .i64 i13), (16, .pointer (some ⟨b30, 0, none⟩)), (17, .int .i64 y18.Account), (18, .bool y248), (19, .bool (!y248)), (46, .bool true)] (ac rfl (ac rfl (ac rfl (ac rfl (ac rfl (ac rfl (ac (hV467 3 rfl) (ac (hV467 4 rfl) (ac (hV467 5 rfl) (ac (hV467 6 rfl) (ac (hV467 33 rfl) an))))))))))) ?_
            refine n_cut ⟨true, upk (ac rfl (ac rfl (ac rfl (ac rfl (ac rfl (ac rfl (ac rfl an))))))), H468, hm⟩
        · rcases ite_some hm with ⟨hb469, hm⟩ | ⟨hb469, hm⟩
          · refine Flow.run' RA26_5 RW26_5 ((fun η38 v => v.1 = .int .i64 i13) :: (fun η38 v => v.1 = .bool (decide (i13 ≥ 20))) :: (fun η38 v => v.1 = .bool (decide (i13 ≥ 20))) :: (fun η38 v => v.1 = .pointer (some ⟨b30, 0, none⟩)) :: (fun η38 v => v.1 = .int .i64 y18.Account) :: (fun η38 v => v.1 = .bool y248) :: (fun η38 v => v.1 = .bool (!y248)) :: (fun η38 v => v.1 = .bool (!y248)) :: (fun η38 v => v.1 = .bool (!y248)) :: (fun η38 v => v.1 = .pointer (some ⟨b30, 1, none⟩)) :: (fun η38 v => v.1 = .int .i64 y18.Amount) :: (fun η38 v => v.1 = .bool (y18.Amount == 0)) :: (fun η38 v => v.1 = .bool (y18.Amount == 0)) :: (fun η38 v => v.1 = .bool (y18.Amount == 0)) :: (fun η38 v => v.1 = undef) :: (fun η38 v => v.1 = undef) :: (fun η38 v => v.1 = undef) :: (fun η38 v => v.1 = undef) :: (fun η38 v => v.1 = .bool true) :: (fun η38 v => v.1 = .bool true) :: (fun η38 v => v.1 = undef) :: (fun η38 v => v.1 = undef) :: (fun η38 v => v.1 = undef) :: (fun η38 v => v.1 = undef) :: (fun η38 v => v.1 = undef) :: (fun η38 v => v.1 = undef) :: (fun η38 v => v.1 = undef) :: (fun η38 v => v.1 = undef) :: (fun η38 v => v.1 = undef) :: (fun η38 v => v.1 = undef) :: (fun η38 v => v.1 = undef) :: (fun η38 v => v.1 = undef) :: (fun η38 v => v.1 = undef) :: (fun η38 v => v.1 = .bool true) :: []) [] rfl (by kernel_rfl) (by kernel_rfl) H33 ⟨?_, ?_, ?_, ?_, ?_, ?_, ?_, ?_, ?_, ?_, ?_, ?_, ?_, ?_, ?_, ?_, ?_, ?_, ?_, ?_, ?_, ?_, ?_, ?_, ?_, ?_, ?_, ?_, ?_, ?_, ?_, ?_, ?_, ?_, trivial⟩ ?_
            · intro η38 wd474 Δ475 hE470 hR471 hA472 H473
              refine sp_op [(4, .int .i64 i13)] (ac rfl an) ?_
              refine r_pure (.int .i64 i13) rfl ?_
              exact r_nil (n_lp ⟨_, rfl, undef, rfl, H473⟩)
            · intro η38 wd480 Δ481 hE476 hR477 hA478 H479
              refine sp_op [(13, .int .i64 i13)] (ac (hE476 0 (by decide)) an) ?_
              refine r_pure (.bool (decide (i13 ≥ 20))) rfl ?_
              exact r_nil (n_lp ⟨_, rfl, undef, rfl, H479⟩)
            · intro η38 wd486 Δ487 hE482 hR483 hA484 H485
              refine sp_op [(14, .bool (decide (i13 ≥ 20)))] (ac (hE482 1 (by decide)) an) ?_
              refine r_pure (.bool (decide (i13 ≥ 20))) rfl ?_
              exact r_nil (n_lp ⟨_, rfl, undef, rfl, H485⟩)
            · intro η38 wd492 Δ493 hE488 hR489 hA490 H491
              refine sp_op [(5, .pointer (some ⟨b30, 0, none⟩)), (15, .bool (decide (i13 ≥ 20)))] (ac rfl (ac (hE488 2 (by decide)) an)) ?_
              refine r_fa FA43_0 ⟨b30, 0, none⟩ rfl rfl ?_ (wn_t rfl rfl (by decide) rfl hb39)
              exact r_nil (n_lp ⟨_, rfl, undef, rfl, H491⟩)
            · intro η38 wd498 Δ499 hE494 hR495 hA496 H497
              have H497 : Hp w0 ((Δ499 ++ (Bx b30 43 [.int .i64 y18.Account, .int .i64 y18.Amount] :: Γ))) wd498 := H497
              refine sp_op [(15, .bool (decide (i13 ≥ 20))), (16, .pointer (some ⟨b30, 0, none⟩))] (ac (hE494 2 (by decide)) (ac (hE494 3 (by decide)) an)) ?_
              refine r_ld1 (.int .i64 y18.Account) LD3 rfl (((H497).tl.g0).cell _ rfl) ?_ (wn_t rfl rfl (by decide) rfl hb39)
              exact r_nil (n_lp ⟨_, rfl, undef, rfl, H497⟩)
            · intro η38 wd504 Δ505 hE500 hR501 hA502 H503
              have H503 : Hp w0 ((Δ505 ++ (Bx b30 43 [.int .i64 y18.Account, .int .i64 y18.Amount] :: Γ))) wd504 := H503
              refine sp_op [(15, .bool (decide (i13 ≥ 20))), (17, .int .i64 y18.Account)] (ac (hE500 2 (by decide)) (ac (hE500 4 (by decide)) an)) ?_
              refine r_callf Try.call38 (scutageref01_Account_ok y18.Account y248 H503 hy249) ?_ (wn_t rfl rfl (by decide) rfl hb39)
              rintro e509 wd508 ⟨rfl, H511⟩
              refine ⟨_, rfl, ?_⟩
              exact r_nil (n_lp ⟨_, rfl, undef, rfl, H511⟩)
            · intro η38 wd516 Δ517 hE512 hR513 hA514 H515
              refine sp_op [(15, .bool (decide (i13 ≥ 20))), (18, .bool y248)] (ac (hE512 2 (by decide)) (ac (hE512 5 (by decide)) an)) ?_
              refine r_pure (.bool (!y248)) rfl ?_ (wn_t rfl rfl (by decide) rfl hb39)
              exact r_nil (n_lp ⟨_, rfl, undef, rfl, H515⟩)
            · intro η38 wd522 Δ523 hE518 hR519 hA520 H521
              refine sp_op [(15, .bool (decide (i13 ≥ 20))), (19, .bool (!y248))] (ac (hE518 2 (by decide)) (ac (hE518 6 (by decide)) an)) ?_
              refine r_pick_f (.bool (!y248)) hb39 rfl rfl ?_
              exact r_nil (n_lp ⟨_, rfl, undef, rfl, H521⟩)
            · intro η38 wd528 Δ529 hE524 hR525 hA526 H527
              refine sp_op [(20, .bool (!y248))] (ac (hE524 7 (by decide)) an) ?_
              refine r_pure (.bool (!y248)) rfl ?_
              exact r_nil (n_lp ⟨_, rfl, undef, rfl, H527⟩)
            · intro η38 wd534 Δ535 hE530 hR531 hA532 H533
              refine sp_op [(5, .pointer (some ⟨b30, 0, none⟩)), (21, .bool (!y248))] (ac rfl (ac (hE530 8 (by decide)) an)) ?_
              refine r_fa FA43_1 ⟨b30, 1, none⟩ rfl rfl ?_ (wn_t rfl rfl (by decide) rfl hb254)
              exact r_nil (n_lp ⟨_, rfl, undef, rfl, H533⟩)
            · intro η38 wd540 Δ541 hE536 hR537 hA538 H539
              have H539 : Hp w0 ((Δ541 ++ (Bx b30 43 [.int .i64 y18.Account, .int .i64 y18.Amount] :: Γ))) wd540 := H539
              refine sp_op [(21, .bool (!y248)), (22, .pointer (some ⟨b30, 1, none⟩))] (ac (hE536 8 (by decide)) (ac (hE536 9 (by decide)) an)) ?_
              refine r_ld1 (.int .i64 y18.Amount) LD3 rfl (((H539).tl.g0).cell _ rfl) ?_ (wn_t rfl rfl (by decide) rfl hb254)
              exact r_nil (n_lp ⟨_, rfl, undef, rfl, H539⟩)
            · intro η38 wd546 Δ547 hE542 hR543 hA544 H545
              refine sp_op [(21, .bool (!y248)), (23, .int .i64 y18.Amount)] (ac (hE542 8 (by decide)) (ac (hE542 10 (by decide)) an)) ?_
              refine r_pure (.bool (y18.Amount == 0)) rfl ?_ (wn_t rfl rfl (by decide) rfl hb254)
              exact r_nil (n_lp ⟨_, rfl, undef, rfl, H545⟩)
            · intro η38 wd552 Δ553 hE548 hR549 hA550 H551
              refine sp_op [(21, .bool (!y248)), (24, .bool (y18.Amount == 0))] (ac (hE548 8 (by decide)) (ac (hE548 11 (by decide)) an)) ?_
              refine r_pick_f (.bool (y18.Amount == 0)) hb254 rfl rfl ?_
              exact r_nil (n_lp ⟨_, rfl, undef, rfl, H551⟩)
            · intro η38 wd558 Δ559 hE554 hR555 hA556 H557
              refine sp_op [(25, .bool (y18.Amount == 0))] (ac (hE554 12 (by decide)) an) ?_
              refine r_pure (.bool (y18.Amount == 0)) rfl ?_
              exact r_nil (n_lp ⟨_, rfl, undef, rfl, H557⟩)
            · intro η38 wd564 Δ565 hE560 hR561 hA562 H563
              refine sp_op [(26, .bool (y18.Amount == 0))] (ac (hE560 13 (by decide)) an) ?_
              refine r_not (wn_f rfl rfl (by decide) rfl hb469) ?_
              exact r_nil (n_lp ⟨_, rfl, undef, rfl, H563⟩)
            · intro η38 wd570 Δ571 hE566 hR567 hA568 H569
              refine sp_op [(26, .bool (y18.Amount == 0))] (ac (hE566 13 (by decide)) an) ?_
              refine r_not (wn_f rfl rfl (by decide) rfl hb469) ?_
              exact r_nil (n_lp ⟨_, rfl, undef, rfl, H569⟩)
            · intro η38 wd576 Δ577 hE572 hR573 hA574 H575
              refine sp_op [(26, .bool (y18.Amount == 0))] (ac (hE572 13 (by decide)) an) ?_
              refine r_not (wn_f rfl rfl (by decide) rfl hb469) ?_
              exact r_nil (n_lp ⟨_, rfl, undef, rfl, H575⟩)
            · intro η38 wd582 Δ583 hE578 hR579 hA580 H581
              refine sp_op [(26, .bool (y18.Amount == 0))] (ac (hE578 13 (by decide)) an) ?_
              refine r_not (wn_f rfl rfl (by decide) rfl hb469) ?_
              exact r_nil (n_lp ⟨_, rfl, undef, rfl, H581⟩)
            · intro η38 wd588 Δ589 hE584 hR585 hA586 H587
              refine sp_op [(26, .bool (y18.Amount == 0)), (30, undef)] (ac (hE584 13 (by decide)) (ac (hE584 17 (by decide)) an)) ?_
              refine r_pick_t (.bool true) hb469 rfl rfl ?_
              exact r_nil (n_lp ⟨_, rfl, undef, rfl, H587⟩)
            · intro η38 wd594 Δ595 hE590 hR591 hA592 H593
              refine sp_op [(31, .bool true)] (ac (hE590 18 (by decide)) an) ?_
              refine r_pure (.bool true) rfl ?_
              exact r_nil (n_lp ⟨_, rfl, undef, rfl, H593⟩)
            · intro η38 wd600 Δ601 hE596 hR597 hA598 H599
              refine sp_op [(32, .bool true)] (ac (hE596 19 (by decide)) an) ?_
              refine r_not (wn_f rfl rfl (by decide) rfl rfl) ?_
              exact r_nil (n_lp ⟨_, rfl, undef, rfl, H599⟩)
            · intro η38 wd606 Δ607 hE602 hR603 hA604 H605
              refine sp_op [(32, .bool true)] (ac (hE602 19 (by decide)) an) ?_
              refine r_not (wn_f rfl rfl (by decide) rfl rfl) ?_
              exact r_nil (n_lp ⟨_, rfl, undef, rfl, H605⟩)
            · intro η38 wd612 Δ613 hE608 hR609 hA610 H611
              refine sp_op [(32, .bool true)] (ac (hE608 19 (by decide)) an) ?_
              refine r_not (wn_f rfl rfl (by decide) rfl rfl) ?_
              exact r_nil (n_lp ⟨_, rfl, undef, rfl, H611⟩)
            · intro η38 wd618 Δ619 hE614 hR615 hA616 H617
              refine sp_op [(35, undef)] (ac (hE614 22 (by decide)) an) ?_
              refine r_not (wn_u rfl rfl (by decide) rfl rfl) ?_
              exact r_nil (n_lp ⟨_, rfl, undef, rfl, H617⟩)
            · intro η38 wd624 Δ625 hE620 hR621 hA622 H623
              refine sp_op [(35, undef)] (ac (hE620 22 (by decide)) an) ?_
              refine r_not (wn_u rfl rfl (by decide) rfl rfl) ?_
              exact r_nil (n_lp ⟨_, rfl, undef, rfl, H623⟩)
            · intro η38 wd630 Δ631 hE626 hR627 hA628 H629
              refine sp_op [(35, undef)] (ac (hE626 22 (by decide)) an) ?_
              refine r_not (wn_u rfl rfl (by decide) rfl rfl) ?_
              exact r_nil (n_lp ⟨_, rfl, undef, rfl, H629⟩)
            · intro η38 wd636 Δ637 hE632 hR633 hA634 H635
              refine sp_op [(35, undef)] (ac (hE632 22 (by decide)) an) ?_
              refine r_not (wn_u rfl rfl (by decide) rfl rfl) ?_
              exact r_nil (n_lp ⟨_, rfl, undef, rfl, H635⟩)
            · intro η38 wd642 Δ643 hE638 hR639 hA640 H641
              refine sp_op [(35, undef)] (ac (hE638 22 (by decide)) an) ?_
              refine r_not (wn_u rfl rfl (by decide) rfl rfl) ?_
              exact r_nil (n_lp ⟨_, rfl, undef, rfl, H641⟩)
            · intro η38 wd648 Δ649 hE644 hR645 hA646 H647
              refine sp_op [(35, undef)] (ac (hE644 22 (by decide)) an) ?_
              refine r_not (wn_u rfl rfl (by decide) rfl rfl) ?_
              exact r_nil (n_lp ⟨_, rfl, undef, rfl, H647⟩)
            · intro η38 wd654 Δ655 hE650 hR651 hA652 H653
              refine sp_op [(35, undef)] (ac (hE650 22 (by decide)) an) ?_
              refine r_not (wn_u rfl rfl (by decide) rfl rfl) ?_
              exact r_nil (n_lp ⟨_, rfl, undef, rfl, H653⟩)
            · intro η38 wd660 Δ661 hE656 hR657 hA658 H659
              refine sp_op [(35, undef)] (ac (hE656 22 (by decide)) an) ?_
              refine r_not (wn_u rfl rfl (by decide) rfl rfl) ?_
              exact r_nil (n_lp ⟨_, rfl, undef, rfl, H659⟩)
            · intro η38 wd666 Δ667 hE662 hR663 hA664 H665
              refine sp_op [(35, undef)] (ac (hE662 22 (by decide)) an) ?_
              refine r_not (wn_u rfl rfl (by decide) rfl rfl) ?_
              exact r_nil (n_lp ⟨_, rfl, undef, rfl, H665⟩)
            · intro η38 wd672 Δ673 hE668 hR669 hA670 H671
              refine sp_op [(32, .bool true)] (ac (hE668 19 (by decide)) an) ?_
              refine r_not (wn_f rfl rfl (by decide) rfl rfl) ?_
              exact r_nil (n_lp ⟨_, rfl, undef, rfl, H671⟩)
            · intro η38 wd678 Δ679 hE674 hR675 hA676 H677
              refine sp_op [(32, .bool true), (45, undef)] (ac (hE674 19 (by decide)) (ac (hE674 32 (by decide)) an)) ?_
              refine r_pick_t (.bool true) rfl rfl rfl ?_
              exact r_nil (n_lp ⟨_, rfl, undef, rfl, H677⟩)
            · intro η38 wd681 hV682 H680
              have H683 : Hp w0 (Bx b30 43 [.int .i64 y18.Account, .int .i64 y18.Amount] :: Γ) wd681 := H680
              refine n_frame [(0, .slice A1 lines.length c2), (3, .int .i64 v8), (5, .pointer (some ⟨b30, 0, none⟩)), (6, .slice A1 lines.length c2), (7, .int .i64 (lines.length : Int)), (8, .int .i64 i13), (16, .pointer (some ⟨b30, 0, none⟩)), (17, .int .i64 y18.Account), (18, .bool y248), (19, .bool (!y248)), (22, .pointer (some ⟨b30, 1, none⟩)), (23, .int .i64 y18.Amount), (24, .bool (y18.Amount == 0)), (46, .bool true)] (ac rfl (ac rfl (ac rfl (ac rfl (ac rfl (ac rfl (ac (hV682 3 rfl) (ac (hV682 4 rfl) (ac (hV682 5 rfl) (ac (hV682 6 rfl) (ac (hV682 9 rfl) (ac (hV682 10 rfl) (ac (hV682 11 rfl) (ac (hV682 33 rfl) an)))))))))))))) ?_
              refine n_cut ⟨true, upk (ac rfl (ac rfl (ac rfl (ac rfl (ac rfl (ac rfl (ac rfl an))))))), H683, hm⟩
          · obtain ⟨y684, hy685, hm⟩ := bind_some hm
            rcases ite_some hm with ⟨hb690, hm⟩ | ⟨hb690, hm⟩
            · refine Flow.run' RA26_5 RW26_5 ((fun η38 v => v.1 = .int .i64 i13) :: (fun η38 v => v.1 = .bool (decide (i13 ≥ 20))) :: (fun η38 v => v.1 = .bool (decide (i13 ≥ 20))) :: (fun η38 v => v.1 = .pointer (some ⟨b30, 0, none⟩)) :: (fun η38 v => v.1 = .int .i64 y18.Account) :: (fun η38 v => v.1 = .bool y248) :: (fun η38 v => v.1 = .bool (!y248)) :: (fun η38 v => v.1 = .bool (!y248)) :: (fun η38 v => v.1 = .bool (!y248)) :: (fun η38 v => v.1 = .pointer (some ⟨b30, 1, none⟩)) :: (fun η38 v => v.1 = .int .i64 y18.Amount) :: (fun η38 v => v.1 = .bool (y18.Amount == 0)) :: (fun η38 v => v.1 = .bool (y18.Amount == 0)) :: (fun η38 v => v.1 = .bool (y18.Amount == 0)) :: (fun η38 v => v.1 = .pointer (some ⟨b30, 1, none⟩)) :: (fun η38 v => v.1 = .int .i64 y18.Amount) :: (fun η38 v => v.1 = .bool y684) :: (fun η38 v => v.1 = .bool (!y684)) :: (fun η38 v => v.1 = .bool (!y684)) :: (fun η38 v => v.1 = .bool (!y684)) :: (fun η38 v => v.1 = undef) :: (fun η38 v => v.1 = undef) :: (fun η38 v => v.1 = undef) :: (fun η38 v => v.1 = undef) :: (fun η38 v => v.1 = undef) :: (fun η38 v => v.1 = undef) :: (fun η38 v => v.1 = undef) :: (fun η38 v => v.1 = undef) :: (fun η38 v => v.1 = undef) :: (fun η38 v => v.1 = undef) :: (fun η38 v => v.1 = undef) :: (fun η38 v => v.1 = undef) :: (fun η38 v => v.1 = undef) :: (fun η38 v => v.1 = .bool true) :: []) [] rfl (by kernel_rfl) (by kernel_rfl) H33 ⟨?_, ?_, ?_, ?_, ?_, ?_, ?_, ?_, ?_, ?_, ?_, ?_, ?_, ?_, ?_, ?_, ?_, ?_, ?_, ?_, ?_, ?_, ?_, ?_, ?_, ?_, ?_, ?_, ?_, ?_, ?_, ?_, ?_, ?_, trivial⟩ ?_
              · intro η38 wd695 Δ696 hE691 hR692 hA693 H694
                refine sp_op [(4, .int .i64 i13)] (ac rfl an) ?_
                refine r_pure (.int .i64 i13) rfl ?_
                exact r_nil (n_lp ⟨_, rfl, undef, rfl, H694⟩)
              · intro η38 wd701 Δ702 hE697 hR698 hA699 H700
                refine sp_op [(13, .int .i64 i13)] (ac (hE697 0 (by decide)) an) ?_
                refine r_pure (.bool (decide (i13 ≥ 20))) rfl ?_
                exact r_nil (n_lp ⟨_, rfl, undef, rfl, H700⟩)
              · intro η38 wd707 Δ708 hE703 hR704 hA705 H706
                refine sp_op [(14, .bool (decide (i13 ≥ 20)))] (ac (hE703 1 (by decide)) an) ?_
                refine r_pure (.bool (decide (i13 ≥ 20))) rfl ?_
                exact r_nil (n_lp ⟨_, rfl, undef, rfl, H706⟩)
              · intro η38 wd713 Δ714 hE709 hR710 hA711 H712
                refine sp_op [(5, .pointer (some ⟨b30, 0, none⟩)), (15, .bool (decide (i13 ≥ 20)))] (ac rfl (ac (hE709 2 (by decide)) an)) ?_
                refine r_fa FA43_0 ⟨b30, 0, none⟩ rfl rfl ?_ (wn_t rfl rfl (by decide) rfl hb39)
                exact r_nil (n_lp ⟨_, rfl, undef, rfl, H712⟩)
              · intro η38 wd719 Δ720 hE715 hR716 hA717 H718
                have H718 : Hp w0 ((Δ720 ++ (Bx b30 43 [.int .i64 y18.Account, .int .i64 y18.Amount] :: Γ))) wd719 := H718
                refine sp_op [(15, .bool (decide (i13 ≥ 20))), (16, .pointer (some ⟨b30, 0, none⟩))] (ac (hE715 2 (by decide)) (ac (hE715 3 (by decide)) an)) ?_
                refine r_ld1 (.int .i64 y18.Account) LD3 rfl (((H718).tl.g0).cell _ rfl) ?_ (wn_t rfl rfl (by decide) rfl hb39)
                exact r_nil (n_lp ⟨_, rfl, undef, rfl, H718⟩)
              · intro η38 wd725 Δ726 hE721 hR722 hA723 H724
                have H724 : Hp w0 ((Δ726 ++ (Bx b30 43 [.int .i64 y18.Account, .int .i64 y18.Amount] :: Γ))) wd725 := H724
                refine sp_op [(15, .bool (decide (i13 ≥ 20))), (17, .int .i64 y18.Account)] (ac (hE721 2 (by decide)) (ac (hE721 4 (by decide)) an)) ?_
                refine r_callf Try.call38 (scutageref01_Account_ok y18.Account y248 H724 hy249) ?_ (wn_t rfl rfl (by decide) rfl hb39)
                rintro e730 wd729 ⟨rfl, H732⟩
                refine ⟨_, rfl, ?_⟩
                exact r_nil (n_lp ⟨_, rfl, undef, rfl, H732⟩)
              · intro η38 wd737 Δ738 hE733 hR734 hA735 H736
                refine sp_op [(15, .bool (decide (i13 ≥ 20))), (18, .bool y248)] (ac (hE733 2 (by decide)) (ac (hE733 5 (by decide)) an)) ?_
                refine r_pure (.bool (!y248)) rfl ?_ (wn_t rfl rfl (by decide) rfl hb39)
                exact r_nil (n_lp ⟨_, rfl, undef, rfl, H736⟩)
              · intro η38 wd743 Δ744 hE739 hR740 hA741 H742
                refine sp_op [(15, .bool (decide (i13 ≥ 20))), (19, .bool (!y248))] (ac (hE739 2 (by decide)) (ac (hE739 6 (by decide)) an)) ?_
                refine r_pick_f (.bool (!y248)) hb39 rfl rfl ?_
                exact r_nil (n_lp ⟨_, rfl, undef, rfl, H742⟩)
              · intro η38 wd749 Δ750 hE745 hR746 hA747 H748
                refine sp_op [(20, .bool (!y248))] (ac (hE745 7 (by decide)) an) ?_
                refine r_pure (.bool (!y248)) rfl ?_
                exact r_nil (n_lp ⟨_, rfl, undef, rfl, H748⟩)
              · intro η38 wd755 Δ756 hE751 hR752 hA753 H754
                refine sp_op [(5, .pointer (some ⟨b30, 0, none⟩)), (21, .bool (!y248))] (ac rfl (ac (hE751 8 (by decide)) an)) ?_
                refine r_fa FA43_1 ⟨b30, 1, none⟩ rfl rfl ?_ (wn_t rfl rfl (by decide) rfl hb254)
                exact r_nil (n_lp ⟨_, rfl, undef, rfl, H754⟩)
              · intro η38 wd761 Δ762 hE757 hR758 hA759 H760
                have H760 : Hp w0 ((Δ762 ++ (Bx b30 43 [.int .i64 y18.Account, .int .i64 y18.Amount] :: Γ))) wd761 := H760
                refine sp_op [(21, .bool (!y248)), (22, .pointer (some ⟨b30, 1, none⟩))] (ac (hE757 8 (by decide)) (ac (hE757 9 (by decide)) an)) ?_
                refine r_ld1 (.int .i64 y18.Amount) LD3 rfl (((H760).tl.g0).cell _ rfl) ?_ (wn_t rfl rfl (by decide) rfl hb254)
                exact r_nil (n_lp ⟨_, rfl, undef, rfl, H760⟩)
              · intro η38 wd767 Δ768 hE763 hR764 hA765 H766
                refine sp_op [(21, .bool (!y248)), (23, .int .i64 y18.Amount)] (ac (hE763 8 (by decide)) (ac (hE763 10 (by decide)) an)) ?_
                refine r_pure (.bool (y18.Amount == 0)) rfl ?_ (wn_t rfl rfl (by decide) rfl hb254)
                exact r_nil (n_lp ⟨_, rfl, undef, rfl, H766⟩)
              · intro η38 wd773 Δ774 hE769 hR770 hA771 H772
                refine sp_op [(21, .bool (!y248)), (24, .bool (y18.Amount == 0))] (ac (hE769 8 (by decide)) (ac (hE769 11 (by decide)) an)) ?_
                refine r_pick_f (.bool (y18.Amount == 0)) hb254 rfl rfl ?_
                exact r_nil (n_lp ⟨_, rfl, undef, rfl, H772⟩)
              · intro η38 wd779 Δ780 hE775 hR776 hA777 H778
                refine sp_op [(25, .bool (y18.Amount == 0))] (ac (hE775 12 (by decide)) an) ?_
                refine r_pure (.bool (y18.Amount == 0)) rfl ?_
                exact r_nil (n_lp ⟨_, rfl, undef, rfl, H778⟩)
              · intro η38 wd785 Δ786 hE781 hR782 hA783 H784
                refine sp_op [(5, .pointer (some ⟨b30, 0, none⟩)), (26, .bool (y18.Amount == 0))] (ac rfl (ac (hE781 13 (by decide)) an)) ?_
                refine r_fa FA43_1 ⟨b30, 1, none⟩ rfl rfl ?_ (wn_t rfl rfl (by decide) rfl hb469)
                exact r_nil (n_lp ⟨_, rfl, undef, rfl, H784⟩)
              · intro η38 wd791 Δ792 hE787 hR788 hA789 H790
                have H790 : Hp w0 ((Δ792 ++ (Bx b30 43 [.int .i64 y18.Account, .int .i64 y18.Amount] :: Γ))) wd791 := H790
                refine sp_op [(26, .bool (y18.Amount == 0)), (27, .pointer (some ⟨b30, 1, none⟩))] (ac (hE787 13 (by decide)) (ac (hE787 14 (by decide)) an)) ?_
                refine r_ld1 (.int .i64 y18.Amount) LD3 rfl (((H790).tl.g0).cell _ rfl) ?_ (wn_t rfl rfl (by decide) rfl hb469)
                exact r_nil (n_lp ⟨_, rfl, undef, rfl, H790⟩)
              · intro η38 wd797 Δ798 hE793 hR794 hA795 H796
                have H796 : Hp w0 ((Δ798 ++ (Bx b30 43 [.int .i64 y18.Account, .int .i64 y18.Amount] :: Γ))) wd797 := H796
                refine sp_op [(26, .bool (y18.Amount == 0)), (28, .int .i64 y18.Amount)] (ac (hE793 13 (by decide)) (ac (hE793 15 (by decide)) an)) ?_
                refine r_callf Try.call30 (scutageref01_Money_ok y18.Amount y684 H796 hy685) ?_ (wn_t rfl rfl (by decide) rfl hb469)
                rintro e802 wd801 ⟨rfl, H804⟩
                refine ⟨_, rfl, ?_⟩
                exact r_nil (n_lp ⟨_, rfl, undef, rfl, H804⟩)
              · intro η38 wd809 Δ810 hE805 hR806 hA807 H808
                refine sp_op [(26, .bool (y18.Amount == 0)), (29, .bool y684)] (ac (hE805 13 (by decide)) (ac (hE805 16 (by decide)) an)) ?_
                refine r_pure (.bool (!y684)) rfl ?_ (wn_t rfl rfl (by decide) rfl hb469)
                exact r_nil (n_lp ⟨_, rfl, undef, rfl, H808⟩)
              · intro η38 wd815 Δ816 hE811 hR812 hA813 H814
                refine sp_op [(26, .bool (y18.Amount == 0)), (30, .bool (!y684))] (ac (hE811 13 (by decide)) (ac (hE811 17 (by decide)) an)) ?_
                refine r_pick_f (.bool (!y684)) hb469 rfl rfl ?_
                exact r_nil (n_lp ⟨_, rfl, undef, rfl, H814⟩)
              · intro η38 wd821 Δ822 hE817 hR818 hA819 H820
                refine sp_op [(31, .bool (!y684))] (ac (hE817 18 (by decide)) an) ?_
                refine r_pure (.bool (!y684)) rfl ?_
                exact r_nil (n_lp ⟨_, rfl, undef, rfl, H820⟩)
              · intro η38 wd827 Δ828 hE823 hR824 hA825 H826
                refine sp_op [(32, .bool (!y684))] (ac (hE823 19 (by decide)) an) ?_
                refine r_not (wn_f rfl rfl (by decide) rfl hb690) ?_
                exact r_nil (n_lp ⟨_, rfl, undef, rfl, H826⟩)
              · intro η38 wd833 Δ834 hE829 hR830 hA831 H832
                refine sp_op [(32, .bool (!y684))] (ac (hE829 19 (by decide)) an) ?_
                refine r_not (wn_f rfl rfl (by decide) rfl hb690) ?_
                exact r_nil (n_lp ⟨_, rfl, undef, rfl, H832⟩)
              · intro η38 wd839 Δ840 hE835 hR836 hA837 H838
                refine sp_op [(32, .bool (!y684))] (ac (hE835 19 (by decide)) an) ?_
                refine r_not (wn_f rfl rfl (by decide) rfl hb690) ?_
                exact r_nil (n_lp ⟨_, rfl, undef, rfl, H838⟩)
              · intro η38 wd845 Δ846 hE841 hR842 hA843 H844
                refine sp_op [(35, undef)] (ac (hE841 22 (by decide)) an) ?_
                refine r_not (wn_u rfl rfl (by decide) rfl rfl) ?_
                exact r_nil (n_lp ⟨_, rfl, undef, rfl, H844⟩)
              · intro η38 wd851 Δ852 hE847 hR848 hA849 H850
                refine sp_op [(35, undef)] (ac (hE847 22 (by decide)) an) ?_
                refine r_not (wn_u rfl rfl (by decide) rfl rfl) ?_
                exact r_nil (n_lp ⟨_, rfl, undef, rfl, H850⟩)
              · intro η38 wd857 Δ858 hE853 hR854 hA855 H856
                refine sp_op [(35, undef)] (ac (hE853 22 (by decide)) an) ?_
                refine r_not (wn_u rfl rfl (by decide) rfl rfl) ?_
                exact r_nil (n_lp ⟨_, rfl, undef, rfl, H856⟩)
              · intro η38 wd863 Δ864 hE859 hR860 hA861 H862
                refine sp_op [(35, undef)] (ac (hE859 22 (by decide)) an) ?_
                refine r_not (wn_u rfl rfl (by decide) rfl rfl) ?_
                exact r_nil (n_lp ⟨_, rfl, undef, rfl, H862⟩)
              · intro η38 wd869 Δ870 hE865 hR866 hA867 H868
                refine sp_op [(35, undef)] (ac (hE865 22 (by decide)) an) ?_
                refine r_not (wn_u rfl rfl (by decide) rfl rfl) ?_
                exact r_nil (n_lp ⟨_, rfl, undef, rfl, H868⟩)
              · intro η38 wd875 Δ876 hE871 hR872 hA873 H874
                refine sp_op [(35, undef)] (ac (hE871 22 (by decide)) an) ?_
                refine r_not (wn_u rfl rfl (by decide) rfl rfl) ?_
                exact r_nil (n_lp ⟨_, rfl, undef, rfl, H874⟩)
              · intro η38 wd881 Δ882 hE877 hR878 hA879 H880
                refine sp_op [(35, undef)] (ac (hE877 22 (by decide)) an) ?_
                refine r_not (wn_u rfl rfl (by decide) rfl rfl) ?_
                exact r_nil (n_lp ⟨_, rfl, undef, rfl, H880⟩)
              · intro η38 wd887 Δ888 hE883 hR884 hA885 H886
                refine sp_op [(35, undef)] (ac (hE883 22 (by decide)) an) ?_
                refine r_not (wn_u rfl rfl (by decide) rfl rfl) ?_
                exact r_nil (n_lp ⟨_, rfl, undef, rfl, H886⟩)
              · intro η38 wd893 Δ894 hE889 hR890 hA891 H892
                refine sp_op [(35, undef)] (ac (hE889 22 (by decide)) an) ?_
                refine r_not (wn_u rfl rfl (by decide) rfl rfl) ?_
                exact r_nil (n_lp ⟨_, rfl, undef, rfl, H892⟩)
              · intro η38 wd899 Δ900 hE895 hR896 hA897 H898
                refine sp_op [(32, .bool (!y684))] (ac (hE895 19 (by decide)) an) ?_
                refine r_not (wn_f rfl rfl (by decide) rfl hb690) ?_
                exact r_nil (n_lp ⟨_, rfl, undef, rfl, H898⟩)
              · intro η38 wd905 Δ906 hE901 hR902 hA903 H904
                refine sp_op [(32, .bool (!y684)), (45, undef)] (ac (hE901 19 (by decide)) (ac (hE901 32 (by decide)) an)) ?_
                refine r_pick_t (.bool true) hb690 rfl rfl ?_
                exact r_nil (n_lp ⟨_, rfl, undef, rfl, H904⟩)
              · intro η38 wd908 hV909 H907
                have H910 : Hp w0 (Bx b30 43 [.int .i64 y18.Account, .int .i64 y18.Amount] :: Γ) wd908 := H907
                refine n_frame [(0, .slice A1 lines.length c2), (3, .int .i64 v8), (5, .pointer (some ⟨b30, 0, none⟩)), (6, .slice A1 lines.length c2), (7, .int .i64 (lines.length : Int)), (8, .int .i64 i13), (16, .pointer (some ⟨b30, 0, none⟩)), (17, .int .i64 y18.Account), (18, .bool y248), (19, .bool (!y248)), (22, .pointer (some ⟨b30, 1, none⟩)), (23, .int .i64 y18.Amount), (24, .bool (y18.Amount == 0)), (27, .pointer (some ⟨b30, 1, none⟩)), (28, .int .i64 y18.Amount), (29, .bool y684), (30, .bool (!y684)), (46, .bool true)] (ac rfl (ac rfl (ac rfl (ac rfl (ac rfl (ac rfl (ac (hV909 3 rfl) (ac (hV909 4 rfl) (ac (hV909 5 rfl) (ac (hV909 6 rfl) (ac (hV909 9 rfl) (ac (hV909 10 rfl) (ac (hV909 11 rfl) (ac (hV909 14 rfl) (ac (hV909 15 rfl) (ac (hV909 16 rfl) (ac (hV909 17 rfl) (ac (hV909 33 rfl) an)))))))))))))))))) ?_
                refine n_cut ⟨true, upk (ac rfl (ac rfl (ac rfl (ac rfl (ac rfl (ac rfl (ac rfl an))))))), H910, hm⟩
            · rcases ite_some hm with ⟨hb911, hm⟩ | ⟨hb911, hm⟩
              · obtain ⟨⟨h0912, h1913⟩, hm⟩ := gd_some hm
                have hj914 := rd_get h0912 h1913
                refine Flow.run' RA26_5 RW26_5 ((fun η38 v => v.1 = .int .i64 i13) :: (fun η38 v => v.1 = .bool (decide (i13 ≥ 20))) :: (fun η38 v => v.1 = .bool (decide (i13 ≥ 20))) :: (fun η38 v => v.1 = .pointer (some ⟨b30, 0, none⟩)) :: (fun η38 v => v.1 = .int .i64 y18.Account) :: (fun η38 v => v.1 = .bool y248) :: (fun η38 v => v.1 = .bool (!y248)) :: (fun η38 v => v.1 = .bool (!y248)) :: (fun η38 v => v.1 = .bool (!y248)) :: (fun η38 v => v.1 = .pointer (some ⟨b30, 1, none⟩)) :: (fun η38 v => v.1 = .int .i64 y18.Amount) :: (fun η38 v => v.1 = .bool (y18.Amount == 0)) :: (fun η38 v => v.1 = .bool (y18.Amount == 0)) :: (fun η38 v => v.1 = .bool (y18.Amount == 0)) :: (fun η38 v => v.1 = .pointer (some ⟨b30, 1, none⟩)) :: (fun η38 v => v.1 = .int .i64 y18.Amount) :: (fun η38 v => v.1 = .bool y684) :: (fun η38 v => v.1 = .bool (!y684)) :: (fun η38 v => v.1 = .bool (!y684)) :: (fun η38 v => v.1 = .bool (!y684)) :: (fun η38 v => v.1 = .int .i64 i13) :: (fun η38 v => v.1 = .bool (decide (i13 > 0))) :: (fun η38 v => v.1 = .bool (decide (i13 > 0))) :: (fun η38 v => v.1 = .pointer (some ⟨b30, 0, none⟩)) :: (fun η38 v => v.1 = .int .i64 y18.Account) :: (fun η38 v => v.1 = .slice A1 lines.length c2) :: (fun η38 v => v.1 = .int .i64 i13) :: (fun η38 v => v.1 = .int .i64 (w64 (i13 - 1))) :: (fun η38 v => v.1 = .pointer (some ((oA A1).add (Int.toNat (w64 (i13 - 1)) * 2)))) :: (fun η38 v => v.1 = .pointer (some (((oA A1).add (Int.toNat (w64 (i13 - 1)) * 2)).add 0))) :: (fun η38 v => v.1 = .int .i64 ((rd lines (w64 (i13 - 1))).Account)) :: (fun η38 v => v.1 = .bool (decide (y18.Account ≤ (rd lines (w64 (i13 - 1))).Account))) :: (fun η38 v => v.1 = .bool (decide (y18.Account ≤ (rd lines (w64 (i13 - 1))).Account))) :: (fun η38 v => v.1 = .bool (decide (y18.Account ≤ (rd lines (w64 (i13 - 1))).Account))) :: []) [] rfl (by kernel_rfl) (by kernel_rfl) H33 ⟨?_, ?_, ?_, ?_, ?_, ?_, ?_, ?_, ?_, ?_, ?_, ?_, ?_, ?_, ?_, ?_, ?_, ?_, ?_, ?_, ?_, ?_, ?_, ?_, ?_, ?_, ?_, ?_, ?_, ?_, ?_, ?_, ?_, ?_, trivial⟩ ?_
                · intro η38 wd919 Δ920 hE915 hR916 hA917 H918
                  refine sp_op [(4, .int .i64 i13)] (ac rfl an) ?_
                  refine r_pure (.int .i64 i13) rfl ?_
                  exact r_nil (n_lp ⟨_, rfl, undef, rfl, H918⟩)
                · intro η38 wd925 Δ926 hE921 hR922 hA923 H924
                  refine sp_op [(13, .int .i64 i13)] (ac (hE921 0 (by decide)) an) ?_
                  refine r_pure (.bool (decide (i13 ≥ 20))) rfl ?_
                  exact r_nil (n_lp ⟨_, rfl, undef, rfl, H924⟩)
                · intro η38 wd931 Δ932 hE927 hR928 hA929 H930
                  refine sp_op [(14, .bool (decide (i13 ≥ 20)))] (ac (hE927 1 (by decide)) an) ?_
                  refine r_pure (.bool (decide (i13 ≥ 20))) rfl ?_
                  exact r_nil (n_lp ⟨_, rfl, undef, rfl, H930⟩)
                · intro η38 wd937 Δ938 hE933 hR934 hA935 H936
                  refine sp_op [(5, .pointer (some ⟨b30, 0, none⟩)), (15, .bool (decide (i13 ≥ 20)))] (ac rfl (ac (hE933 2 (by decide)) an)) ?_
                  refine r_fa FA43_0 ⟨b30, 0, none⟩ rfl rfl ?_ (wn_t rfl rfl (by decide) rfl hb39)
                  exact r_nil (n_lp ⟨_, rfl, undef, rfl, H936⟩)
                · intro η38 wd943 Δ944 hE939 hR940 hA941 H942
                  have H942 : Hp w0 ((Δ944 ++ (Bx b30 43 [.int .i64 y18.Account, .int .i64 y18.Amount] :: Γ))) wd943 := H942
                  refine sp_op [(15, .bool (decide (i13 ≥ 20))), (16, .pointer (some ⟨b30, 0, none⟩))] (ac (hE939 2 (by decide)) (ac (hE939 3 (by decide)) an)) ?_
                  refine r_ld1 (.int .i64 y18.Account) LD3 rfl (((H942).tl.g0).cell _ rfl) ?_ (wn_t rfl rfl (by decide) rfl hb39)
                  exact r_nil (n_lp ⟨_, rfl, undef, rfl, H942⟩)
                · intro η38 wd949 Δ950 hE945 hR946 hA947 H948
                  have H948 : Hp w0 ((Δ950 ++ (Bx b30 43 [.int .i64 y18.Account, .int .i64 y18.Amount] :: Γ))) wd949 := H948
                  refine sp_op [(15, .bool (decide (i13 ≥ 20))), (17, .int .i64 y18.Account)] (ac (hE945 2 (by decide)) (ac (hE945 4 (by decide)) an)) ?_
                  refine r_callf Try.call38 (scutageref01_Account_ok y18.Account y248 H948 hy249) ?_ (wn_t rfl rfl (by decide) rfl hb39)
                  rintro e954 wd953 ⟨rfl, H956⟩
                  refine ⟨_, rfl, ?_⟩
                  exact r_nil (n_lp ⟨_, rfl, undef, rfl, H956⟩)
                · intro η38 wd961 Δ962 hE957 hR958 hA959 H960
                  refine sp_op [(15, .bool (decide (i13 ≥ 20))), (18, .bool y248)] (ac (hE957 2 (by decide)) (ac (hE957 5 (by decide)) an)) ?_
                  refine r_pure (.bool (!y248)) rfl ?_ (wn_t rfl rfl (by decide) rfl hb39)
                  exact r_nil (n_lp ⟨_, rfl, undef, rfl, H960⟩)
                · intro η38 wd967 Δ968 hE963 hR964 hA965 H966
                  refine sp_op [(15, .bool (decide (i13 ≥ 20))), (19, .bool (!y248))] (ac (hE963 2 (by decide)) (ac (hE963 6 (by decide)) an)) ?_
                  refine r_pick_f (.bool (!y248)) hb39 rfl rfl ?_
                  exact r_nil (n_lp ⟨_, rfl, undef, rfl, H966⟩)
                · intro η38 wd973 Δ974 hE969 hR970 hA971 H972
                  refine sp_op [(20, .bool (!y248))] (ac (hE969 7 (by decide)) an) ?_
                  refine r_pure (.bool (!y248)) rfl ?_
                  exact r_nil (n_lp ⟨_, rfl, undef, rfl, H972⟩)
                · intro η38 wd979 Δ980 hE975 hR976 hA977 H978
                  refine sp_op [(5, .pointer (some ⟨b30, 0, none⟩)), (21, .bool (!y248))] (ac rfl (ac (hE975 8 (by decide)) an)) ?_
                  refine r_fa FA43_1 ⟨b30, 1, none⟩ rfl rfl ?_ (wn_t rfl rfl (by decide) rfl hb254)
                  exact r_nil (n_lp ⟨_, rfl, undef, rfl, H978⟩)
                · intro η38 wd985 Δ986 hE981 hR982 hA983 H984
                  have H984 : Hp w0 ((Δ986 ++ (Bx b30 43 [.int .i64 y18.Account, .int .i64 y18.Amount] :: Γ))) wd985 := H984
                  refine sp_op [(21, .bool (!y248)), (22, .pointer (some ⟨b30, 1, none⟩))] (ac (hE981 8 (by decide)) (ac (hE981 9 (by decide)) an)) ?_
                  refine r_ld1 (.int .i64 y18.Amount) LD3 rfl (((H984).tl.g0).cell _ rfl) ?_ (wn_t rfl rfl (by decide) rfl hb254)
                  exact r_nil (n_lp ⟨_, rfl, undef, rfl, H984⟩)
                · intro η38 wd991 Δ992 hE987 hR988 hA989 H990
                  refine sp_op [(21, .bool (!y248)), (23, .int .i64 y18.Amount)] (ac (hE987 8 (by decide)) (ac (hE987 10 (by decide)) an)) ?_
                  refine r_pure (.bool (y18.Amount == 0)) rfl ?_ (wn_t rfl rfl (by decide) rfl hb254)
                  exact r_nil (n_lp ⟨_, rfl, undef, rfl, H990⟩)
                · intro η38 wd997 Δ998 hE993 hR994 hA995 H996
                  refine sp_op [(21, .bool (!y248)), (24, .bool (y18.Amount == 0))] (ac (hE993 8 (by decide)) (ac (hE993 11 (by decide)) an)) ?_
                  refine r_pick_f (.bool (y18.Amount == 0)) hb254 rfl rfl ?_
                  exact r_nil (n_lp ⟨_, rfl, undef, rfl, H996⟩)
                · intro η38 wd1003 Δ1004 hE999 hR1000 hA1001 H1002
                  refine sp_op [(25, .bool (y18.Amount == 0))] (ac (hE999 12 (by decide)) an) ?_
                  refine r_pure (.bool (y18.Amount == 0)) rfl ?_
                  exact r_nil (n_lp ⟨_, rfl, undef, rfl, H1002⟩)
                · intro η38 wd1009 Δ1010 hE1005 hR1006 hA1007 H1008
                  refine sp_op [(5, .pointer (some ⟨b30, 0, none⟩)), (26, .bool (y18.Amount == 0))] (ac rfl (ac (hE1005 13 (by decide)) an)) ?_
                  refine r_fa FA43_1 ⟨b30, 1, none⟩ rfl rfl ?_ (wn_t rfl rfl (by decide) rfl hb469)
                  exact r_nil (n_lp ⟨_, rfl, undef, rfl, H1008⟩)
                · intro η38 wd1015 Δ1016 hE1011 hR1012 hA1013 H1014
                  have H1014 : Hp w0 ((Δ1016 ++ (Bx b30 43 [.int .i64 y18.Account, .int .i64 y18.Amount] :: Γ))) wd1015 := H1014
                  refine sp_op [(26, .bool (y18.Amount == 0)), (27, .pointer (some ⟨b30, 1, none⟩))] (ac (hE1011 13 (by decide)) (ac (hE1011 14 (by decide)) an)) ?_
                  refine r_ld1 (.int .i64 y18.Amount) LD3 rfl (((H1014).tl.g0).cell _ rfl) ?_ (wn_t rfl rfl (by decide) rfl hb469)
                  exact r_nil (n_lp ⟨_, rfl, undef, rfl, H1014⟩)
                · intro η38 wd1021 Δ1022 hE1017 hR1018 hA1019 H1020
                  have H1020 : Hp w0 ((Δ1022 ++ (Bx b30 43 [.int .i64 y18.Account, .int .i64 y18.Amount] :: Γ))) wd1021 := H1020
                  refine sp_op [(26, .bool (y18.Amount == 0)), (28, .int .i64 y18.Amount)] (ac (hE1017 13 (by decide)) (ac (hE1017 15 (by decide)) an)) ?_
                  refine r_callf Try.call30 (scutageref01_Money_ok y18.Amount y684 H1020 hy685) ?_ (wn_t rfl rfl (by decide) rfl hb469)
                  rintro e1026 wd1025 ⟨rfl, H1028⟩
                  refine ⟨_, rfl, ?_⟩
                  exact r_nil (n_lp ⟨_, rfl, undef, rfl, H1028⟩)
                · intro η38 wd1033 Δ1034 hE1029 hR1030 hA1031 H1032
                  refine sp_op [(26, .bool (y18.Amount == 0)), (29, .bool y684)] (ac (hE1029 13 (by decide)) (ac (hE1029 16 (by decide)) an)) ?_
                  refine r_pure (.bool (!y684)) rfl ?_ (wn_t rfl rfl (by decide) rfl hb469)
                  exact r_nil (n_lp ⟨_, rfl, undef, rfl, H1032⟩)
                · intro η38 wd1039 Δ1040 hE1035 hR1036 hA1037 H1038
                  refine sp_op [(26, .bool (y18.Amount == 0)), (30, .bool (!y684))] (ac (hE1035 13 (by decide)) (ac (hE1035 17 (by decide)) an)) ?_
                  refine r_pick_f (.bool (!y684)) hb469 rfl rfl ?_
                  exact r_nil (n_lp ⟨_, rfl, undef, rfl, H1038⟩)
                · intro η38 wd1045 Δ1046 hE1041 hR1042 hA1043 H1044
                  refine sp_op [(31, .bool (!y684))] (ac (hE1041 18 (by decide)) an) ?_
                  refine r_pure (.bool (!y684)) rfl ?_
                  exact r_nil (n_lp ⟨_, rfl, undef, rfl, H1044⟩)
                · intro η38 wd1051 Δ1052 hE1047 hR1048 hA1049 H1050
                  refine sp_op [(4, .int .i64 i13), (32, .bool (!y684))] (ac rfl (ac (hE1047 19 (by decide)) an)) ?_
                  refine r_pure (.int .i64 i13) rfl ?_ (wn_t rfl rfl (by decide) rfl hb690)
                  exact r_nil (n_lp ⟨_, rfl, undef, rfl, H1050⟩)
                · intro η38 wd1057 Δ1058 hE1053 hR1054 hA1055 H1056
                  refine sp_op [(32, .bool (!y684)), (33, .int .i64 i13)] (ac (hE1053 19 (by decide)) (ac (hE1053 20 (by decide)) an)) ?_
                  refine r_pure (.bool (decide (i13 > 0))) rfl ?_ (wn_t rfl rfl (by decide) rfl hb690)
                  exact r_nil (n_lp ⟨_, rfl, undef, rfl, H1056⟩)
                · intro η38 wd1063 Δ1064 hE1059 hR1060 hA1061 H1062
                  refine sp_op [(32, .bool (!y684)), (34, .bool (decide (i13 > 0)))] (ac (hE1059 19 (by decide)) (ac (hE1059 21 (by decide)) an)) ?_
                  refine r_pure (.bool (decide (i13 > 0))) rfl ?_ (wn_t rfl rfl (by decide) rfl hb690)
                  exact r_nil (n_lp ⟨_, rfl, undef, rfl, H1062⟩)
                · intro η38 wd1069 Δ1070 hE1065 hR1066 hA1067 H1068
                  refine sp_op [(5, .pointer (some ⟨b30, 0, none⟩)), (35, .bool (decide (i13 > 0)))] (ac rfl (ac (hE1065 22 (by decide)) an)) ?_
                  refine r_fa FA43_0 ⟨b30, 0, none⟩ rfl rfl ?_ (wn_t rfl rfl (by decide) rfl hb911)
                  exact r_nil (n_lp ⟨_, rfl, undef, rfl, H1068⟩)
                · intro η38 wd1075 Δ1076 hE1071 hR1072 hA1073 H1074
                  have H1074 : Hp w0 ((Δ1076 ++ (Bx b30 43 [.int .i64 y18.Account, .int .i64 y18.Amount] :: Γ))) wd1075 := H1074
                  refine sp_op [(35, .bool (decide (i13 > 0))), (36, .pointer (some ⟨b30, 0, none⟩))] (ac (hE1071 22 (by decide)) (ac (hE1071 23 (by decide)) an)) ?_
                  refine r_ld1 (.int .i64 y18.Account) LD3 rfl (((H1074).tl.g0).cell _ rfl) ?_ (wn_t rfl rfl (by decide) rfl hb911)
                  exact r_nil (n_lp ⟨_, rfl, undef, rfl, H1074⟩)
                · intro η38 wd1081 Δ1082 hE1077 hR1078 hA1079 H1080
                  refine sp_op [(0, .slice A1 lines.length c2), (35, .bool (decide (i13 > 0)))] (ac rfl (ac (hE1077 22 (by decide)) an)) ?_
                  refine r_pure (.slice A1 lines.length c2) rfl ?_ (wn_t rfl rfl (by decide) rfl hb911)
                  exact r_nil (n_lp ⟨_, rfl, undef, rfl, H1080⟩)
                · intro η38 wd1087 Δ1088 hE1083 hR1084 hA1085 H1086
                  refine sp_op [(4, .int .i64 i13), (35, .bool (decide (i13 > 0)))] (ac rfl (ac (hE1083 22 (by decide)) an)) ?_
                  refine r_pure (.int .i64 i13) rfl ?_ (wn_t rfl rfl (by decide) rfl hb911)
                  exact r_nil (n_lp ⟨_, rfl, undef, rfl, H1086⟩)
                · intro η38 wd1093 Δ1094 hE1089 hR1090 hA1091 H1092
                  refine sp_op [(35, .bool (decide (i13 > 0))), (39, .int .i64 i13)] (ac (hE1089 22 (by decide)) (ac (hE1089 26 (by decide)) an)) ?_
                  refine r_pure (.int .i64 (w64 (i13 - 1))) rfl ?_ (wn_t rfl rfl (by decide) rfl hb911)
                  exact r_nil (n_lp ⟨_, rfl, undef, rfl, H1092⟩)
                · intro η38 wd1099 Δ1100 hE1095 hR1096 hA1097 H1098
                  refine sp_op [(35, .bool (decide (i13 > 0))), (38, .slice A1 lines.length c2), (40, .int .i64 (w64 (i13 - 1)))] (ac (hE1095 22 (by decide)) (ac (hE1095 25 (by decide)) (ac (hE1095 27 (by decide)) an))) ?_
                  refine r_ix IX34 rfl rfl hA29 h0912 h1913 ?_ (wn_t rfl rfl (by decide) rfl hb911)
                  exact r_nil (n_lp ⟨_, rfl, undef, rfl, H1098⟩)
                · intro η38 wd1108 Δ1109 hE1104 hR1105 hA1106 H1107
                  refine sp_op [(35, .bool (decide (i13 > 0))), (41, .pointer (some ((oA A1).add (Int.toNat (w64 (i13 - 1)) * 2))))] (ac (hE1104 22 (by decide)) (ac (hE1104 28 (by decide)) an)) ?_
                  refine r_fa FA43_0 (((oA A1).add (Int.toNat (w64 (i13 - 1)) * 2)).add 0) rfl rfl ?_ (wn_t rfl rfl (by decide) rfl hb911)
                  exact r_nil (n_lp ⟨_, rfl, undef, rfl, H1107⟩)
                · intro η38 wd1114 Δ1115 hE1110 hR1111 hA1112 H1113
                  have H1113 : Hp w0 ((Δ1115 ++ (Bx b30 43 [.int .i64 y18.Account, .int .i64 y18.Amount] :: Γ))) wd1114 := H1113
                  refine sp_op [(35, .bool (decide (i13 > 0))), (42, .pointer (some (((oA A1).add (Int.toNat (w64 (i13 - 1)) * 2)).add 0)))] (ac (hE1110 22 (by decide)) (ac (hE1110 29 (by decide)) an)) ?_
                  refine r_ld1 (.int .i64 ((rd lines (w64 (i13 - 1))).Account)) LD3 rfl ((hv4 _ (H1113).tl.d).cA hA29 hj914 0 _ rfl) ?_ (wn_t rfl rfl (by decide) rfl hb911)
                  exact r_nil (n_lp ⟨_, rfl, undef, rfl, H1113⟩)
                · intro η38 wd1120 Δ1121 hE1116 hR1117 hA1118 H1119
                  refine sp_op [(35, .bool (decide (i13 > 0))), (37, .int .i64 y18.Account), (43, .int .i64 ((rd lines (w64 (i13 - 1))).Account))] (ac (hE1116 22 (by decide)) (ac (hE1116 24 (by decide)) (ac (hE1116 30 (by decide)) an))) ?_
                  refine r_pure (.bool (decide (y18.Account ≤ (rd lines (w64 (i13 - 1))).Account))) rfl ?_ (wn_t rfl rfl (by decide) rfl hb911)
                  exact r_nil (n_lp ⟨_, rfl, undef, rfl, H1119⟩)
                · intro η38 wd1126 Δ1127 hE1122 hR1123 hA1124 H1125
                  refine sp_op [(32, .bool (!y684)), (35, .bool (decide (i13 > 0))), (44, .bool (decide (y18.Account ≤ (rd lines (w64 (i13 - 1))).Account)))] (ac (hE1122 19 (by decide)) (ac (hE1122 22 (by decide)) (ac (hE1122 31 (by decide)) an))) ?_
                  refine r_pick_t (.bool (decide (y18.Account ≤ (rd lines (w64 (i13 - 1))).Account))) hb911 rfl rfl ?_ (wn_t rfl rfl (by decide) rfl hb690)
                  exact r_nil (n_lp ⟨_, rfl, undef, rfl, H1125⟩)
                · intro η38 wd1132 Δ1133 hE1128 hR1129 hA1130 H1131
                  refine sp_op [(32, .bool (!y684)), (45, .bool (decide (y18.Account ≤ (rd lines (w64 (i13 - 1))).Account)))] (ac (hE1128 19 (by decide)) (ac (hE1128 32 (by decide)) an)) ?_
                  refine r_pick_f (.bool (decide (y18.Account ≤ (rd lines (w64 (i13 - 1))).Account))) hb690 rfl rfl ?_
                  exact r_nil (n_lp ⟨_, rfl, undef, rfl, H1131⟩)
                · intro η38 wd1135 hV1136 H1134
                  have H1137 : Hp w0 (Bx b30 43 [.int .i64 y18.Account, .int .i64 y18.Amount] :: Γ) wd1135 := H1134
                  refine n_frame ((0, .slice A1 lines.length c2) :: (3, .int .i64 v8) :: (5, .pointer (some ⟨b30, 0, none⟩)) :: (6, .slice A1 lines.length c2) :: (7, .int .i64 (lines.length : Int)) :: (8, .int .i64 i13) :: (16, .pointer (some ⟨b30, 0, none⟩)) :: (17, .int .i64 y18.Account) :: (18, .bool y248) :: (19, .bool (!y248)) :: (22, .pointer (some ⟨b30, 1, none⟩)) :: (23, .int .i64 y18.Amount) :: (24, .bool (y18.Amount == 0)) :: (27, .pointer (some ⟨b30, 1, none⟩)) :: (28, .int .i64 y18.Amount) :: (29, .bool y684) :: (30, .bool (!y684)) :: (33, .int .i64 i13) :: (34, .bool (decide (i13 > 0))) :: (35, .bool (decide (i13 > 0))) :: (36, .pointer (some ⟨b30, 0, none⟩)) :: (37, .int .i64 y18.Account) :: (38, .slice A1 lines.length c2) :: (39, .int .i64 i13) :: (40, .int .i64 (w64 (i13 - 1))) :: (41, .pointer (some ((oA A1).add (Int.toNat (w64 (i13 - 1)) * 2)))) :: (42, .pointer (some (((oA A1).add (Int.toNat (w64 (i13 - 1)) * 2)).add 0))) :: (43, .int .i64 ((rd lines (w64 (i13 - 1))).Account)) :: (44, .bool (decide (y18.Account ≤ (rd lines (w64 (i13 - 1))).Account))) :: (45, .bool (decide (y18.Account ≤ (rd lines (w64 (i13 - 1))).Account))) :: (46, .bool (decide (y18.Account ≤ (rd lines (w64 (i13 - 1))).Account))) :: []) (ac rfl (ac rfl (ac rfl (ac rfl (ac rfl (ac rfl (ac (hV1136 3 rfl) (ac (hV1136 4 rfl) (ac (hV1136 5 rfl) (ac (hV1136 6 rfl) (ac (hV1136 9 rfl) (ac (hV1136 10 rfl) (ac (hV1136 11 rfl) (ac (hV1136 14 rfl) (ac (hV1136 15 rfl) (ac (hV1136 16 rfl) (ac (hV1136 17 rfl) (ac (hV1136 20 rfl) (ac (hV1136 21 rfl) (ac (hV1136 22 rfl) (ac (hV1136 23 rfl) (ac (hV1136 24 rfl) (ac (hV1136 25 rfl) (ac (hV1136 26 rfl) (ac (hV1136 27 rfl) (ac (hV1136 28 rfl) (ac (hV1136 29 rfl) (ac (hV1136 30 rfl) (ac (hV1136 31 rfl) (ac (hV1136 32 rfl) (ac (hV1136 33 rfl) an))))))))))))))))))))))))))))))) ?_
                  refine n_cut ⟨decide (y18.Account ≤ (rd lines (w64 (i13 - 1))).Account), upk (ac rfl (ac rfl (ac rfl (ac rfl (ac rfl (ac rfl (ac rfl an))))))), H1137, hm⟩
              · refine Flow.run' RA26_5 RW26_5 ((fun η38 v => v.1 = .int .i64 i13) :: (fun η38 v => v.1 = .bool (decide (i13 ≥ 20))) :: (fun η38 v => v.1 = .bool (decide (i13 ≥ 20))) :: (fun η38 v => v.1 = .pointer (some ⟨b30, 0, none⟩)) :: (fun η38 v => v.1 = .int .i64 y18.Account) :: (fun η38 v => v.1 = .bool y248) :: (fun η38 v => v.1 = .bool (!y248)) :: (fun η38 v => v.1 = .bool (!y248)) :: (fun η38 v => v.1 = .bool (!y248)) :: (fun η38 v => v.1 = .pointer (some ⟨b30, 1, none⟩)) :: (fun η38 v => v.1 = .int .i64 y18.Amount) :: (fun η38 v => v.1 = .bool (y18.Amount == 0)) :: (fun η38 v => v.1 = .bool (y18.Amount == 0)) :: (fun η38 v => v.1 = .bool (y18.Amount == 0)) :: (fun η38 v => v.1 = .pointer (some ⟨b30, 1, none⟩)) :: (fun η38 v => v.1 = .int .i64 y18.Amount) :: (fun η38 v => v.1 = .bool y684) :: (fun η38 v => v.1 = .bool (!y684)) :: (fun η38 v => v.1 = .bool (!y684)) :: (fun η38 v => v.1 = .bool (!y684)) :: (fun η38 v => v.1 = .int .i64 i13) :: (fun η38 v => v.1 = .bool (decide (i13 > 0))) :: (fun η38 v => v.1 = .bool (decide (i13 > 0))) :: (fun η38 v => v.1 = undef) :: (fun η38 v => v.1 = undef) :: (fun η38 v => v.1 = undef) :: (fun η38 v => v.1 = undef) :: (fun η38 v => v.1 = undef) :: (fun η38 v => v.1 = undef) :: (fun η38 v => v.1 = undef) :: (fun η38 v => v.1 = undef) :: (fun η38 v => v.1 = undef) :: (fun η38 v => v.1 = .bool false) :: (fun η38 v => v.1 = .bool false) :: []) [] rfl (by kernel_rfl) (by kernel_rfl) H33 ⟨?_, ?_, ?_, ?_, ?_, ?_, ?_, ?_, ?_, ?_, ?_, ?_, ?_, ?_, ?_, ?_, ?_, ?_, ?_, ?_, ?_, ?_, ?_, ?_, ?_, ?_, ?_, ?_, ?_, ?_, ?_, ?_, ?_, ?_, trivial⟩ ?_
                · intro η38 wd1142 Δ1143 hE1138 hR1139 hA1140 H1141
                  refine sp_op [(4, .int .i64 i13)] (ac rfl an) ?_
                  refine r_pure (.int .i64 i13) rfl ?_
                  exact r_nil (n_lp ⟨_, rfl, undef, rfl, H1141⟩)
                · intro η38 wd1148 Δ1149 hE1144 hR1145 hA1146 H1147
                  refine sp_op [(13, .int .i64 i13)] (ac (hE1144 0 (by decide)) an) ?_
                  refine r_pure (.bool (decide (i13 ≥ 20))) rfl ?_
                  exact r_nil (n_lp ⟨_, rfl, undef, rfl, H1147⟩)
                · intro η38 wd1154 Δ1155 hE1150 hR1151 hA1152 H1153
                  refine sp_op [(14, .bool (decide (i13 ≥ 20)))] (ac (hE1150 1 (by decide)) an) ?_
                  refine r_pure (.bool (decide (i13 ≥ 20))) rfl ?_
                  exact r_nil (n_lp ⟨_, rfl, undef, rfl, H1153⟩)
                · intro η38 wd1160 Δ1161 hE1156 hR1157 hA1158 H1159
                  refine sp_op [(5, .pointer (some ⟨b30, 0, none⟩)), (15, .bool (decide (i13 ≥ 20)))] (ac rfl (ac (hE1156 2 (by decide)) an)) ?_
                  refine r_fa FA43_0 ⟨b30, 0, none⟩ rfl rfl ?_ (wn_t rfl rfl (by decide) rfl hb39)
                  exact r_nil (n_lp ⟨_, rfl, undef, rfl, H1159⟩)
                · intro η38 wd1166 Δ1167 hE1162 hR1163 hA1164 H1165
                  have H1165 : Hp w0 ((Δ1167 ++ (Bx b30 43 [.int .i64 y18.Account, .int .i64 y18.Amount] :: Γ))) wd1166 := H1165
                  refine sp_op [(15, .bool (decide (i13 ≥ 20))), (16, .pointer (some ⟨b30, 0, none⟩))] (ac (hE1162 2 (by decide)) (ac (hE1162 3 (by decide)) an)) ?_
                  refine r_ld1 (.int .i64 y18.Account) LD3 rfl (((H1165).tl.g0).cell _ rfl) ?_ (wn_t rfl rfl (by decide) rfl hb39)
                  exact r_nil (n_lp ⟨_, rfl, undef, rfl, H1165⟩)
                · intro η38 wd1172 Δ1173 hE1168 hR1169 hA1170 H1171
                  have H1171 : Hp w0 ((Δ1173 ++ (Bx b30 43 [.int .i64 y18.Account, .int .i64 y18.Amount] :: Γ))) wd1172 := H1171
                  refine sp_op [(15, .bool (decide (i13 ≥ 20))), (17, .int .i64 y18.Account)] (ac (hE1168 2 (by decide)) (ac (hE1168 4 (by decide)) an)) ?_
                  refine r_callf Try.call38 (scutageref01_Account_ok y18.Account y248 H1171 hy249) ?_ (wn_t rfl rfl (by decide) rfl hb39)
                  rintro e1177 wd1176 ⟨rfl, H1179⟩
                  refine ⟨_, rfl, ?_⟩
                  exact r_nil (n_lp ⟨_, rfl, undef, rfl, H1179⟩)
                · intro η38 wd1184 Δ1185 hE1180 hR1181 hA1182 H1183
                  refine sp_op [(15, .bool (decide (i13 ≥ 20))), (18, .bool y248)] (ac (hE1180 2 (by decide)) (ac (hE1180 5 (by decide)) an)) ?_
                  refine r_pure (.bool (!y248)) rfl ?_ (wn_t rfl rfl (by decide) rfl hb39)
                  exact r_nil (n_lp ⟨_, rfl, undef, rfl, H1183⟩)
                · intro η38 wd1190 Δ1191 hE1186 hR1187 hA1188 H1189
                  refine sp_op [(15, .bool (decide (i13 ≥ 20))), (19, .bool (!y248))] (ac (hE1186 2 (by decide)) (ac (hE1186 6 (by decide)) an)) ?_
                  refine r_pick_f (.bool (!y248)) hb39 rfl rfl ?_
                  exact r_nil (n_lp ⟨_, rfl, undef, rfl, H1189⟩)
                · intro η38 wd1196 Δ1197 hE1192 hR1193 hA1194 H1195
                  refine sp_op [(20, .bool (!y248))] (ac (hE1192 7 (by decide)) an) ?_
                  refine r_pure (.bool (!y248)) rfl ?_
                  exact r_nil (n_lp ⟨_, rfl, undef, rfl, H1195⟩)
                · intro η38 wd1202 Δ1203 hE1198 hR1199 hA1200 H1201
                  refine sp_op [(5, .pointer (some ⟨b30, 0, none⟩)), (21, .bool (!y248))] (ac rfl (ac (hE1198 8 (by decide)) an)) ?_
                  refine r_fa FA43_1 ⟨b30, 1, none⟩ rfl rfl ?_ (wn_t rfl rfl (by decide) rfl hb254)
                  exact r_nil (n_lp ⟨_, rfl, undef, rfl, H1201⟩)
                · intro η38 wd1208 Δ1209 hE1204 hR1205 hA1206 H1207
                  have H1207 : Hp w0 ((Δ1209 ++ (Bx b30 43 [.int .i64 y18.Account, .int .i64 y18.Amount] :: Γ))) wd1208 := H1207
                  refine sp_op [(21, .bool (!y248)), (22, .pointer (some ⟨b30, 1, none⟩))] (ac (hE1204 8 (by decide)) (ac (hE1204 9 (by decide)) an)) ?_
                  refine r_ld1 (.int .i64 y18.Amount) LD3 rfl (((H1207).tl.g0).cell _ rfl) ?_ (wn_t rfl rfl (by decide) rfl hb254)
                  exact r_nil (n_lp ⟨_, rfl, undef, rfl, H1207⟩)
                · intro η38 wd1214 Δ1215 hE1210 hR1211 hA1212 H1213
                  refine sp_op [(21, .bool (!y248)), (23, .int .i64 y18.Amount)] (ac (hE1210 8 (by decide)) (ac (hE1210 10 (by decide)) an)) ?_
                  refine r_pure (.bool (y18.Amount == 0)) rfl ?_ (wn_t rfl rfl (by decide) rfl hb254)
                  exact r_nil (n_lp ⟨_, rfl, undef, rfl, H1213⟩)
                · intro η38 wd1220 Δ1221 hE1216 hR1217 hA1218 H1219
                  refine sp_op [(21, .bool (!y248)), (24, .bool (y18.Amount == 0))] (ac (hE1216 8 (by decide)) (ac (hE1216 11 (by decide)) an)) ?_
                  refine r_pick_f (.bool (y18.Amount == 0)) hb254 rfl rfl ?_
                  exact r_nil (n_lp ⟨_, rfl, undef, rfl, H1219⟩)
                · intro η38 wd1226 Δ1227 hE1222 hR1223 hA1224 H1225
                  refine sp_op [(25, .bool (y18.Amount == 0))] (ac (hE1222 12 (by decide)) an) ?_
                  refine r_pure (.bool (y18.Amount == 0)) rfl ?_
                  exact r_nil (n_lp ⟨_, rfl, undef, rfl, H1225⟩)
                · intro η38 wd1232 Δ1233 hE1228 hR1229 hA1230 H1231
                  refine sp_op [(5, .pointer (some ⟨b30, 0, none⟩)), (26, .bool (y18.Amount == 0))] (ac rfl (ac (hE1228 13 (by decide)) an)) ?_
                  refine r_fa FA43_1 ⟨b30, 1, none⟩ rfl rfl ?_ (wn_t rfl rfl (by decide) rfl hb469)
                  exact r_nil (n_lp ⟨_, rfl, undef, rfl, H1231⟩)
                · intro η38 wd1238 Δ1239 hE1234 hR1235 hA1236 H1237
                  have H1237 : Hp w0 ((Δ1239 ++ (Bx b30 43 [.int .i64 y18.Account, .int .i64 y18.Amount] :: Γ))) wd1238 := H1237
                  refine sp_op [(26, .bool (y18.Amount == 0)), (27, .pointer (some ⟨b30, 1, none⟩))] (ac (hE1234 13 (by decide)) (ac (hE1234 14 (by decide)) an)) ?_
                  refine r_ld1 (.int .i64 y18.Amount) LD3 rfl (((H1237).tl.g0).cell _ rfl) ?_ (wn_t rfl rfl (by decide) rfl hb469)
                  exact r_nil (n_lp ⟨_, rfl, undef, rfl, H1237⟩)
                · intro η38 wd1244 Δ1245 hE1240 hR1241 hA1242 H1243
                  have H1243 : Hp w0 ((Δ1245 ++ (Bx b30 43 [.int .i64 y18.Account, .int .i64 y18.Amount] :: Γ))) wd1244 := H1243
                  refine sp_op [(26, .bool (y18.Amount == 0)), (28, .int .i64 y18.Amount)] (ac (hE1240 13 (by decide)) (ac (hE1240 15 (by decide)) an)) ?_
                  refine r_callf Try.call30 (scutageref01_Money_ok y18.Amount y684 H1243 hy685) ?_ (wn_t rfl rfl (by decide) rfl hb469)
                  rintro e1249 wd1248 ⟨rfl, H1251⟩
                  refine ⟨_, rfl, ?_⟩
                  exact r_nil (n_lp ⟨_, rfl, undef, rfl, H1251⟩)
                · intro η38 wd1256 Δ1257 hE1252 hR1253 hA1254 H1255
                  refine sp_op [(26, .bool (y18.Amount == 0)), (29, .bool y684)] (ac (hE1252 13 (by decide)) (ac (hE1252 16 (by decide)) an)) ?_
                  refine r_pure (.bool (!y684)) rfl ?_ (wn_t rfl rfl (by decide) rfl hb469)
                  exact r_nil (n_lp ⟨_, rfl, undef, rfl, H1255⟩)
                · intro η38 wd1262 Δ1263 hE1258 hR1259 hA1260 H1261
                  refine sp_op [(26, .bool (y18.Amount == 0)), (30, .bool (!y684))] (ac (hE1258 13 (by decide)) (ac (hE1258 17 (by decide)) an)) ?_
                  refine r_pick_f (.bool (!y684)) hb469 rfl rfl ?_
                  exact r_nil (n_lp ⟨_, rfl, undef, rfl, H1261⟩)
                · intro η38 wd1268 Δ1269 hE1264 hR1265 hA1266 H1267
                  refine sp_op [(31, .bool (!y684))] (ac (hE1264 18 (by decide)) an) ?_
                  refine r_pure (.bool (!y684)) rfl ?_
                  exact r_nil (n_lp ⟨_, rfl, undef, rfl, H1267⟩)
                · intro η38 wd1274 Δ1275 hE1270 hR1271 hA1272 H1273
                  refine sp_op [(4, .int .i64 i13), (32, .bool (!y684))] (ac rfl (ac (hE1270 19 (by decide)) an)) ?_
                  refine r_pure (.int .i64 i13) rfl ?_ (wn_t rfl rfl (by decide) rfl hb690)
                  exact r_nil (n_lp ⟨_, rfl, undef, rfl, H1273⟩)
                · intro η38 wd1280 Δ1281 hE1276 hR1277 hA1278 H1279
                  refine sp_op [(32, .bool (!y684)), (33, .int .i64 i13)] (ac (hE1276 19 (by decide)) (ac (hE1276 20 (by decide)) an)) ?_
                  refine r_pure (.bool (decide (i13 > 0))) rfl ?_ (wn_t rfl rfl (by decide) rfl hb690)
                  exact r_nil (n_lp ⟨_, rfl, undef, rfl, H1279⟩)
                · intro η38 wd1286 Δ1287 hE1282 hR1283 hA1284 H1285
                  refine sp_op [(32, .bool (!y684)), (34, .bool (decide (i13 > 0)))] (ac (hE1282 19 (by decide)) (ac (hE1282 21 (by decide)) an)) ?_
                  refine r_pure (.bool (decide (i13 > 0))) rfl ?_ (wn_t rfl rfl (by decide) rfl hb690)
                  exact r_nil (n_lp ⟨_, rfl, undef, rfl, H1285⟩)
                · intro η38 wd1292 Δ1293 hE1288 hR1289 hA1290 H1291
                  refine sp_op [(35, .bool (decide (i13 > 0)))] (ac (hE1288 22 (by decide)) an) ?_
                  refine r_not (wn_f rfl rfl (by decide) rfl hb911) ?_
                  exact r_nil (n_lp ⟨_, rfl, undef, rfl, H1291⟩)
                · intro η38 wd1298 Δ1299 hE1294 hR1295 hA1296 H1297
                  refine sp_op [(35, .bool (decide (i13 > 0)))] (ac (hE1294 22 (by decide)) an) ?_
                  refine r_not (wn_f rfl rfl (by decide) rfl hb911) ?_
                  exact r_nil (n_lp ⟨_, rfl, undef, rfl, H1297⟩)
                · intro η38 wd1304 Δ1305 hE1300 hR1301 hA1302 H1303
                  refine sp_op [(35, .bool (decide (i13 > 0)))] (ac (hE1300 22 (by decide)) an) ?_
                  refine r_not (wn_f rfl rfl (by decide) rfl hb911) ?_
                  exact r_nil (n_lp ⟨_, rfl, undef, rfl, H1303⟩)
                · intro η38 wd1310 Δ1311 hE1306 hR1307 hA1308 H1309
                  refine sp_op [(35, .bool (decide (i13 > 0)))] (ac (hE1306 22 (by decide)) an) ?_
                  refine r_not (wn_f rfl rfl (by decide) rfl hb911) ?_
                  exact r_nil (n_lp ⟨_, rfl, undef, rfl, H1309⟩)
                · intro η38 wd1316 Δ1317 hE1312 hR1313 hA1314 H1315
                  refine sp_op [(35, .bool (decide (i13 > 0)))] (ac (hE1312 22 (by decide)) an) ?_
                  refine r_not (wn_f rfl rfl (by decide) rfl hb911) ?_
                  exact r_nil (n_lp ⟨_, rfl, undef, rfl, H1315⟩)
                · intro η38 wd1322 Δ1323 hE1318 hR1319 hA1320 H1321
                  refine sp_op [(35, .bool (decide (i13 > 0)))] (ac (hE1318 22 (by decide)) an) ?_
                  refine r_not (wn_f rfl rfl (by decide) rfl hb911) ?_
                  exact r_nil (n_lp ⟨_, rfl, undef, rfl, H1321⟩)
                · intro η38 wd1328 Δ1329 hE1324 hR1325 hA1326 H1327
                  refine sp_op [(35, .bool (decide (i13 > 0)))] (ac (hE1324 22 (by decide)) an) ?_
                  refine r_not (wn_f rfl rfl (by decide) rfl hb911) ?_
                  exact r_nil (n_lp ⟨_, rfl, undef, rfl, H1327⟩)
                · intro η38 wd1334 Δ1335 hE1330 hR1331 hA1332 H1333
                  refine sp_op [(35, .bool (decide (i13 > 0)))] (ac (hE1330 22 (by decide)) an) ?_
                  refine r_not (wn_f rfl rfl (by decide) rfl hb911) ?_
                  exact r_nil (n_lp ⟨_, rfl, undef, rfl, H1333⟩)
                · intro η38 wd1340 Δ1341 hE1336 hR1337 hA1338 H1339
                  refine sp_op [(35, .bool (decide (i13 > 0)))] (ac (hE1336 22 (by decide)) an) ?_
                  refine r_not (wn_f rfl rfl (by decide) rfl hb911) ?_
                  exact r_nil (n_lp ⟨_, rfl, undef, rfl, H1339⟩)
                · intro η38 wd1346 Δ1347 hE1342 hR1343 hA1344 H1345
                  refine sp_op [(32, .bool (!y684)), (35, .bool (decide (i13 > 0))), (44, undef)] (ac (hE1342 19 (by decide)) (ac (hE1342 22 (by decide)) (ac (hE1342 31 (by decide)) an))) ?_
                  refine r_pick_f (.bool false) hb911 rfl rfl ?_ (wn_t rfl rfl (by decide) rfl hb690)
                  exact r_nil (n_lp ⟨_, rfl, undef, rfl, H1345⟩)
                · intro η38 wd1352 Δ1353 hE1348 hR1349 hA1350 H1351
                  refine sp_op [(32, .bool (!y684)), (45, .bool false)] (ac (hE1348 19 (by decide)) (ac (hE1348 32 (by decide)) an)) ?_
                  refine r_pick_f (.bool false) hb690 rfl rfl ?_
                  exact r_nil (n_lp ⟨_, rfl, undef, rfl, H1351⟩)
                · intro η38 wd1355 hV1356 H1354
                  have H1357 : Hp w0 (Bx b30 43 [.int .i64 y18.Account, .int .i64 y18.Amount] :: Γ) wd1355 := H1354
                  refine n_frame ((0, .slice A1 lines.length c2) :: (3, .int .i64 v8) :: (5, .pointer (some ⟨b30, 0, none⟩)) :: (6, .slice A1 lines.length c2) :: (7, .int .i64 (lines.length : Int)) :: (8, .int .i64 i13) :: (16, .pointer (some ⟨b30, 0, none⟩)) :: (17, .int .i64 y18.Account) :: (18, .bool y248) :: (19, .bool (!y248)) :: (22, .pointer (some ⟨b30, 1, none⟩)) :: (23, .int .i64 y18.Amount) :: (24, .bool (y18.Amount == 0)) :: (27, .pointer (some ⟨b30, 1, none⟩)) :: (28, .int .i64 y18.Amount) :: (29, .bool y684) :: (30, .bool (!y684)) :: (33, .int .i64 i13) :: (34, .bool (decide (i13 > 0))) :: (35, .bool (decide (i13 > 0))) :: (45, .bool false) :: (46, .bool false) :: []) (ac rfl (ac rfl (ac rfl (ac rfl (ac rfl (ac rfl (ac (hV1356 3 rfl) (ac (hV1356 4 rfl) (ac (hV1356 5 rfl) (ac (hV1356 6 rfl) (ac (hV1356 9 rfl) (ac (hV1356 10 rfl) (ac (hV1356 11 rfl) (ac (hV1356 14 rfl) (ac (hV1356 15 rfl) (ac (hV1356 16 rfl) (ac (hV1356 17 rfl) (ac (hV1356 20 rfl) (ac (hV1356 21 rfl) (ac (hV1356 22 rfl) (ac (hV1356 32 rfl) (ac (hV1356 33 rfl) an)))))))))))))))))))))) ?_
                  refine n_cut ⟨false, upk (ac rfl (ac rfl (ac rfl (ac rfl (ac rfl (ac rfl (ac rfl an))))))), H1357, hm⟩
    · rintro ρ w ⟨q35, ⟨base, rfl⟩, H36, hm⟩
      unfold scutageref01_Check.j1 at hm
      rcases ite_some hm with ⟨hb37, hm⟩ | ⟨hb37, hm⟩
      · refine st_condt hb37 rfl ?_
        refine st_seq ?_
        refine st_region ?_
        refine r_pure (.bool false) rfl ?_
        refine r_seq ?_
        have hq_ := Option.some.inj hm
        subst hq_
        have hq_ := Option.some.inj (show some (false : Bool) = some r0_ from hm10)
        subst hq_
        refine st_ret1 rfl rfl (Nat.le_of_ble_eq_true rfl) rfl ?_
        exact ⟨rfl, H36.d⟩
      · refine st_condf hb37 rfl ?_
        refine st_skip ?_
        refine n_sq ?_
        refine st_region ?_
        refine r_pure (.int .i64 v8) rfl ?_
        refine r_fa FA43_1 ⟨b30, 1, none⟩ rfl rfl ?_
        refine r_ld1 (.int .i64 y18.Amount) LD3 rfl ((H36.g0).cell _ rfl) ?_
        refine r_pure (.int .i64 (w64 (v8 + y18.Amount))) rfl ?_
        refine r_pure (.int .i64 (w64 (v8 + y18.Amount))) rfl ?_
        refine r_nil ?_
        refine n_bl ?_
        refine n_sq ?_
        refine st_region ?_
        refine r_pure (.int .i64 (w64 (i13 + 1))) rfl ?_
        refine r_pure (.int .i64 (w64 (i13 + 1))) rfl ?_
        refine r_nil ?_
        refine n_round (IH21 _ _ rfl _ _ _ ⟨i13 + 1, w64 (v8 + y18.Amount), dn14 ++ [y18], rfl, range_more hxs15, range_len hi16, upk (ac rfl (ac rfl (ac rfl (ac rfl (ac hnx27 an))))), H36.d⟩ hm)

set_option maxHeartbeats 2000000 in
theorem scutageref01_Same_ok {w0 w : World} {Γ : List (World → Prop)} (a_ : List api_Line) (A1 : Option Addr) (n6 c2 : Nat) (hn5 : n6 = a_.length) (hc3 : a_.length ≤ c2) (hv4 : ∀ u, Hp w0 Γ u → SlR K43 A1 a_ u) (b_ : List api_Line) (A7 : Option Addr) (n12 c8 : Nat) (hn11 : n12 = b_.length) (hc9 : b_.length ≤ c8) (hv10 : ∀ u, Hp w0 Γ u → SlR K43 A7 b_ u) (r0_ : Bool) (H : Hp w0 (Γ) w) (hm : scutageref01_Same a_ b_ = some r0_) : Calls Try.prog 27 #[.slice A1 n6 c2, .slice A7 n12 c8] w (fun e w => e = .returned (.bool r0_) ∧ Hp w0 (Γ) w) := by
  subst hn5
  subst hn11
  unfold scutageref01_Same at hm
  refine st_enter Try.func27 rfl Try.ntmps27 (Nat.le_of_ble_eq_true rfl) ?_
  refine st_seq ?_
  refine st_region ?_
  refine r_pure (.bool false) rfl ?_
  refine r_seq ?_
  refine st_seq ?_
  refine st_seq ?_
  refine st_region ?_
  refine r_pure (.slice A1 a_.length c2) rfl ?_
  refine r_len Try.underlying34 rfl ?_
  refine r_pure (.slice A7 b_.length c8) rfl ?_
  refine r_len Try.underlying34 rfl ?_
  refine r_pure (.bool ((a_.length : Int) != (b_.length : Int))) rfl ?_
  refine r_seq ?_
  rcases ite_some hm with ⟨hb13, hm⟩ | ⟨hb13, hm⟩
  · refine st_condt hb13 rfl ?_
    refine st_seq ?_
    refine st_region ?_
    refine r_pure (.bool false) rfl ?_
    refine r_seq ?_
    have hq_ := Option.some.inj hm
    subst hq_
    refine st_ret1 rfl rfl (Nat.le_of_ble_eq_true rfl) rfl ?_
    exact ⟨rfl, H⟩
  · refine st_condf hb13 rfl ?_
    refine st_skip ?_
    refine n_sq ?_
    refine st_seq ?_
    refine st_seq ?_
    refine st_region ?_
    refine r_pure (.slice A1 a_.length c2) rfl ?_
    refine r_len Try.underlying34 rfl ?_
    refine r_pure (.int .i64 0) rfl ?_
    refine r_seq ?_
    refine st_block ?_
    have hlim33 := (hv4 _ H).lim
    obtain ⟨tl16, hl17, hm15⟩ := bind_some hm
    refine st_loopL (scutageref01_Same.l1 b_) (fun ys22 s ρ w => ∃ i18 : Int, ∃ dn19 : List api_Line, i18 = s ∧ a_ = dn19 ++ ys22 ∧ i18 = (dn19.length : Int) ∧ (∃ base, ρ = updl base [(0, .slice A1 a_.length c2), (1, .slice A7 b_.length c8), (12, .int .i64 (a_.length : Int)), (13, .int .i64 i18)]) ∧ Hp w0 (Γ) w) hl17 ⟨0, [], rfl, rfl, rfl, upk (ac rfl (ac rfl (ac rfl (ac rfl an)))), H⟩ ?_
    rintro m ys22 IH26 s ρ w ⟨i18, dn19, rfl, hxs20, hi21, ⟨base, rfl⟩, H14⟩ hm
    rcases ys22 with _ | ⟨y23, ys22⟩
    · rw [scutageref01_Same.l1] at hm
      have hb27 := range_end hxs20 hi21
      refine st_seq ?_
      refine st_region ?_
      refine r_pure (.bool (decide (i18 < (a_.length : Int)))) rfl ?_
      refine r_seq ?_
      refine st_seq ?_
      refine st_condf hb27 rfl ?_
      have hq_ := Option.some.inj hm
      refine st_exit rfl ?_
      subst hq_
      refine n_sq ?_
      refine st_seq ?_
      refine st_region ?_
      refine r_pure (.bool true) rfl ?_
      refine r_seq ?_
      have hq_ := Option.some.inj hm15
      subst hq_
      refine st_ret1 rfl rfl (Nat.le_of_ble_eq_true rfl) rfl ?_
      exact ⟨rfl, H14⟩
    · rw [scutageref01_Same.l1] at hm
      have hb28 := range_in hxs20 hi21
      obtain ⟨h029, h130, hj31⟩ := range_ix hxs20 hi21
      have hnx32 := range_next hxs20 hi21 hlim33
      refine st_seq ?_
      refine st_region ?_
      refine r_pure (.bool (decide (i18 < (a_.length : Int)))) rfl ?_
      refine r_seq ?_
      refine st_seq ?_
      refine st_condt hb28 rfl ?_
      refine st_skip ?_
      refine n_sq ?_
      refine st_seq ?_
      refine st_block ?_
      refine st_seq ?_
      refine st_region ?_
      refine r_pure (.int .i64 i18) rfl ?_
      refine r_pure (.int .i64 i18) rfl ?_
      refine r_seq ?_
      refine st_seq ?_
      obtain ⟨⟨h036, h137⟩, hm⟩ := gd_some hm
      have hj38 := rd_get h036 h137
      refine Flow.run' RA27_6 RW27_6 [(fun η34 v => v.1 = .slice A1 a_.length c2), (fun η34 v => v.1 = .int .i64 i18), (fun η34 v => v.1 = .pointer (some ((oA A1).add (Int.toNat i18 * 2)))), (fun η34 v => v.1 = .agg #[.int .i64 y23.Account, .int .i64 y23.Amount]), (fun η34 v => v.1 = .slice A7 b_.length c8), (fun η34 v => v.1 = .int .i64 i18), (fun η34 v => v.1 = .pointer (some ((oA A7).add (Int.toNat i18 * 2)))), (fun η34 v => v.1 = .agg #[.int .i64 ((rd b_ i18).Account), .int .i64 ((rd b_ i18).Amount)]), (fun η34 v => v.1 = .bool (!(y23.Account == ((rd b_ i18).Account) && (y23.Amount == ((rd b_ i18).Amount)))))] [] rfl (by kernel_rfl) (by kernel_rfl) H14 ⟨?_, ?_, ?_, ?_, ?_, ?_, ?_, ?_, ?_, trivial⟩ ?_
      · intro η34 wd44 Δ45 hE40 hR41 hA42 H43
        refine sp_op [(0, .slice A1 a_.length c2)] (ac rfl an) ?_
        refine r_pure (.slice A1 a_.length c2) rfl ?_
        exact r_nil (n_lp ⟨_, rfl, undef, rfl, H43⟩)
      · intro η34 wd50 Δ51 hE46 hR47 hA48 H49
        refine sp_op [(5, .int .i64 i18)] (ac rfl an) ?_
        refine r_pure (.int .i64 i18) rfl ?_
        exact r_nil (n_lp ⟨_, rfl, undef, rfl, H49⟩)
      · intro η34 wd56 Δ57 hE52 hR53 hA54 H55
        have H55 : Hp w0 ((Δ57 ++ Γ)) wd56 := H55
        refine sp_op [(16, .slice A1 a_.length c2), (17, .int .i64 i18)] (ac (hE52 0 (by decide)) (ac (hE52 1 (by decide)) an)) ?_
        have hA58 := (hv4 _ (H55).tl).adO hj31
        refine r_ix IX34 rfl rfl hA58 h029 h130 ?_
        exact r_nil (n_lp ⟨_, rfl, undef, rfl, H55⟩)
      · intro η34 wd63 Δ64 hE59 hR60 hA61 H62
        have H62 : Hp w0 ((Δ64 ++ Γ)) wd63 := H62
        refine sp_op [(18, .pointer (some ((oA A1).add (Int.toNat i18 * 2))))] (ac (hE59 2 (by decide)) an) ?_
        have hA65 := (hv4 _ (H62).tl).adO hj31
        refine r_ldA [.int .i64 y23.Account, .int .i64 y23.Amount] LD43 rfl rfl ((hv4 _ (H62).tl).csA hA65 hj31) ?_
        exact r_nil (n_lp ⟨_, rfl, undef, rfl, H62⟩)
      · intro η34 wd70 Δ71 hE66 hR67 hA68 H69
        refine sp_op [(1, .slice A7 b_.length c8)] (ac rfl an) ?_
        refine r_pure (.slice A7 b_.length c8) rfl ?_
        exact r_nil (n_lp ⟨_, rfl, undef, rfl, H69⟩)
      · intro η34 wd76 Δ77 hE72 hR73 hA74 H75
        refine sp_op [(5, .int .i64 i18)] (ac rfl an) ?_
        refine r_pure (.int .i64 i18) rfl ?_
        exact r_nil (n_lp ⟨_, rfl, undef, rfl, H75⟩)
      · intro η34 wd82 Δ83 hE78 hR79 hA80 H81
        have H81 : Hp w0 ((Δ83 ++ Γ)) wd82 := H81
        refine sp_op [(20, .slice A7 b_.length c8), (21, .int .i64 i18)] (ac (hE78 4 (by decide)) (ac (hE78 5 (by decide)) an)) ?_
        have hA87 := (hv10 _ (H81).tl).adO hj38
        refine r_ix IX34 rfl rfl hA87 h036 h137 ?_
        exact r_nil (n_lp ⟨_, rfl, undef, rfl, H81⟩)
      · intro η34 wd92 Δ93 hE88 hR89 hA90 H91
        have H91 : Hp w0 ((Δ93 ++ Γ)) wd92 := H91
        refine sp_op [(22, .pointer (some ((oA A7).add (Int.toNat i18 * 2))))] (ac (hE88 6 (by decide)) an) ?_
        have hA94 := (hv10 _ (H91).tl).adO hj38
        refine r_ldA [.int .i64 ((rd b_ i18).Account), .int .i64 ((rd b_ i18).Amount)] LD43 rfl rfl ((hv10 _ (H91).tl).csA hA94 hj38) ?_
        exact r_nil (n_lp ⟨_, rfl, undef, rfl, H91⟩)
      · intro η34 wd99 Δ100 hE95 hR96 hA97 H98
        refine sp_op [(19, .agg #[.int .i64 y23.Account, .int .i64 y23.Amount]), (23, .agg #[.int .i64 ((rd b_ i18).Account), .int .i64 ((rd b_ i18).Amount)])] (ac (hE95 3 (by decide)) (ac (hE95 7 (by decide)) an)) ?_
        refine r_neS (EQ43 y23.Account ((rd b_ i18).Account) y23.Amount ((rd b_ i18).Amount)) (by decide) Try.eqGuardType43 rfl rfl ?_
        exact r_nil (n_lp ⟨_, rfl, undef, rfl, H98⟩)
      · intro η34 wd102 hV103 H101
        have H104 : Hp w0 (Γ) wd102 := H101
        refine n_frame [(0, .slice A1 a_.length c2), (1, .slice A7 b_.length c8), (12, .int .i64 (a_.length : Int)), (13, .int .i64 i18), (24, .bool (!(y23.Account == ((rd b_ i18).Account) && (y23.Amount == ((rd b_ i18).Amount)))))] (ac rfl (ac rfl (ac rfl (ac rfl (ac (hV103 8 rfl) an))))) ?_
        refine n_sq ?_
        rcases ite_some hm with ⟨hb105, hm⟩ | ⟨hb105, hm⟩
        · refine st_condt hb105 rfl ?_
          refine st_seq ?_
          refine st_region ?_
          refine r_pure (.bool false) rfl ?_
          refine r_seq ?_
          have hq_ := Option.some.inj hm
          subst hq_
          have hq_ := Option.some.inj (show some (false : Bool) = some r0_ from hm15)
          subst hq_
          refine st_ret1 rfl rfl (Nat.le_of_ble_eq_true rfl) rfl ?_
          exact ⟨rfl, H104⟩
        · refine st_condf hb105 rfl ?_
          refine st_skip ?_
          refine n_bl ?_
          refine n_sq ?_
          refine st_region ?_
          refine r_pure (.int .i64 (w64 (i18 + 1))) rfl ?_
          refine r_pure (.int .i64 (w64 (i18 + 1))) rfl ?_
          refine r_nil ?_
          refine n_round (IH26 _ _ rfl _ _ _ ⟨i18 + 1, dn19 ++ [y23], rfl, range_more hxs20, range_len hi21, upk (ac rfl (ac rfl (ac rfl (ac hnx32 an)))), H104⟩ hm)

set_option maxHeartbeats 2000000 in
theorem scutageref01_Store_all_ok {w0 w : World} {Γ : List (World → Prop)} (b1 : Nat) (s_ : scutageref01_Store) (A2 : Option Addr) (n7 c3 : Nat) (hn6 : n7 = s_.f_J.length) (hc4 : s_.f_J.length ≤ c3) (ads8 : Nat → Option Addr × Nat) (hv5 : ∀ u, Hp w0 Γ u → SlRN (fun j => KN37 (ads8 j)) 6 A2 s_.f_J u) (hin9 : ∀ j x, s_.f_J[j]? = some x → x.Lines.length ≤ (ads8 j).2 ∧ ∀ u, Hp w0 Γ u → SlR K43 (ads8 j).1 x.Lines u) (hv10 : ∀ u, Hp w0 Γ u → Bx b1 28 [.slice A2 n7 c3] u) (entity : ByteArray) (upto : Int) (r0_ : List api_Line) (H : Hp w0 (Γ) w) (hm : scutageref01_Store_all s_ entity upto = some r0_) : Calls Try.prog 29 #[.pointer (some ⟨b1, 0, none⟩), .string entity, .int .i64 upto] w (fun e w => ∃ (Ax1 : Option Addr) (nx2 cx3 : Nat), e = .returned (.slice Ax1 nx2 cx3) ∧ Hp w0 (Row K43 (.slice Ax1 nx2 cx3) r0_ :: Γ) w) := by
  subst hn6
  unfold scutageref01_Store_all at hm
  refine st_enter Try.func29 rfl Try.ntmps29 (Nat.le_of_ble_eq_true rfl) ?_
  refine st_seq ?_
  refine st_region ?_
  refine r_pure (.slice none 0 0) rfl ?_
  refine r_seq ?_
  refine st_seq ?_
  refine st_region ?_
  refine r_pure (.slice none 0 0) rfl ?_
  refine r_seq ?_
  refine st_seq ?_
  refine st_seq ?_
  refine st_region ?_
  refine r_pure (.pointer (some ⟨b1, 0, none⟩)) rfl ?_
  refine r_pure (.pointer (some ⟨b1, 0, none⟩)) rfl ?_
  refine r_fa FA28_0 ⟨b1, 0, none⟩ rfl rfl ?_
  refine r_ld1 (.slice A2 s_.f_J.length c3) LD26 rfl ((hv10 _ H).cell _ rfl) ?_
  refine r_len Try.underlying26 rfl ?_
  refine r_pure (.int .i64 0) rfl ?_
  refine r_seq ?_
  refine st_block ?_
  have H16 := H.add (A := Row K43 (.slice none 0 0) []) Row.nil
  have hlim40 := (hv5 _ H16.d).lim
  obtain ⟨tl23, hl24, hm22⟩ := bind_some hm
  refine st_loopL (scutageref01_Store_all.l1 entity upto) (fun ys29 s ρ w => ∃ i25 : Int, ∃ xs20 : List api_Line, ∃ dn26 : List api_Journal, ∃ A17 : Option Addr, ∃ n18 : Nat, ∃ c19 : Nat, (i25, xs20) = s ∧ s_.f_J = dn26 ++ ys29 ∧ i25 = (dn26.length : Int) ∧ (∃ base, ρ = updl base [(1, .string entity), (2, .int .i64 upto), (7, .slice A17 n18 c19), (13, .slice A2 s_.f_J.length c3), (14, .int .i64 (s_.f_J.length : Int)), (15, .int .i64 i25)]) ∧ Hp w0 (Row K43 (.slice A17 n18 c19) xs20 :: Γ) w) hl24 ⟨0, ([] : List api_Line), [], none, 0, 0, rfl, rfl, rfl, upk (ac rfl (ac rfl (ac rfl (ac rfl (ac rfl (ac rfl an)))))), H16⟩ ?_
  rintro m ys29 IH33 s ρ w ⟨i25, xs20, dn26, A17, n18, c19, rfl, hxs27, hi28, ⟨base, rfl⟩, H21⟩ hm
  obtain rfl := (H21.g0).leneq
  rcases ys29 with _ | ⟨y30, ys29⟩
  · rw [scutageref01_Store_all.l1] at hm
    have hb34 := range_end hxs27 hi28
    refine st_seq ?_
    refine st_region ?_
    refine r_pure (.bool (decide (i25 < (s_.f_J.length : Int)))) rfl ?_
    refine r_seq ?_
    refine st_seq ?_
    refine st_condf hb34 rfl ?_
    have hq_ := Option.some.inj hm
    refine st_exit rfl ?_
    subst hq_
    refine n_sq ?_
    refine st_seq ?_
    refine st_region ?_
    refine r_pure (.slice A17 xs20.length c19) rfl ?_
    refine r_pure (.slice A17 xs20.length c19) rfl ?_
    refine r_seq ?_
    have hq_ := Option.some.inj hm22
    subst hq_
    refine st_ret1 rfl rfl (Nat.le_of_ble_eq_true rfl) rfl ?_
    exact ⟨A17, xs20.length, c19, rfl, H21⟩
  · rw [scutageref01_Store_all.l1] at hm
    have hb35 := range_in hxs27 hi28
    obtain ⟨h036, h137, hj38⟩ := range_ix hxs27 hi28
    have hnx39 := range_next hxs27 hi28 hlim40
    refine st_seq ?_
    refine st_region ?_
    refine r_pure (.bool (decide (i25 < (s_.f_J.length : Int)))) rfl ?_
    refine r_seq ?_
    refine st_seq ?_
    refine st_condt hb35 rfl ?_
    refine st_skip ?_
    refine n_sq ?_
    refine st_cut (fun ρ w => ∃ A41 : Option Addr, ∃ n42 : Nat, ∃ c43 : Nat, ∃ xs44 : List api_Line, (∃ base, ρ = updl base [(1, .string entity), (2, .int .i64 upto), (7, .slice A41 n42 c43), (13, .slice A2 s_.f_J.length c3), (14, .int .i64 (s_.f_J.length : Int)), (15, .int .i64 i25)]) ∧ Hp w0 (Row K43 (.slice A41 n42 c43) xs44 :: Γ) w ∧ scutageref01_Store_all.j1 (scutageref01_Store_all.l1 entity upto ys29) i25 xs44 = some tl23) ?_ ?_
    · refine st_block ?_
      refine st_seq ?_
      refine st_region ?_
      have hA46 := (hv5 _ H21.d).adO hj38
      refine r_ix IX26 rfl rfl hA46 h036 h137 ?_
      refine r_ldA [.int .i64 y30.Seq, .string y30.Entity, .int .i64 y30.Period, .int .i64 y30.Kind, .int .i64 y30.Of, .slice ((ads8 (Int.toNat i25)).1) y30.Lines.length ((ads8 (Int.toNat i25)).2)] LD37 rfl rfl ((hv5 _ H21.d).csA hA46 hj38) ?_
      refine r_alloc [.int .i64 0, .string ⟨#[]⟩, .int .i64 0, .int .i64 0, .int .i64 0, .slice none 0 0] Try.zeroValue37 H21 rfl ?_
      intro b47 wd49 H48
      refine r_stA [.int .i64 y30.Seq, .string y30.Entity, .int .i64 y30.Period, .int .i64 y30.Kind, .int .i64 y30.Of, .slice ((ads8 (Int.toNat i25)).1) y30.Lines.length ((ads8 (Int.toNat i25)).2)] LD37 rfl rfl rfl rfl H48 (Nat.le_of_ble_eq_true rfl) rfl ?_
      intro wd51 H50
      refine r_seq ?_
      refine st_cut (fun ρ w => ∃ q52 : Bool, (∃ base, ρ = updl base [(1, .string entity), (2, .int .i64 upto), (7, .slice A17 xs20.length c19), (9, .pointer (some ⟨b47, 0, none⟩)), (13, .slice A2 s_.f_J.length c3), (14, .int .i64 (s_.f_J.length : Int)), (15, .int .i64 i25), (28, .bool q52)]) ∧ Hp w0 (Row K43 (.slice A17 xs20.length c19) xs20 :: Bx b47 37 [.int .i64 y30.Seq, .string y30.Entity, .int .i64 y30.Period, .int .i64 y30.Kind, .int .i64 y30.Of, .slice ((ads8 (Int.toNat i25)).1) y30.Lines.length ((ads8 (Int.toNat i25)).2)] :: Γ) w ∧ scutageref01_Store_all.j2 xs20 y30 (scutageref01_Store_all.l1 entity upto ys29) i25 q52 = some tl23) ?_ ?_
      · refine st_region ?_
        refine r_fa FA37_1 ⟨b47, 1, none⟩ rfl rfl ?_
        refine r_ld1 (.string y30.Entity) LD9 rfl ((H50.g0).cell _ rfl) ?_
        refine r_pure (.string entity) rfl ?_
        refine r_pure (.bool ((y30.Entity).toList == (entity).toList)) rfl ?_
        refine r_pure (.bool ((y30.Entity).toList == (entity).toList)) rfl ?_
        rcases ite_some hm with ⟨hb60, hm⟩ | ⟨hb60, hm⟩
        · refine r_fa FA37_2 ⟨b47, 2, none⟩ rfl rfl ?_ (wn_t rfl rfl (by decide) rfl hb60)
          refine r_ld1 (.int .i64 y30.Period) LD3 rfl ((H50.g0).cell _ rfl) ?_ (wn_t rfl rfl (by decide) rfl hb60)
          refine r_pure (.int .i64 upto) rfl ?_ (wn_t rfl rfl (by decide) rfl hb60)
          refine r_pure (.bool (decide (y30.Period ≤ upto))) rfl ?_ (wn_t rfl rfl (by decide) rfl hb60)
          refine r_pick_t (.bool (decide (y30.Period ≤ upto))) hb60 rfl rfl ?_
          refine r_nil ?_
          refine n_cut ⟨decide (y30.Period ≤ upto), upk (ac rfl (ac rfl (ac rfl (ac rfl (ac rfl (ac rfl (ac rfl (ac rfl an)))))))), H50.u1, hm⟩
        · refine r_not (wn_f rfl rfl (by decide) rfl hb60) ?_
          refine r_not (wn_f rfl rfl (by decide) rfl hb60) ?_
          refine r_not (wn_f rfl rfl (by decide) rfl hb60) ?_
          refine r_not (wn_f rfl rfl (by decide) rfl hb60) ?_
          refine r_pick_f (.bool false) hb60 rfl rfl ?_
          refine r_nil ?_
          refine n_cut ⟨false, upk (ac rfl (ac rfl (ac rfl (ac rfl (ac rfl (ac rfl (ac rfl (ac rfl an)))))))), H50.u1, hm⟩
      · rintro ρ w ⟨q52, ⟨base, rfl⟩, H53, hm⟩
        unfold scutageref01_Store_all.j2 at hm
        rcases ite_some hm with ⟨hb54, hm⟩ | ⟨hb54, hm⟩
        · refine st_condt hb54 rfl ?_
          refine st_region ?_
          refine r_pure (.slice A17 xs20.length c19) rfl ?_
          refine r_fa FA37_5 ⟨b47, 5, none⟩ rfl rfl ?_
          refine r_ld1 (.slice ((ads8 (Int.toNat i25)).1) y30.Lines.length ((ads8 (Int.toNat i25)).2)) LD34 rfl ((H53.g1).cell _ rfl) ?_
          obtain ⟨hf55, hm⟩ := gd_some hm
          refine r_append (K := K43) (ys := y30.Lines) AP34 rfl rfl rfl rfl H53 (((hin9 _ _ hj38).2 _ H53.d.d).src) (fit_le hf55 (by decide)) ?_
          intro A56 c57 wd58 H59
          refine r_pure (.slice A56 ((xs20 ++ y30.Lines).length) c57) rfl ?_
          refine r_nil ?_
          refine n_bl ?_
          refine n_cut ⟨A56, (xs20 ++ y30.Lines).length, c57, xs20 ++ y30.Lines, upk (ac rfl (ac rfl (ac rfl (ac rfl (ac rfl (ac rfl an)))))), H59.u1.d, hm⟩
        · refine st_condf hb54 rfl ?_
          refine st_skip ?_
          refine n_bl ?_
          refine n_cut ⟨A17, xs20.length, c19, xs20, upk (ac rfl (ac rfl (ac rfl (ac rfl (ac rfl (ac rfl an)))))), H53.u1.d, hm⟩
    · rintro ρ w ⟨A41, n42, c43, xs44, ⟨base, rfl⟩, H45, hm⟩
      obtain rfl := (H45.g0).leneq
      unfold scutageref01_Store_all.j1 at hm
      refine st_region ?_
      refine r_pure (.int .i64 (w64 (i25 + 1))) rfl ?_
      refine r_pure (.int .i64 (w64 (i25 + 1))) rfl ?_
      refine r_nil ?_
      refine n_round (IH33 _ _ rfl _ _ _ ⟨i25 + 1, xs44, dn26 ++ [y30], A41, xs44.length, c43, rfl, range_more hxs27, range_len hi28, upk (ac rfl (ac rfl (ac rfl (ac rfl (ac rfl (ac hnx39 an)))))), H45⟩ hm)

set_option maxHeartbeats 2000000 in
theorem scutageref01_Store_Post_ok {w0 w : World} {Γ : List (World → Prop)} (b1 : Nat) (s_ : scutageref01_Store) (A2 : Option Addr) (c3 : Nat) (av4 : Value) (entity : ByteArray) (p : Int) (kind : Int) (of_ : Int) (lines : List api_Line) (A5 : Option Addr) (n10 c6 : Nat) (hn9 : n10 = lines.length) (hc7 : lines.length ≤ c6) (hv8 : ∀ u, Hp w0 Γ u → SlR K43 A5 lines u) (r0_ : Int) (r1_ : Int) (r2_ : scutageref01_Store) (H : Hp w0 (Bx b1 28 [.slice A2 s_.f_J.length c3] :: RwN NK37 (.slice A2 s_.f_J.length c3) s_.f_J av4 :: Ins NK37 s_.f_J av4 :: Γ) w) (hm : scutageref01_Store_Post s_ entity p kind of_ lines = some (r0_, r1_, r2_)) : Calls Try.prog 10 #[.pointer (some ⟨b1, 0, none⟩), .string entity, .int .i64 p, .int .i64 kind, .int .i64 of_, .slice A5 n10 c6] w (fun e w => ∃ (Ax1 : Option Addr) (nx2 cx3 : Nat), ∃ (avx4 : Value), e = .returned (.tuple #[.int .i64 r0_, .int .i64 r1_]) ∧ Hp w0 (Bx b1 28 [.slice Ax1 nx2 cx3] :: RwN NK37 (.slice Ax1 nx2 cx3) r2_.f_J avx4 :: Ins NK37 r2_.f_J avx4 :: Γ) w) := by
  subst hn9
  unfold scutageref01_Store_Post at hm
  refine st_enter Try.func10 rfl Try.ntmps10 (Nat.le_of_ble_eq_true rfl) ?_
  refine st_seq ?_
  refine st_region ?_
  refine r_pure (.int .i64 0) rfl ?_
  refine r_pure (.int .i64 0) rfl ?_
  refine r_seq ?_
  refine st_seq ?_
  refine st_cut (fun ρ w => ∃ q11 : Bool, (∃ base, ρ = updl base [(0, .pointer (some ⟨b1, 0, none⟩)), (1, .string entity), (2, .int .i64 p), (3, .int .i64 kind), (4, .int .i64 of_), (5, .slice A5 lines.length c6), (40, .bool q11)]) ∧ Hp w0 (RwN NK37 (.slice A2 s_.f_J.length c3) s_.f_J av4 :: Ins NK37 s_.f_J av4 :: Bx b1 28 [.slice A2 s_.f_J.length c3] :: Γ) w ∧ scutageref01_Store_Post.j1 s_ kind of_ lines entity p q11 = some (r0_, r1_, r2_)) ?_ ?_
  · refine st_region ?_
    refine r_pure (.string entity) rfl ?_
    refine r_pure (.bool ((entity).toList == ((⟨#[]⟩ : ByteArray)).toList)) rfl ?_
    refine r_pure (.bool ((entity).toList == ((⟨#[]⟩ : ByteArray)).toList)) rfl ?_
    rcases ite_some hm with ⟨hb580, hm⟩ | ⟨hb580, hm⟩
    · refine r_not (wn_f rfl rfl (by decide) rfl hb580) ?_
      refine r_not (wn_f rfl rfl (by decide) rfl hb580) ?_
      refine r_not (wn_f rfl rfl (by decide) rfl hb580) ?_
      refine r_pick_t (.bool true) hb580 rfl rfl ?_
      refine r_pure (.bool true) rfl ?_
      refine r_not (wn_f rfl rfl (by decide) rfl rfl) ?_
      refine r_not (wn_f rfl rfl (by decide) rfl rfl) ?_
      refine r_not (wn_f rfl rfl (by decide) rfl rfl) ?_
      refine r_not (wn_u rfl rfl (by decide) rfl rfl) ?_
      refine r_not (wn_u rfl rfl (by decide) rfl rfl) ?_
      refine r_not (wn_f rfl rfl (by decide) rfl rfl) ?_
      refine r_pick_t (.bool true) rfl rfl rfl ?_
      refine r_pure (.bool true) rfl ?_
      refine r_not (wn_f rfl rfl (by decide) rfl rfl) ?_
      refine r_not (wn_f rfl rfl (by decide) rfl rfl) ?_
      refine r_not (wn_f rfl rfl (by decide) rfl rfl) ?_
      refine r_not (wn_u rfl rfl (by decide) rfl rfl) ?_
      refine r_not (wn_u rfl rfl (by decide) rfl rfl) ?_
      refine r_not (wn_f rfl rfl (by decide) rfl rfl) ?_
      refine r_pick_t (.bool true) rfl rfl rfl ?_
      refine r_nil ?_
      refine n_cut ⟨true, upk (ac rfl (ac rfl (ac rfl (ac rfl (ac rfl (ac rfl (ac rfl an))))))), H.u2.u2, hm⟩
    · refine r_pure (.int .i64 p) rfl ?_ (wn_t rfl rfl (by decide) rfl hb580)
      obtain ⟨y581, hy582, hm⟩ := bind_some hm
      refine r_callf Try.call25 (scutageref01_Period_ok p y581 H hy582) ?_ (wn_t rfl rfl (by decide) rfl hb580)
      rintro e584 wd583 ⟨rfl, H586⟩
      refine ⟨_, rfl, ?_⟩
      refine r_pure (.bool (!y581)) rfl ?_ (wn_t rfl rfl (by decide) rfl hb580)
      refine r_pick_f (.bool (!y581)) hb580 rfl rfl ?_
      refine r_pure (.bool (!y581)) rfl ?_
      rcases ite_some hm with ⟨hb587, hm⟩ | ⟨hb587, hm⟩
      · refine r_not (wn_f rfl rfl (by decide) rfl hb587) ?_
        refine r_not (wn_f rfl rfl (by decide) rfl hb587) ?_
        refine r_not (wn_f rfl rfl (by decide) rfl hb587) ?_
        refine r_not (wn_u rfl rfl (by decide) rfl rfl) ?_
        refine r_not (wn_u rfl rfl (by decide) rfl rfl) ?_
        refine r_not (wn_f rfl rfl (by decide) rfl hb587) ?_
        refine r_pick_t (.bool true) hb587 rfl rfl ?_
        refine r_pure (.bool true) rfl ?_
        refine r_not (wn_f rfl rfl (by decide) rfl rfl) ?_
        refine r_not (wn_f rfl rfl (by decide) rfl rfl) ?_
        refine r_not (wn_f rfl rfl (by decide) rfl rfl) ?_
        refine r_not (wn_u rfl rfl (by decide) rfl rfl) ?_
        refine r_not (wn_u rfl rfl (by decide) rfl rfl) ?_
        refine r_not (wn_f rfl rfl (by decide) rfl rfl) ?_
        refine r_pick_t (.bool true) rfl rfl rfl ?_
        refine r_nil ?_
        refine n_cut ⟨true, upk (ac rfl (ac rfl (ac rfl (ac rfl (ac rfl (ac rfl (ac rfl an))))))), H586.u2.u2, hm⟩
      · refine r_pure (.int .i64 kind) rfl ?_ (wn_t rfl rfl (by decide) rfl hb587)
        refine r_pure (.bool (kind != 1)) rfl ?_ (wn_t rfl rfl (by decide) rfl hb587)
        refine r_pure (.bool (kind != 1)) rfl ?_ (wn_t rfl rfl (by decide) rfl hb587)
        rcases ite_some hm with ⟨hb588, hm⟩ | ⟨hb588, hm⟩
        · refine r_pure (.int .i64 kind) rfl ?_ (wn_t rfl rfl (by decide) rfl hb588)
          refine r_pure (.bool (kind != 2)) rfl ?_ (wn_t rfl rfl (by decide) rfl hb588)
          refine r_pick_t (.bool (kind != 2)) hb588 rfl rfl ?_ (wn_t rfl rfl (by decide) rfl hb587)
          refine r_pick_f (.bool (kind != 2)) hb587 rfl rfl ?_
          refine r_pure (.bool (kind != 2)) rfl ?_
          rcases ite_some hm with ⟨hb589, hm⟩ | ⟨hb589, hm⟩
          · refine r_not (wn_f rfl rfl (by decide) rfl hb589) ?_
            refine r_not (wn_f rfl rfl (by decide) rfl hb589) ?_
            refine r_not (wn_f rfl rfl (by decide) rfl hb589) ?_
            refine r_not (wn_u rfl rfl (by decide) rfl rfl) ?_
            refine r_not (wn_u rfl rfl (by decide) rfl rfl) ?_
            refine r_not (wn_f rfl rfl (by decide) rfl hb589) ?_
            refine r_pick_t (.bool true) hb589 rfl rfl ?_
            refine r_nil ?_
            refine n_cut ⟨true, upk (ac rfl (ac rfl (ac rfl (ac rfl (ac rfl (ac rfl (ac rfl an))))))), H586.u2.u2, hm⟩
          · refine r_pure (.int .i64 kind) rfl ?_ (wn_t rfl rfl (by decide) rfl hb589)
            refine r_pure (.bool (kind == 1)) rfl ?_ (wn_t rfl rfl (by decide) rfl hb589)
            refine r_pure (.bool (kind == 1)) rfl ?_ (wn_t rfl rfl (by decide) rfl hb589)
            rcases ite_some hm with ⟨hb590, hm⟩ | ⟨hb590, hm⟩
            · refine r_pure (.int .i64 of_) rfl ?_ (wn_t rfl rfl (by decide) rfl hb590)
              refine r_pure (.bool (of_ != 0)) rfl ?_ (wn_t rfl rfl (by decide) rfl hb590)
              refine r_pick_t (.bool (of_ != 0)) hb590 rfl rfl ?_ (wn_t rfl rfl (by decide) rfl hb589)
              refine r_pick_f (.bool (of_ != 0)) hb589 rfl rfl ?_
              refine r_nil ?_
              refine n_cut ⟨of_ != 0, upk (ac rfl (ac rfl (ac rfl (ac rfl (ac rfl (ac rfl (ac rfl an))))))), H586.u2.u2, hm⟩
            · refine r_not (wn_f rfl rfl (by decide) rfl hb590) ?_
              refine r_not (wn_f rfl rfl (by decide) rfl hb590) ?_
              refine r_pick_f (.bool false) hb590 rfl rfl ?_ (wn_t rfl rfl (by decide) rfl hb589)
              refine r_pick_f (.bool false) hb589 rfl rfl ?_
              refine r_nil ?_
              refine n_cut ⟨false, upk (ac rfl (ac rfl (ac rfl (ac rfl (ac rfl (ac rfl (ac rfl an))))))), H586.u2.u2, hm⟩
        · refine r_not (wn_f rfl rfl (by decide) rfl hb588) ?_
          refine r_not (wn_f rfl rfl (by decide) rfl hb588) ?_
          refine r_pick_f (.bool false) hb588 rfl rfl ?_ (wn_t rfl rfl (by decide) rfl hb587)
          refine r_pick_f (.bool false) hb587 rfl rfl ?_
          refine r_pure (.bool false) rfl ?_
          refine r_pure (.int .i64 kind) rfl ?_ (wn_t rfl rfl (by decide) rfl rfl)
          refine r_pure (.bool (kind == 1)) rfl ?_ (wn_t rfl rfl (by decide) rfl rfl)
          refine r_pure (.bool (kind == 1)) rfl ?_ (wn_t rfl rfl (by decide) rfl rfl)
          rcases ite_some hm with ⟨hb591, hm⟩ | ⟨hb591, hm⟩
          · refine r_pure (.int .i64 of_) rfl ?_ (wn_t rfl rfl (by decide) rfl hb591)
            refine r_pure (.bool (of_ != 0)) rfl ?_ (wn_t rfl rfl (by decide) rfl hb591)
            refine r_pick_t (.bool (of_ != 0)) hb591 rfl rfl ?_ (wn_t rfl rfl (by decide) rfl rfl)
            refine r_pick_f (.bool (of_ != 0)) rfl rfl rfl ?_
            refine r_nil ?_
            refine n_cut ⟨of_ != 0, upk (ac rfl (ac rfl (ac rfl (ac rfl (ac rfl (ac rfl (ac rfl an))))))), H586.u2.u2, hm⟩
          · refine r_not (wn_f rfl rfl (by decide) rfl hb591) ?_
            refine r_not (wn_f rfl rfl (by decide) rfl hb591) ?_
            refine r_pick_f (.bool false) hb591 rfl rfl ?_ (wn_t rfl rfl (by decide) rfl rfl)
            refine r_pick_f (.bool false) rfl rfl rfl ?_
            refine r_nil ?_
            refine n_cut ⟨false, upk (ac rfl (ac rfl (ac rfl (ac rfl (ac rfl (ac rfl (ac rfl an))))))), H586.u2.u2, hm⟩
  · rintro ρ w ⟨q11, ⟨base, rfl⟩, H12, hm⟩
    unfold scutageref01_Store_Post.j1 at hm
    rcases ite_some hm with ⟨hb13, hm⟩ | ⟨hb13, hm⟩
    · refine st_condt hb13 rfl ?_
      refine st_seq ?_
      refine st_region ?_
      refine r_pure (.int .i64 0) rfl ?_
      refine r_pure (.int .i64 1) rfl ?_
      refine r_seq ?_
      obtain ⟨rfl, rfl, rfl⟩ := some_inj3 hm
      refine st_ret2 rfl rfl (Nat.le_of_ble_eq_true rfl) (Nat.le_of_ble_eq_true rfl) rfl rfl ?_
      exact ⟨A2, s_.f_J.length, c3, av4, rfl, H12.u1.u1.u2⟩
    · refine st_condf hb13 rfl ?_
      refine st_skip ?_
      refine n_sq ?_
      refine st_seq ?_
      refine st_seq ?_
      refine st_region ?_
      refine r_pure (.int .i64 kind) rfl ?_
      refine r_pure (.bool (kind == 2)) rfl ?_
      refine r_seq ?_
      rcases ite_some hm with ⟨hb14, hm⟩ | ⟨hb14, hm⟩
      · refine st_condt hb14 rfl ?_
        refine st_seq ?_
        refine st_cut (fun ρ w => ∃ q15 : Bool, (∃ base, ρ = updl base [(0, .pointer (some ⟨b1, 0, none⟩)), (1, .string entity), (2, .int .i64 p), (3, .int .i64 kind), (4, .int .i64 of_), (5, .slice A5 lines.length c6), (91, .bool q15)]) ∧ Hp w0 (RwN NK37 (.slice A2 s_.f_J.length c3) s_.f_J av4 :: Ins NK37 s_.f_J av4 :: Bx b1 28 [.slice A2 s_.f_J.length c3] :: Γ) w ∧ scutageref01_Store_Post.j2 s_ of_ lines entity p kind q15 = some (r0_, r1_, r2_)) ?_ ?_
        · refine st_region ?_
          refine r_pure (.int .i64 of_) rfl ?_
          refine r_pure (.bool (decide (of_ < 1))) rfl ?_
          refine r_pure (.bool (decide (of_ < 1))) rfl ?_
          rcases ite_some hm with ⟨hb318, hm⟩ | ⟨hb318, hm⟩
          · refine r_not (wn_f rfl rfl (by decide) rfl hb318) ?_
            refine r_not (wn_f rfl rfl (by decide) rfl hb318) ?_
            refine r_not (wn_f rfl rfl (by decide) rfl hb318) ?_
            refine r_not (wn_f rfl rfl (by decide) rfl hb318) ?_
            refine r_not (wn_f rfl rfl (by decide) rfl hb318) ?_
            refine r_not (wn_f rfl rfl (by decide) rfl hb318) ?_
            refine r_not (wn_f rfl rfl (by decide) rfl hb318) ?_
            refine r_pick_t (.bool true) hb318 rfl rfl ?_
            refine r_pure (.bool true) rfl ?_
            refine r_not (wn_f rfl rfl (by decide) rfl rfl) ?_
            refine r_not (wn_f rfl rfl (by decide) rfl rfl) ?_
            refine r_not (wn_f rfl rfl (by decide) rfl rfl) ?_
            refine r_not (wn_f rfl rfl (by decide) rfl rfl) ?_
            refine r_not (wn_f rfl rfl (by decide) rfl rfl) ?_
            refine r_not (wn_f rfl rfl (by decide) rfl rfl) ?_
            refine r_not (wn_f rfl rfl (by decide) rfl rfl) ?_
            refine r_not (wn_f rfl rfl (by decide) rfl rfl) ?_
            refine r_not (wn_f rfl rfl (by decide) rfl rfl) ?_
            refine r_not (wn_f rfl rfl (by decide) rfl rfl) ?_
            refine r_not (wn_f rfl rfl (by decide) rfl rfl) ?_
            refine r_pick_t (.bool true) rfl rfl rfl ?_
            refine r_pure (.bool true) rfl ?_
            refine r_not (wn_f rfl rfl (by decide) rfl rfl) ?_
            refine r_not (wn_f rfl rfl (by decide) rfl rfl) ?_
            refine r_not (wn_f rfl rfl (by decide) rfl rfl) ?_
            refine r_not (wn_f rfl rfl (by decide) rfl rfl) ?_
            refine r_not (wn_f rfl rfl (by decide) rfl rfl) ?_
            refine r_not (wn_f rfl rfl (by decide) rfl rfl) ?_
            refine r_not (wn_f rfl rfl (by decide) rfl rfl) ?_
            refine r_not (wn_f rfl rfl (by decide) rfl rfl) ?_
            refine r_not (wn_f rfl rfl (by decide) rfl rfl) ?_
            refine r_not (wn_f rfl rfl (by decide) rfl rfl) ?_
            refine r_not (wn_f rfl rfl (by decide) rfl rfl) ?_
            refine r_pick_t (.bool true) rfl rfl rfl ?_
            refine r_pure (.bool true) rfl ?_
            refine r_not (wn_f rfl rfl (by decide) rfl rfl) ?_
            refine r_not (wn_f rfl rfl (by decide) rfl rfl) ?_
            refine r_not (wn_f rfl rfl (by decide) rfl rfl) ?_
            refine r_not (wn_f rfl rfl (by decide) rfl rfl) ?_
            refine r_not (wn_f rfl rfl (by decide) rfl rfl) ?_
            refine r_not (wn_f rfl rfl (by decide) rfl rfl) ?_
            refine r_not (wn_f rfl rfl (by decide) rfl rfl) ?_
            refine r_not (wn_f rfl rfl (by decide) rfl rfl) ?_
            refine r_not (wn_f rfl rfl (by decide) rfl rfl) ?_
            refine r_not (wn_f rfl rfl (by decide) rfl rfl) ?_
            refine r_pick_t (.bool true) rfl rfl rfl ?_
            refine r_nil ?_
            refine n_cut ⟨true, upk (ac rfl (ac rfl (ac rfl (ac rfl (ac rfl (ac rfl (ac rfl an))))))), H12.u2.u2.u2, hm⟩
          · refine r_pure (.int .i64 of_) rfl ?_ (wn_t rfl rfl (by decide) rfl hb318)
            refine r_pure (.pointer (some ⟨b1, 0, none⟩)) rfl ?_ (wn_t rfl rfl (by decide) rfl hb318)
            refine r_pure (.pointer (some ⟨b1, 0, none⟩)) rfl ?_ (wn_t rfl rfl (by decide) rfl hb318)
            refine r_fa FA28_0 ⟨b1, 0, none⟩ rfl rfl ?_ (wn_t rfl rfl (by decide) rfl hb318)
            refine r_ld1 (.slice A2 s_.f_J.length c3) LD26 rfl ((H12.g2).cell _ rfl) ?_ (wn_t rfl rfl (by decide) rfl hb318)
            refine r_len Try.underlying26 rfl ?_ (wn_t rfl rfl (by decide) rfl hb318)
            refine r_pure (.bool (decide (of_ > (s_.f_J.length : Int)))) rfl ?_ (wn_t rfl rfl (by decide) rfl hb318)
            refine r_pick_f (.bool (decide (of_ > (s_.f_J.length : Int)))) hb318 rfl rfl ?_
            refine r_pure (.bool (decide (of_ > (s_.f_J.length : Int)))) rfl ?_
            rcases ite_some hm with ⟨hb319, hm⟩ | ⟨hb319, hm⟩
            · refine r_not (wn_f rfl rfl (by decide) rfl hb319) ?_
              refine r_not (wn_f rfl rfl (by decide) rfl hb319) ?_
              refine r_not (wn_f rfl rfl (by decide) rfl hb319) ?_
              refine r_not (wn_f rfl rfl (by decide) rfl hb319) ?_
              refine r_not (wn_f rfl rfl (by decide) rfl hb319) ?_
              refine r_not (wn_f rfl rfl (by decide) rfl hb319) ?_
              refine r_not (wn_f rfl rfl (by decide) rfl hb319) ?_
              refine r_not (wn_f rfl rfl (by decide) rfl hb319) ?_
              refine r_not (wn_f rfl rfl (by decide) rfl hb319) ?_
              refine r_not (wn_f rfl rfl (by decide) rfl hb319) ?_
              refine r_not (wn_f rfl rfl (by decide) rfl hb319) ?_
              refine r_pick_t (.bool true) hb319 rfl rfl ?_
              refine r_pure (.bool true) rfl ?_
              refine r_not (wn_f rfl rfl (by decide) rfl rfl) ?_
              refine r_not (wn_f rfl rfl (by decide) rfl rfl) ?_
              refine r_not (wn_f rfl rfl (by decide) rfl rfl) ?_
              refine r_not (wn_f rfl rfl (by decide) rfl rfl) ?_
              refine r_not (wn_f rfl rfl (by decide) rfl rfl) ?_
              refine r_not (wn_f rfl rfl (by decide) rfl rfl) ?_
              refine r_not (wn_f rfl rfl (by decide) rfl rfl) ?_
              refine r_not (wn_f rfl rfl (by decide) rfl rfl) ?_
              refine r_not (wn_f rfl rfl (by decide) rfl rfl) ?_
              refine r_not (wn_f rfl rfl (by decide) rfl rfl) ?_
              refine r_not (wn_f rfl rfl (by decide) rfl rfl) ?_
              refine r_pick_t (.bool true) rfl rfl rfl ?_
              refine r_pure (.bool true) rfl ?_
              refine r_not (wn_f rfl rfl (by decide) rfl rfl) ?_
              refine r_not (wn_f rfl rfl (by decide) rfl rfl) ?_
              refine r_not (wn_f rfl rfl (by decide) rfl rfl) ?_
              refine r_not (wn_f rfl rfl (by decide) rfl rfl) ?_
              refine r_not (wn_f rfl rfl (by decide) rfl rfl) ?_
              refine r_not (wn_f rfl rfl (by decide) rfl rfl) ?_
              refine r_not (wn_f rfl rfl (by decide) rfl rfl) ?_
              refine r_not (wn_f rfl rfl (by decide) rfl rfl) ?_
              refine r_not (wn_f rfl rfl (by decide) rfl rfl) ?_
              refine r_not (wn_f rfl rfl (by decide) rfl rfl) ?_
              refine r_pick_t (.bool true) rfl rfl rfl ?_
              refine r_nil ?_
              refine n_cut ⟨true, upk (ac rfl (ac rfl (ac rfl (ac rfl (ac rfl (ac rfl (ac rfl an))))))), H12.u2.u2.u2, hm⟩
            · refine r_pure (.pointer (some ⟨b1, 0, none⟩)) rfl ?_ (wn_t rfl rfl (by decide) rfl hb319)
              refine r_pure (.pointer (some ⟨b1, 0, none⟩)) rfl ?_ (wn_t rfl rfl (by decide) rfl hb319)
              refine r_fa FA28_0 ⟨b1, 0, none⟩ rfl rfl ?_ (wn_t rfl rfl (by decide) rfl hb319)
              refine r_ld1 (.slice A2 s_.f_J.length c3) LD26 rfl ((H12.g2).cell _ rfl) ?_ (wn_t rfl rfl (by decide) rfl hb319)
              refine r_pure (.int .i64 of_) rfl ?_ (wn_t rfl rfl (by decide) rfl hb319)
              refine r_pure (.int .i64 (w64 (of_ - 1))) rfl ?_ (wn_t rfl rfl (by decide) rfl hb319)
              obtain ⟨⟨h0320, h1321⟩, hm⟩ := gd_some hm
              have hj322 := rd_get h0320 h1321
              have hA323 := (H12.g0.rd).adO hj322
              refine r_ix IX26 rfl rfl hA323 h0320 h1321 ?_ (wn_t rfl rfl (by decide) rfl hb319)
              refine r_fa FA37_1 (((oA A2).add (Int.toNat (w64 (of_ - 1)) * 6)).add 1) rfl rfl ?_ (wn_t rfl rfl (by decide) rfl hb319)
              refine r_ld1 (.string ((rd s_.f_J (w64 (of_ - 1))).Entity)) LD9 rfl ((H12.g0.rd).cA hA323 hj322 1 _ rfl) ?_ (wn_t rfl rfl (by decide) rfl hb319)
              refine r_pure (.string entity) rfl ?_ (wn_t rfl rfl (by decide) rfl hb319)
              refine r_pure (.bool (!(((rd s_.f_J (w64 (of_ - 1))).Entity).toList == (entity).toList))) rfl ?_ (wn_t rfl rfl (by decide) rfl hb319)
              refine r_pick_f (.bool (!(((rd s_.f_J (w64 (of_ - 1))).Entity).toList == (entity).toList))) hb319 rfl rfl ?_
              refine r_pure (.bool (!(((rd s_.f_J (w64 (of_ - 1))).Entity).toList == (entity).toList))) rfl ?_
              rcases ite_some hm with ⟨hb324, hm⟩ | ⟨hb324, hm⟩
              · refine r_not (wn_f rfl rfl (by decide) rfl hb324) ?_
                refine r_not (wn_f rfl rfl (by decide) rfl hb324) ?_
                refine r_not (wn_f rfl rfl (by decide) rfl hb324) ?_
                refine r_not (wn_f rfl rfl (by decide) rfl hb324) ?_
                refine r_not (wn_f rfl rfl (by decide) rfl hb324) ?_
                refine r_not (wn_f rfl rfl (by decide) rfl hb324) ?_
                refine r_not (wn_f rfl rfl (by decide) rfl hb324) ?_
                refine r_not (wn_f rfl rfl (by decide) rfl hb324) ?_
                refine r_not (wn_f rfl rfl (by decide) rfl hb324) ?_
                refine r_not (wn_f rfl rfl (by decide) rfl hb324) ?_
                refine r_not (wn_f rfl rfl (by decide) rfl hb324) ?_
                refine r_pick_t (.bool true) hb324 rfl rfl ?_
                refine r_pure (.bool true) rfl ?_
                refine r_not (wn_f rfl rfl (by decide) rfl rfl) ?_
                refine r_not (wn_f rfl rfl (by decide) rfl rfl) ?_
                refine r_not (wn_f rfl rfl (by decide) rfl rfl) ?_
                refine r_not (wn_f rfl rfl (by decide) rfl rfl) ?_
                refine r_not (wn_f rfl rfl (by decide) rfl rfl) ?_
                refine r_not (wn_f rfl rfl (by decide) rfl rfl) ?_
                refine r_not (wn_f rfl rfl (by decide) rfl rfl) ?_
                refine r_not (wn_f rfl rfl (by decide) rfl rfl) ?_
                refine r_not (wn_f rfl rfl (by decide) rfl rfl) ?_
                refine r_not (wn_f rfl rfl (by decide) rfl rfl) ?_
                refine r_pick_t (.bool true) rfl rfl rfl ?_
                refine r_nil ?_
                refine n_cut ⟨true, upk (ac rfl (ac rfl (ac rfl (ac rfl (ac rfl (ac rfl (ac rfl an))))))), H12.u2.u2.u2, hm⟩
              · refine r_pure (.pointer (some ⟨b1, 0, none⟩)) rfl ?_ (wn_t rfl rfl (by decide) rfl hb324)
                refine r_pure (.pointer (some ⟨b1, 0, none⟩)) rfl ?_ (wn_t rfl rfl (by decide) rfl hb324)
                refine r_fa FA28_0 ⟨b1, 0, none⟩ rfl rfl ?_ (wn_t rfl rfl (by decide) rfl hb324)
                refine r_ld1 (.slice A2 s_.f_J.length c3) LD26 rfl ((H12.g2).cell _ rfl) ?_ (wn_t rfl rfl (by decide) rfl hb324)
                refine r_pure (.int .i64 of_) rfl ?_ (wn_t rfl rfl (by decide) rfl hb324)
                refine r_pure (.int .i64 (w64 (of_ - 1))) rfl ?_ (wn_t rfl rfl (by decide) rfl hb324)
                refine r_ix IX26 rfl rfl hA323 h0320 h1321 ?_ (wn_t rfl rfl (by decide) rfl hb324)
                refine r_fa FA37_2 (((oA A2).add (Int.toNat (w64 (of_ - 1)) * 6)).add 2) rfl rfl ?_ (wn_t rfl rfl (by decide) rfl hb324)
                refine r_ld1 (.int .i64 ((rd s_.f_J (w64 (of_ - 1))).Period)) LD3 rfl ((H12.g0.rd).cA hA323 hj322 2 _ rfl) ?_ (wn_t rfl rfl (by decide) rfl hb324)
                refine r_pure (.int .i64 p) rfl ?_ (wn_t rfl rfl (by decide) rfl hb324)
                refine r_pure (.bool ((rd s_.f_J (w64 (of_ - 1))).Period != p)) rfl ?_ (wn_t rfl rfl (by decide) rfl hb324)
                refine r_pick_f (.bool ((rd s_.f_J (w64 (of_ - 1))).Period != p)) hb324 rfl rfl ?_
                refine r_pure (.bool ((rd s_.f_J (w64 (of_ - 1))).Period != p)) rfl ?_
                rcases ite_some hm with ⟨hb325, hm⟩ | ⟨hb325, hm⟩
                · refine r_not (wn_f rfl rfl (by decide) rfl hb325) ?_
                  refine r_not (wn_f rfl rfl (by decide) rfl hb325) ?_
                  refine r_not (wn_f rfl rfl (by decide) rfl hb325) ?_
                  refine r_not (wn_f rfl rfl (by decide) rfl hb325) ?_
                  refine r_not (wn_f rfl rfl (by decide) rfl hb325) ?_
                  refine r_not (wn_f rfl rfl (by decide) rfl hb325) ?_
                  refine r_not (wn_f rfl rfl (by decide) rfl hb325) ?_
                  refine r_not (wn_f rfl rfl (by decide) rfl hb325) ?_
                  refine r_not (wn_f rfl rfl (by decide) rfl hb325) ?_
                  refine r_not (wn_f rfl rfl (by decide) rfl hb325) ?_
                  refine r_pick_t (.bool true) hb325 rfl rfl ?_
                  refine r_nil ?_
                  refine n_cut ⟨true, upk (ac rfl (ac rfl (ac rfl (ac rfl (ac rfl (ac rfl (ac rfl an))))))), H12.u2.u2.u2, hm⟩
                · refine r_pure (.pointer (some ⟨b1, 0, none⟩)) rfl ?_ (wn_t rfl rfl (by decide) rfl hb325)
                  refine r_pure (.pointer (some ⟨b1, 0, none⟩)) rfl ?_ (wn_t rfl rfl (by decide) rfl hb325)
                  refine r_fa FA28_0 ⟨b1, 0, none⟩ rfl rfl ?_ (wn_t rfl rfl (by decide) rfl hb325)
                  refine r_ld1 (.slice A2 s_.f_J.length c3) LD26 rfl ((H12.g2).cell _ rfl) ?_ (wn_t rfl rfl (by decide) rfl hb325)
                  refine r_pure (.int .i64 of_) rfl ?_ (wn_t rfl rfl (by decide) rfl hb325)
                  refine r_pure (.int .i64 (w64 (of_ - 1))) rfl ?_ (wn_t rfl rfl (by decide) rfl hb325)
                  refine r_ix IX26 rfl rfl hA323 h0320 h1321 ?_ (wn_t rfl rfl (by decide) rfl hb325)
                  refine r_fa FA37_3 (((oA A2).add (Int.toNat (w64 (of_ - 1)) * 6)).add 3) rfl rfl ?_ (wn_t rfl rfl (by decide) rfl hb325)
                  refine r_ld1 (.int .i64 ((rd s_.f_J (w64 (of_ - 1))).Kind)) LD3 rfl ((H12.g0.rd).cA hA323 hj322 3 _ rfl) ?_ (wn_t rfl rfl (by decide) rfl hb325)
                  refine r_pure (.bool ((rd s_.f_J (w64 (of_ - 1))).Kind != 1)) rfl ?_ (wn_t rfl rfl (by decide) rfl hb325)
                  refine r_pick_f (.bool ((rd s_.f_J (w64 (of_ - 1))).Kind != 1)) hb325 rfl rfl ?_
                  refine r_nil ?_
                  refine n_cut ⟨(rd s_.f_J (w64 (of_ - 1))).Kind != 1, upk (ac rfl (ac rfl (ac rfl (ac rfl (ac rfl (ac rfl (ac rfl an))))))), H12.u2.u2.u2, hm⟩
        · rintro ρ w ⟨q15, ⟨base, rfl⟩, H16, hm⟩
          unfold scutageref01_Store_Post.j2 at hm
          rcases ite_some hm with ⟨hb17, hm⟩ | ⟨hb17, hm⟩
          · refine st_condt hb17 rfl ?_
            refine st_seq ?_
            refine st_region ?_
            refine r_pure (.int .i64 0) rfl ?_
            refine r_pure (.int .i64 3) rfl ?_
            refine r_seq ?_
            obtain ⟨rfl, rfl, rfl⟩ := some_inj3 hm
            refine st_ret2 rfl rfl (Nat.le_of_ble_eq_true rfl) (Nat.le_of_ble_eq_true rfl) rfl rfl ?_
            exact ⟨A2, s_.f_J.length, c3, av4, rfl, H16.u1.u1.u2⟩
          · refine st_condf hb17 rfl ?_
            refine st_skip ?_
            refine n_sq ?_
            refine st_seq ?_
            refine st_region ?_
            refine r_pure (.pointer (some ⟨b1, 0, none⟩)) rfl ?_
            refine r_pure (.pointer (some ⟨b1, 0, none⟩)) rfl ?_
            refine r_fa FA28_0 ⟨b1, 0, none⟩ rfl rfl ?_
            refine r_ld1 (.slice A2 s_.f_J.length c3) LD26 rfl ((H16.g2).cell _ rfl) ?_
            refine r_len Try.underlying26 rfl ?_
            refine r_pure (.int .i64 0) rfl ?_
            refine r_seq ?_
            refine st_block ?_
            have hlim37 := (H16.g0.rd).lim
            obtain ⟨tl20, hl21, hm19⟩ := bind_some hm
            refine st_loopL (scutageref01_Store_Post.l1 of_ s_) (fun ys26 s ρ w => ∃ i22 : Int, ∃ dn23 : List api_Journal, i22 = s ∧ s_.f_J = dn23 ++ ys26 ∧ i22 = (dn23.length : Int) ∧ (∃ base, ρ = updl base [(0, .pointer (some ⟨b1, 0, none⟩)), (1, .string entity), (2, .int .i64 p), (3, .int .i64 kind), (4, .int .i64 of_), (5, .slice A5 lines.length c6), (95, .slice A2 s_.f_J.length c3), (96, .int .i64 (s_.f_J.length : Int)), (97, .int .i64 i22)]) ∧ Hp w0 (RwN NK37 (.slice A2 s_.f_J.length c3) s_.f_J av4 :: Ins NK37 s_.f_J av4 :: Bx b1 28 [.slice A2 s_.f_J.length c3] :: Γ) w) hl21 ⟨0, [], rfl, rfl, rfl, upk (ac rfl (ac rfl (ac rfl (ac rfl (ac rfl (ac rfl (ac rfl (ac rfl (ac rfl an))))))))), H16.u2.u2.u2⟩ ?_
            rintro m ys26 IH30 s ρ w ⟨i22, dn23, rfl, hxs24, hi25, ⟨base, rfl⟩, H18⟩ hm
            rcases ys26 with _ | ⟨y27, ys26⟩
            · rw [scutageref01_Store_Post.l1] at hm
              have hb31 := range_end hxs24 hi25
              refine st_seq ?_
              refine st_region ?_
              refine r_pure (.bool (decide (i22 < (s_.f_J.length : Int)))) rfl ?_
              refine r_seq ?_
              refine st_seq ?_
              refine st_condf hb31 rfl ?_
              have hq_ := Option.some.inj hm
              refine st_exit rfl ?_
              subst hq_
              refine n_sq ?_
              refine st_seq ?_
              refine st_cut (fun ρ w => ∃ q38 : Bool, (∃ base, ρ = updl base [(0, .pointer (some ⟨b1, 0, none⟩)), (1, .string entity), (2, .int .i64 p), (3, .int .i64 kind), (4, .int .i64 of_), (5, .slice A5 lines.length c6), (127, .bool q38)]) ∧ Hp w0 (RwN NK37 (.slice A2 s_.f_J.length c3) s_.f_J av4 :: Ins NK37 s_.f_J av4 :: Bx b1 28 [.slice A2 s_.f_J.length c3] :: Γ) w ∧ scutageref01_Store_Post.j3 s_ entity lines p kind of_ q38 = some (r0_, r1_, r2_)) ?_ ?_
              · refine st_region ?_
                refine r_pure (.slice A5 lines.length c6) rfl ?_
                obtain ⟨y285, hy286, hm⟩ := bind_some hm19
                refine r_callf Try.call26 (scutageref01_Check_ok lines A5 lines.length c6 rfl hc7 (fun _ H => (hv8 _ H.d.d.d)) y285 H18 hy286) ?_
                rintro e288 wd287 ⟨rfl, H290⟩
                refine ⟨_, rfl, ?_⟩
                refine r_pure (.bool (!y285)) rfl ?_
                refine r_pure (.bool (!y285)) rfl ?_
                rcases ite_some hm with ⟨hb291, hm⟩ | ⟨hb291, hm⟩
                · refine r_not (wn_f rfl rfl (by decide) rfl hb291) ?_
                  refine r_not (wn_f rfl rfl (by decide) rfl hb291) ?_
                  refine r_not (wn_f rfl rfl (by decide) rfl hb291) ?_
                  refine r_not (wn_u rfl rfl (by decide) rfl rfl) ?_
                  refine r_not (wn_u rfl rfl (by decide) rfl rfl) ?_
                  refine r_not (wn_u rfl rfl (by decide) rfl rfl) ?_
                  refine r_not (wn_u rfl rfl (by decide) rfl rfl) ?_
                  refine r_not (wn_u rfl rfl (by decide) rfl rfl) ?_
                  refine r_not (wn_u rfl rfl (by decide) rfl rfl) ?_
                  refine r_not (wn_u rfl rfl (by decide) rfl rfl) ?_
                  refine r_not (wn_u rfl rfl (by decide) rfl rfl) ?_
                  refine r_not (wn_u rfl rfl (by decide) rfl rfl) ?_
                  refine r_not (wn_u rfl rfl (by decide) rfl rfl) ?_
                  refine r_not (wn_u rfl rfl (by decide) rfl rfl) ?_
                  refine r_not (wn_u rfl rfl (by decide) rfl rfl) ?_
                  refine r_not (wn_u rfl rfl (by decide) rfl rfl) ?_
                  refine r_not (wn_f rfl rfl (by decide) rfl hb291) ?_
                  refine r_pick_t (.bool true) hb291 rfl rfl ?_
                  refine r_nil ?_
                  refine n_cut ⟨true, upk (ac rfl (ac rfl (ac rfl (ac rfl (ac rfl (ac rfl (ac rfl an))))))), H290.u2.u2.u2, hm⟩
                · refine r_pure (.int .i64 kind) rfl ?_ (wn_t rfl rfl (by decide) rfl hb291)
                  refine r_pure (.bool (kind == 2)) rfl ?_ (wn_t rfl rfl (by decide) rfl hb291)
                  refine r_pure (.bool (kind == 2)) rfl ?_ (wn_t rfl rfl (by decide) rfl hb291)
                  refine r_pure (.slice A5 lines.length c6) rfl ?_ (wn_t rfl rfl (by decide) rfl hb14)
                  refine r_pure (.pointer (some ⟨b1, 0, none⟩)) rfl ?_ (wn_t rfl rfl (by decide) rfl hb14)
                  refine r_pure (.pointer (some ⟨b1, 0, none⟩)) rfl ?_ (wn_t rfl rfl (by decide) rfl hb14)
                  refine r_fa FA28_0 ⟨b1, 0, none⟩ rfl rfl ?_ (wn_t rfl rfl (by decide) rfl hb14)
                  refine r_ld1 (.slice A2 s_.f_J.length c3) LD26 rfl ((H290.g2).cell _ rfl) ?_ (wn_t rfl rfl (by decide) rfl hb14)
                  refine r_pure (.int .i64 of_) rfl ?_ (wn_t rfl rfl (by decide) rfl hb14)
                  refine r_pure (.int .i64 (w64 (of_ - 1))) rfl ?_ (wn_t rfl rfl (by decide) rfl hb14)
                  obtain ⟨⟨h0292, h1293⟩, hm⟩ := gd_some hm
                  have hj294 := rd_get h0292 h1293
                  have hA295 := (H290.g0.rd).adO hj294
                  refine r_ix IX26 rfl rfl hA295 h0292 h1293 ?_ (wn_t rfl rfl (by decide) rfl hb14)
                  refine r_fa FA37_5 (((oA A2).add (Int.toNat (w64 (of_ - 1)) * 6)).add 5) rfl rfl ?_ (wn_t rfl rfl (by decide) rfl hb14)
                  refine r_ld1 (.slice (((adv av4) (Int.toNat (w64 (of_ - 1)))).1) (((rd s_.f_J (w64 (of_ - 1))).Lines).length) (((adv av4) (Int.toNat (w64 (of_ - 1)))).2)) LD34 rfl ((H290.g0.rd).cA hA295 hj294 5 _ rfl) ?_ (wn_t rfl rfl (by decide) rfl hb14)
                  obtain ⟨y296, hy297, hm⟩ := bind_some hm
                  refine r_callf Try.call7 (scutageref01_Reverse_ok ((rd s_.f_J (w64 (of_ - 1))).Lines) (((adv av4) (Int.toNat (w64 (of_ - 1)))).1) (((rd s_.f_J (w64 (of_ - 1))).Lines).length) (((adv av4) (Int.toNat (w64 (of_ - 1)))).2) rfl ((H290).g1 _ _ hj294).1 (fun _ H => (H.g1 _ _ hj294).2) y296 H290 hy297) ?_ (wn_t rfl rfl (by decide) rfl hb14)
                  rintro e299 wd298 ⟨A302, n303, c304, rfl, H301⟩
                  obtain rfl := (H301.g0).leneq
                  refine ⟨_, rfl, ?_⟩
                  obtain ⟨y305, hy306, hm⟩ := bind_some hm
                  refine r_callf Try.call27 (scutageref01_Same_ok lines A5 lines.length c6 rfl hc7 (fun _ H => (hv8 _ H.d.d.d.d)) y296 A302 y296.length c304 rfl (((H301).g0).cap) (fun _ H => (H.g0.rd)) y305 H301 hy306) ?_ (wn_t rfl rfl (by decide) rfl hb14)
                  rintro e308 wd307 ⟨rfl, H310⟩
                  refine ⟨_, rfl, ?_⟩
                  refine r_pure (.bool (!y305)) rfl ?_ (wn_t rfl rfl (by decide) rfl hb14)
                  refine r_pick_t (.bool (!y305)) hb14 rfl rfl ?_ (wn_t rfl rfl (by decide) rfl hb291)
                  refine r_pick_f (.bool (!y305)) hb291 rfl rfl ?_
                  refine r_nil ?_
                  refine n_cut ⟨!y305, upk (ac rfl (ac rfl (ac rfl (ac rfl (ac rfl (ac rfl (ac rfl an))))))), H310.d.u2.u2.u2, hm⟩
              · rintro ρ w ⟨q38, ⟨base, rfl⟩, H39, hm⟩
                unfold scutageref01_Store_Post.j3 at hm
                rcases ite_some hm with ⟨hb40, hm⟩ | ⟨hb40, hm⟩
                · refine st_condt hb40 rfl ?_
                  refine st_seq ?_
                  refine st_region ?_
                  refine r_pure (.int .i64 0) rfl ?_
                  refine r_pure (.int .i64 2) rfl ?_
                  refine r_seq ?_
                  obtain ⟨rfl, rfl, rfl⟩ := some_inj3 hm
                  refine st_ret2 rfl rfl (Nat.le_of_ble_eq_true rfl) (Nat.le_of_ble_eq_true rfl) rfl rfl ?_
                  exact ⟨A2, s_.f_J.length, c3, av4, rfl, H39.u1.u1.u2⟩
                · refine st_condf hb40 rfl ?_
                  refine st_skip ?_
                  refine n_sq ?_
                  refine st_seq ?_
                  refine st_seq ?_
                  refine st_region ?_
                  refine r_pure (.pointer (some ⟨b1, 0, none⟩)) rfl ?_
                  refine r_pure (.pointer (some ⟨b1, 0, none⟩)) rfl ?_
                  refine r_fa FA28_0 ⟨b1, 0, none⟩ rfl rfl ?_
                  refine r_ld1 (.slice A2 s_.f_J.length c3) LD26 rfl ((H39.g2).cell _ rfl) ?_
                  refine r_len Try.underlying26 rfl ?_
                  refine r_pure (.bool (decide ((s_.f_J.length : Int) ≥ 200))) rfl ?_
                  refine r_seq ?_
                  rcases ite_some hm with ⟨hb41, hm⟩ | ⟨hb41, hm⟩
                  · refine st_condt hb41 rfl ?_
                    refine st_seq ?_
                    refine st_region ?_
                    refine r_pure (.int .i64 0) rfl ?_
                    refine r_pure (.int .i64 5) rfl ?_
                    refine r_seq ?_
                    obtain ⟨rfl, rfl, rfl⟩ := some_inj3 hm
                    refine st_ret2 rfl rfl (Nat.le_of_ble_eq_true rfl) (Nat.le_of_ble_eq_true rfl) rfl rfl ?_
                    exact ⟨A2, s_.f_J.length, c3, av4, rfl, H39.u1.u1.u2⟩
                  · refine st_condf hb41 rfl ?_
                    refine st_skip ?_
                    refine n_sq ?_
                    refine st_seq ?_
                    refine st_seq ?_
                    refine st_region ?_
                    refine r_pure (.pointer (some ⟨b1, 0, none⟩)) rfl ?_
                    refine r_pure (.string entity) rfl ?_
                    obtain ⟨y42, hy43, hm⟩ := bind_some hm
                    refine r_callf Try.call29 (scutageref01_Store_all_ok b1 (⟨s_.f_J⟩ : scutageref01_Store) A2 s_.f_J.length c3 rfl (((H39).g0).cap) (adv av4) (fun _ H => (H.g0.rd)) (fun j x hj => ⟨((H39).g1 j x hj).1, fun u H => (H.g1 j x hj).2⟩) (fun _ H => (H.g2)) entity 399 y42 H39 hy43) ?_
                    rintro e45 wd44 ⟨A48, n49, c50, rfl, H47⟩
                    obtain rfl := (H47.g0).leneq
                    refine ⟨_, rfl, ?_⟩
                    obtain ⟨hf52, hm⟩ := gd_some hm
                    have H51 := H47.add (A := Row K43 (.slice none 0 0) []) Row.nil
                    refine r_append (K := K43) (ys := y42) AP34 rfl rfl rfl rfl H51 (H51.g1.src) (fit_le hf52 (by decide)) ?_
                    intro A53 c54 wd55 H56
                    refine r_pure (.slice A5 lines.length c6) rfl ?_
                    obtain ⟨hf57, hm⟩ := gd_some hm
                    refine r_append (K := K43) (ys := lines) AP34 rfl rfl rfl rfl H56 ((hv8 _ H56.d.d.d.d.d).src) (fit_le hf57 (by decide)) ?_
                    intro A58 c59 wd60 H61
                    obtain ⟨y62, hy63, hm⟩ := bind_some hm
                    refine r_callf Try.call28 (scutageref01_Merge_ok ((([] : List api_Line) ++ y42) ++ lines) A58 (((([] : List api_Line) ++ y42) ++ lines).length) c59 rfl (((H61).g0).cap) (fun _ H => (H.g0.rd)) y62 H61 hy63) ?_
                    rintro e65 wd64 ⟨A68, n69, c70, rfl, H67⟩
                    obtain rfl := (H67.g0).leneq
                    refine ⟨_, rfl, ?_⟩
                    refine r_len Try.underlying34 rfl ?_
                    refine r_pure (.int .i64 0) rfl ?_
                    refine r_seq ?_
                    refine st_block ?_
                    have hlim90 := (H67.g0.rd).lim
                    obtain ⟨tl73, hl74, hm72⟩ := bind_some hm
                    refine st_loopL (scutageref01_Store_Post.l2 s_) (fun ys79 s ρ w => ∃ i75 : Int, ∃ dn76 : List api_Line, i75 = s ∧ y62 = dn76 ++ ys79 ∧ i75 = (dn76.length : Int) ∧ (∃ base, ρ = updl base [(0, .pointer (some ⟨b1, 0, none⟩)), (1, .string entity), (2, .int .i64 p), (3, .int .i64 kind), (4, .int .i64 of_), (5, .slice A5 lines.length c6), (140, .slice A68 y62.length c70), (141, .int .i64 (y62.length : Int)), (142, .int .i64 i75)]) ∧ Hp w0 (RwN NK37 (.slice A2 s_.f_J.length c3) s_.f_J av4 :: Ins NK37 s_.f_J av4 :: Bx b1 28 [.slice A2 s_.f_J.length c3] :: Row K43 (.slice A68 y62.length c70) y62 :: Γ) w) hl74 ⟨0, [], rfl, rfl, rfl, upk (ac rfl (ac rfl (ac rfl (ac rfl (ac rfl (ac rfl (ac rfl (ac rfl (ac rfl an))))))))), H67.u1.d.u1.d.u3.u3.u3⟩ ?_
                    rintro m ys79 IH83 s ρ w ⟨i75, dn76, rfl, hxs77, hi78, ⟨base, rfl⟩, H71⟩ hm
                    rcases ys79 with _ | ⟨y80, ys79⟩
                    · rw [scutageref01_Store_Post.l2] at hm
                      have hb84 := range_end hxs77 hi78
                      refine st_seq ?_
                      refine st_region ?_
                      refine r_pure (.bool (decide (i75 < (y62.length : Int)))) rfl ?_
                      refine r_seq ?_
                      refine st_seq ?_
                      refine st_condf hb84 rfl ?_
                      have hq_ := Option.some.inj hm
                      refine st_exit rfl ?_
                      subst hq_
                      refine n_sq ?_
                      refine st_seq ?_
                      obtain ⟨hf93, hm⟩ := gd_some hm72
                      obtain ⟨hf103, hm⟩ := gd_some hm
                      refine Flow.run' RA10_22 RW10_22 ((fun η91 v => v.1 = .pointer (some ⟨b1, 0, none⟩)) :: (fun η91 v => v.1 = .pointer (some ⟨b1, 0, none⟩)) :: (fun η91 v => v.1 = .pointer (some ⟨b1, 0, none⟩)) :: (fun η91 v => v.1 = .pointer (some ⟨b1, 0, none⟩)) :: (fun η91 v => v.1 = .slice A2 s_.f_J.length c3) :: (fun η91 v => v.1 = .pointer (some ⟨b1, 0, none⟩)) :: (fun η91 v => v.1 = .pointer (some ⟨b1, 0, none⟩)) :: (fun η91 v => v.1 = .pointer (some ⟨b1, 0, none⟩)) :: (fun η91 v => v.1 = .slice A2 s_.f_J.length c3) :: (fun η91 v => v.1 = .int .i64 (s_.f_J.length : Int)) :: (fun η91 v => v.1 = .int .i64 (w64 ((s_.f_J.length : Int) + 1))) :: (fun η91 v => v.1 = .string entity) :: (fun η91 v => v.1 = .int .i64 p) :: (fun η91 v => v.1 = .int .i64 kind) :: (fun η91 v => v.1 = .int .i64 of_) :: (fun η91 v => v.1 = .slice A5 lines.length c6) :: (fun η91 v => v.1 = .slice (vA (v.1)) ((([] : List api_Line) ++ lines).length) (vC (v.1))) :: (fun η91 v => v.1 = .agg #[.int .i64 (w64 ((s_.f_J.length : Int) + 1)), .string entity, .int .i64 p, .int .i64 kind, .int .i64 of_, .slice (vA ((η91 16).1)) ((([] : List api_Line) ++ lines).length) (vC ((η91 16).1))]) :: (fun η91 v => v.1 = .slice (some ⟨(oA (vA (v.1))).block, 0, none⟩) 1 1) :: (fun η91 v => v.1 = .slice (vA (v.1)) ((s_.f_J ++ [(⟨w64 ((s_.f_J.length : Int) + 1), entity, p, kind, of_, ([] : List api_Line) ++ lines⟩ : api_Journal)]).length) (vC (v.1))) :: (fun η91 v => v.1 = .pointer (some ⟨b1, 0, none⟩)) :: (fun η91 v => v.1 = .pointer (some ⟨b1, 0, none⟩)) :: (fun _ _ => True) :: []) [⟨none, (some 19), fun η91 => RwN NK37 (.slice A2 s_.f_J.length c3) s_.f_J av4⟩, ⟨none, (some 19), fun η91 => Ins NK37 s_.f_J av4⟩, ⟨none, (some 22), fun η91 => Bx b1 28 [.slice A2 s_.f_J.length c3]⟩, ⟨(some 16), (some 18), fun η91 => Row K43 (.slice (vA ((η91 16).1)) ((([] : List api_Line) ++ lines).length) (vC ((η91 16).1))) (([] : List api_Line) ++ lines)⟩, ⟨(some 18), (some 19), fun η91 => RwN NK37 (.slice (some ⟨(oA (vA ((η91 18).1))).block, 0, none⟩) 1 1) [(⟨w64 ((s_.f_J.length : Int) + 1), entity, p, kind, of_, ([] : List api_Line) ++ lines⟩ : api_Journal)] (.tuple #[.slice (vA ((η91 16).1)) ((([] : List api_Line) ++ lines).length) (vC ((η91 16).1))])⟩, ⟨(some 18), (some 19), fun η91 => Ins NK37 [(⟨w64 ((s_.f_J.length : Int) + 1), entity, p, kind, of_, ([] : List api_Line) ++ lines⟩ : api_Journal)] (.tuple #[.slice (vA ((η91 16).1)) ((([] : List api_Line) ++ lines).length) (vC ((η91 16).1))])⟩, ⟨(some 19), none, fun η91 => RwN NK37 (.slice (vA ((η91 19).1)) ((s_.f_J ++ [(⟨w64 ((s_.f_J.length : Int) + 1), entity, p, kind, of_, ([] : List api_Line) ++ lines⟩ : api_Journal)]).length) (vC ((η91 19).1))) (s_.f_J ++ [(⟨w64 ((s_.f_J.length : Int) + 1), entity, p, kind, of_, ([] : List api_Line) ++ lines⟩ : api_Journal)]) (avp s_.f_J.length [(⟨w64 ((s_.f_J.length : Int) + 1), entity, p, kind, of_, ([] : List api_Line) ++ lines⟩ : api_Journal)].length av4 (.tuple #[.slice (vA ((η91 16).1)) ((([] : List api_Line) ++ lines).length) (vC ((η91 16).1))]))⟩, ⟨(some 19), none, fun η91 => Ins NK37 (s_.f_J ++ [(⟨w64 ((s_.f_J.length : Int) + 1), entity, p, kind, of_, ([] : List api_Line) ++ lines⟩ : api_Journal)]) (avp s_.f_J.length [(⟨w64 ((s_.f_J.length : Int) + 1), entity, p, kind, of_, ([] : List api_Line) ++ lines⟩ : api_Journal)].length av4 (.tuple #[.slice (vA ((η91 16).1)) ((([] : List api_Line) ++ lines).length) (vC ((η91 16).1))]))⟩, ⟨(some 22), none, fun η91 => Bx b1 28 [.slice (vA ((η91 19).1)) ((s_.f_J ++ [(⟨w64 ((s_.f_J.length : Int) + 1), entity, p, kind, of_, ([] : List api_Line) ++ lines⟩ : api_Journal)]).length) (vC ((η91 19).1))]⟩] rfl (by kernel_rfl) (by kernel_rfl) H71.u2.u2.u2 ⟨?_, ?_, ?_, ?_, ?_, ?_, ?_, ?_, ?_, ?_, ?_, ?_, ?_, ?_, ?_, ?_, ?_, ?_, ?_, ?_, ?_, ?_, ?_, trivial⟩ ?_
                      · intro η91 wd115 Δ116 hE111 hR112 hA113 H114
                        refine sp_op [(0, .pointer (some ⟨b1, 0, none⟩))] (ac rfl an) ?_
                        refine r_pure (.pointer (some ⟨b1, 0, none⟩)) rfl ?_
                        exact r_nil (n_lp ⟨_, rfl, undef, rfl, H114⟩)
                      · intro η91 wd121 Δ122 hE117 hR118 hA119 H120
                        refine sp_op [(0, .pointer (some ⟨b1, 0, none⟩))] (ac rfl an) ?_
                        refine r_pure (.pointer (some ⟨b1, 0, none⟩)) rfl ?_
                        exact r_nil (n_lp ⟨_, rfl, undef, rfl, H120⟩)
                      · intro η91 wd127 Δ128 hE123 hR124 hA125 H126
                        refine sp_op [(152, .pointer (some ⟨b1, 0, none⟩))] (ac (hE123 1 (by decide)) an) ?_
                        refine r_pure (.pointer (some ⟨b1, 0, none⟩)) rfl ?_
                        exact r_nil (n_lp ⟨_, rfl, undef, rfl, H126⟩)
                      · intro η91 wd133 Δ134 hE129 hR130 hA131 H132
                        refine sp_op [(153, .pointer (some ⟨b1, 0, none⟩))] (ac (hE129 2 (by decide)) an) ?_
                        refine r_fa FA28_0 ⟨b1, 0, none⟩ rfl rfl ?_
                        exact r_nil (n_lp ⟨_, rfl, undef, rfl, H132⟩)
                      · intro η91 wd139 Δ140 hE135 hR136 hA137 H138
                        have H138 : Hp w0 ((Δ140 ++ (Row K43 (.slice A68 y62.length c70) y62 :: Γ))) wd139 := H138
                        refine sp_op [(154, .pointer (some ⟨b1, 0, none⟩))] (ac (hE135 3 (by decide)) an) ?_
                        refine r_ld1 (.slice A2 s_.f_J.length c3) LD26 rfl (((show (Bx b1 28 [.slice A2 s_.f_J.length c3]) _ from (H138).memr (hR136 _ (List.mem_of_getElem? (i := 2) rfl) rfl))).cell _ rfl) ?_
                        exact r_nil (n_lp ⟨_, rfl, undef, rfl, H138⟩)
                      · intro η91 wd145 Δ146 hE141 hR142 hA143 H144
                        refine sp_op [(0, .pointer (some ⟨b1, 0, none⟩))] (ac rfl an) ?_
                        refine r_pure (.pointer (some ⟨b1, 0, none⟩)) rfl ?_
                        exact r_nil (n_lp ⟨_, rfl, undef, rfl, H144⟩)
                      · intro η91 wd151 Δ152 hE147 hR148 hA149 H150
                        refine sp_op [(156, .pointer (some ⟨b1, 0, none⟩))] (ac (hE147 5 (by decide)) an) ?_
                        refine r_pure (.pointer (some ⟨b1, 0, none⟩)) rfl ?_
                        exact r_nil (n_lp ⟨_, rfl, undef, rfl, H150⟩)
                      · intro η91 wd157 Δ158 hE153 hR154 hA155 H156
                        refine sp_op [(157, .pointer (some ⟨b1, 0, none⟩))] (ac (hE153 6 (by decide)) an) ?_
                        refine r_fa FA28_0 ⟨b1, 0, none⟩ rfl rfl ?_
                        exact r_nil (n_lp ⟨_, rfl, undef, rfl, H156⟩)
                      · intro η91 wd163 Δ164 hE159 hR160 hA161 H162
                        have H162 : Hp w0 ((Δ164 ++ (Row K43 (.slice A68 y62.length c70) y62 :: Γ))) wd163 := H162
                        refine sp_op [(158, .pointer (some ⟨b1, 0, none⟩))] (ac (hE159 7 (by decide)) an) ?_
                        refine r_ld1 (.slice A2 s_.f_J.length c3) LD26 rfl (((show (Bx b1 28 [.slice A2 s_.f_J.length c3]) _ from (H162).memr (hR160 _ (List.mem_of_getElem? (i := 2) rfl) rfl))).cell _ rfl) ?_
                        exact r_nil (n_lp ⟨_, rfl, undef, rfl, H162⟩)
                      · intro η91 wd169 Δ170 hE165 hR166 hA167 H168
                        refine sp_op [(159, .slice A2 s_.f_J.length c3)] (ac (hE165 8 (by decide)) an) ?_
                        refine r_len Try.underlying26 rfl ?_
                        exact r_nil (n_lp ⟨_, rfl, undef, rfl, H168⟩)
                      · intro η91 wd175 Δ176 hE171 hR172 hA173 H174
                        refine sp_op [(160, .int .i64 (s_.f_J.length : Int))] (ac (hE171 9 (by decide)) an) ?_
                        refine r_pure (.int .i64 (w64 ((s_.f_J.length : Int) + 1))) rfl ?_
                        exact r_nil (n_lp ⟨_, rfl, undef, rfl, H174⟩)
                      · intro η91 wd181 Δ182 hE177 hR178 hA179 H180
                        refine sp_op [(1, .string entity)] (ac rfl an) ?_
                        refine r_pure (.string entity) rfl ?_
                        exact r_nil (n_lp ⟨_, rfl, undef, rfl, H180⟩)
                      · intro η91 wd187 Δ188 hE183 hR184 hA185 H186
                        refine sp_op [(2, .int .i64 p)] (ac rfl an) ?_
                        refine r_pure (.int .i64 p) rfl ?_
                        exact r_nil (n_lp ⟨_, rfl, undef, rfl, H186⟩)
                      · intro η91 wd193 Δ194 hE189 hR190 hA191 H192
                        refine sp_op [(3, .int .i64 kind)] (ac rfl an) ?_
                        refine r_pure (.int .i64 kind) rfl ?_
                        exact r_nil (n_lp ⟨_, rfl, undef, rfl, H192⟩)
                      · intro η91 wd199 Δ200 hE195 hR196 hA197 H198
                        refine sp_op [(4, .int .i64 of_)] (ac rfl an) ?_
                        refine r_pure (.int .i64 of_) rfl ?_
                        exact r_nil (n_lp ⟨_, rfl, undef, rfl, H198⟩)
                      · intro η91 wd205 Δ206 hE201 hR202 hA203 H204
                        refine sp_op [(5, .slice A5 lines.length c6)] (ac rfl an) ?_
                        refine r_pure (.slice A5 lines.length c6) rfl ?_
                        exact r_nil (n_lp ⟨_, rfl, undef, rfl, H204⟩)
                      · intro η91 wd211 Δ212 hE207 hR208 hA209 H210
                        have H210 : Hp w0 ((Δ212 ++ (Row K43 (.slice A68 y62.length c70) y62 :: Γ))) wd211 := H210
                        refine sp_op [(166, .slice A5 lines.length c6)] (ac (hE207 15 (by decide)) an) ?_
                        have H213 := H210.add (A := Row K43 (.slice none 0 0) []) Row.nil
                        refine r_append (K := K43) (ys := lines) AP34 rfl rfl rfl rfl H213 ((hv8 _ (H213.d).tl.d).src) (fit_le hf93 (by decide)) ?_
                        intro A215 c216 wd217 H218
                        exact r_nil (n_lp ⟨_, rfl, (.tuple #[.slice A215 ((([] : List api_Line) ++ lines).length) c216]), rfl, H218⟩)
                      · intro η91 wd223 Δ224 hE219 hR220 hA221 H222
                        refine sp_op [(161, .int .i64 (w64 ((s_.f_J.length : Int) + 1))), (162, .string entity), (163, .int .i64 p), (164, .int .i64 kind), (165, .int .i64 of_), (167, .slice (vA ((η91 16).1)) ((([] : List api_Line) ++ lines).length) (vC ((η91 16).1)))] (ac (hE219 10 (by decide)) (ac (hE219 11 (by decide)) (ac (hE219 12 (by decide)) (ac (hE219 13 (by decide)) (ac (hE219 14 (by decide)) (ac (hE219 16 (by decide)) an)))))) ?_
                        refine r_build [.int .i64 (w64 ((s_.f_J.length : Int) + 1)), .string entity, .int .i64 p, .int .i64 kind, .int .i64 of_, .slice (vA ((η91 16).1)) ((([] : List api_Line) ++ lines).length) (vC ((η91 16).1))] FL37 (by kernel_rfl) ?_
                        exact r_nil (n_lp ⟨_, rfl, undef, rfl, H222⟩)
                      · intro η91 wd229 Δ230 hE225 hR226 hA227 H228
                        have H228 : Hp w0 (Row K43 (.slice (vA ((η91 16).1)) ((([] : List api_Line) ++ lines).length) (vC ((η91 16).1))) (([] : List api_Line) ++ lines) :: (Δ230 ++ (Row K43 (.slice A68 y62.length c70) y62 :: Γ))) wd229 := H228
                        refine sp_op [(168, .agg #[.int .i64 (w64 ((s_.f_J.length : Int) + 1)), .string entity, .int .i64 p, .int .i64 kind, .int .i64 of_, .slice (vA ((η91 16).1)) ((([] : List api_Line) ++ lines).length) (vC ((η91 16).1))])] (ac (hE225 17 (by decide)) an) ?_
                        refine r_buildSlice (K := NK37.kp) [((⟨w64 ((s_.f_J.length : Int) + 1), entity, p, kind, of_, ([] : List api_Line) ++ lines⟩ : api_Journal), ((vA ((η91 16).1)), (vC ((η91 16).1))))] EL26 rfl rfl rfl (by decide) (by decide) rfl H228 ?_
                        intro b231 wd233 H232
                        have H234 : Hp w0 (Ins NK37 [(⟨w64 ((s_.f_J.length : Int) + 1), entity, p, kind, of_, ([] : List api_Line) ++ lines⟩ : api_Journal)] (.tuple #[.slice (vA ((η91 16).1)) ((([] : List api_Line) ++ lines).length) (vC ((η91 16).1))]) :: _) _ := (H232.u1).imp fun _ h_ => Ins.one (N := NK37) (x := (⟨w64 ((s_.f_J.length : Int) + 1), entity, p, kind, of_, ([] : List api_Line) ++ lines⟩ : api_Journal)) h_
                        have H235 : Hp w0 (RwN NK37 (.slice (some ⟨b231, 0, none⟩) 1 1) [(⟨w64 ((s_.f_J.length : Int) + 1), entity, p, kind, of_, ([] : List api_Line) ++ lines⟩ : api_Journal)] (.tuple #[.slice (vA ((η91 16).1)) ((([] : List api_Line) ++ lines).length) (vC ((η91 16).1))]) :: Ins NK37 [(⟨w64 ((s_.f_J.length : Int) + 1), entity, p, kind, of_, ([] : List api_Line) ++ lines⟩ : api_Journal)] (.tuple #[.slice (vA ((η91 16).1)) ((([] : List api_Line) ++ lines).length) (vC ((η91 16).1))]) :: _) _ := H234.u1.imp fun _ h_ => RwN.one (m := (([] : List api_Line) ++ lines).length) h_
                        exact r_nil (n_lp ⟨_, rfl, (.tuple #[.slice (some ⟨b231, 0, none⟩) 1 1, .tuple #[.slice (vA ((η91 16).1)) ((([] : List api_Line) ++ lines).length) (vC ((η91 16).1))]]), rfl, H235.u1.u1⟩)
                      · intro η91 wd240 Δ241 hE236 hR237 hA238 H239
                        have H239 : Hp w0 (RwN NK37 (.slice A2 s_.f_J.length c3) s_.f_J av4 :: Ins NK37 s_.f_J av4 :: RwN NK37 (.slice (some ⟨(oA (vA ((η91 18).1))).block, 0, none⟩) 1 1) [(⟨w64 ((s_.f_J.length : Int) + 1), entity, p, kind, of_, ([] : List api_Line) ++ lines⟩ : api_Journal)] (.tuple #[.slice (vA ((η91 16).1)) ((([] : List api_Line) ++ lines).length) (vC ((η91 16).1))]) :: Ins NK37 [(⟨w64 ((s_.f_J.length : Int) + 1), entity, p, kind, of_, ([] : List api_Line) ++ lines⟩ : api_Journal)] (.tuple #[.slice (vA ((η91 16).1)) ((([] : List api_Line) ++ lines).length) (vC ((η91 16).1))]) :: (Δ241 ++ (Row K43 (.slice A68 y62.length c70) y62 :: Γ))) wd240 := H239
                        refine sp_op [(155, .slice A2 s_.f_J.length c3), (169, .slice (some ⟨(oA (vA ((η91 18).1))).block, 0, none⟩) 1 1)] (ac (hE236 4 (by decide)) (ac (hE236 18 (by decide)) an)) ?_
                        refine r_appendNN (N := NK37) (xs := s_.f_J) (ys := [(⟨w64 ((s_.f_J.length : Int) + 1), entity, p, kind, of_, ([] : List api_Line) ++ lines⟩ : api_Journal)]) AP26 rfl rfl rfl rfl H239.u2.u3.u3.u3 (H239.u2.u3.u3.u3.g3) (fit_le hf103 (by decide)) ?_
                        intro A243 c244 wd245 H246
                        have H247 : Hp w0 (RwN NK37 (.slice A243 ((s_.f_J ++ [(⟨w64 ((s_.f_J.length : Int) + 1), entity, p, kind, of_, ([] : List api_Line) ++ lines⟩ : api_Journal)]).length) c244) (s_.f_J ++ [(⟨w64 ((s_.f_J.length : Int) + 1), entity, p, kind, of_, ([] : List api_Line) ++ lines⟩ : api_Journal)]) (avp s_.f_J.length [(⟨w64 ((s_.f_J.length : Int) + 1), entity, p, kind, of_, ([] : List api_Line) ++ lines⟩ : api_Journal)].length av4 (.tuple #[.slice (vA ((η91 16).1)) ((([] : List api_Line) ++ lines).length) (vC ((η91 16).1))])) :: Ins NK37 (s_.f_J ++ [(⟨w64 ((s_.f_J.length : Int) + 1), entity, p, kind, of_, ([] : List api_Line) ++ lines⟩ : api_Journal)]) (avp s_.f_J.length [(⟨w64 ((s_.f_J.length : Int) + 1), entity, p, kind, of_, ([] : List api_Line) ++ lines⟩ : api_Journal)].length av4 (.tuple #[.slice (vA ((η91 16).1)) ((([] : List api_Line) ++ lines).length) (vC ((η91 16).1))])) :: _) _ := ((H246.u3.d.u2.u2).two fun _ h1_ h2_ => Ins.append h1_ h2_).u1
                        exact r_nil (n_lp ⟨_, rfl, (.tuple #[.slice A243 ((s_.f_J ++ [(⟨w64 ((s_.f_J.length : Int) + 1), entity, p, kind, of_, ([] : List api_Line) ++ lines⟩ : api_Journal)]).length) c244, avp s_.f_J.length [(⟨w64 ((s_.f_J.length : Int) + 1), entity, p, kind, of_, ([] : List api_Line) ++ lines⟩ : api_Journal)].length av4 (.tuple #[.slice (vA ((η91 16).1)) ((([] : List api_Line) ++ lines).length) (vC ((η91 16).1))])]), rfl, H247.u1.u1⟩)
                      · intro η91 wd252 Δ253 hE248 hR249 hA250 H251
                        refine sp_op [(151, .pointer (some ⟨b1, 0, none⟩))] (ac (hE248 0 (by decide)) an) ?_
                        refine r_pure (.pointer (some ⟨b1, 0, none⟩)) rfl ?_
                        exact r_nil (n_lp ⟨_, rfl, undef, rfl, H251⟩)
                      · intro η91 wd258 Δ259 hE254 hR255 hA256 H257
                        refine sp_op [(171, .pointer (some ⟨b1, 0, none⟩))] (ac (hE254 20 (by decide)) an) ?_
                        refine r_fa FA28_0 ⟨b1, 0, none⟩ rfl rfl ?_
                        exact r_nil (n_lp ⟨_, rfl, undef, rfl, H257⟩)
                      · intro η91 wd264 Δ265 hE260 hR261 hA262 H263
                        have H263 : Hp w0 (Bx b1 28 [.slice A2 s_.f_J.length c3] :: (Δ265 ++ (Row K43 (.slice A68 y62.length c70) y62 :: Γ))) wd264 := H263
                        refine sp_op [(170, .slice (vA ((η91 19).1)) ((s_.f_J ++ [(⟨w64 ((s_.f_J.length : Int) + 1), entity, p, kind, of_, ([] : List api_Line) ++ lines⟩ : api_Journal)]).length) (vC ((η91 19).1))), (172, .pointer (some ⟨b1, 0, none⟩))] (ac (hE260 19 (by decide)) (ac (hE260 21 (by decide)) an)) ?_
                        refine r_st1 LD26 rfl rfl rfl H263 rfl ?_
                        intro wd267 H266
                        exact r_nil (n_lp ⟨_, rfl, (.tuple #[.pointer (some ⟨b1, 0, none⟩), .slice (vA ((η91 19).1)) ((s_.f_J ++ [(⟨w64 ((s_.f_J.length : Int) + 1), entity, p, kind, of_, ([] : List api_Line) ++ lines⟩ : api_Journal)]).length) (vC ((η91 19).1))]), trivial, H266⟩)
                      · intro η91 wd269 hV270 H268
                        have H271 : Hp w0 (RwN NK37 (.slice (vA ((η91 19).1)) ((s_.f_J ++ [(⟨w64 ((s_.f_J.length : Int) + 1), entity, p, kind, of_, ([] : List api_Line) ++ lines⟩ : api_Journal)]).length) (vC ((η91 19).1))) (s_.f_J ++ [(⟨w64 ((s_.f_J.length : Int) + 1), entity, p, kind, of_, ([] : List api_Line) ++ lines⟩ : api_Journal)]) (avp s_.f_J.length [(⟨w64 ((s_.f_J.length : Int) + 1), entity, p, kind, of_, ([] : List api_Line) ++ lines⟩ : api_Journal)].length av4 (.tuple #[.slice (vA ((η91 16).1)) ((([] : List api_Line) ++ lines).length) (vC ((η91 16).1))])) :: Ins NK37 (s_.f_J ++ [(⟨w64 ((s_.f_J.length : Int) + 1), entity, p, kind, of_, ([] : List api_Line) ++ lines⟩ : api_Journal)]) (avp s_.f_J.length [(⟨w64 ((s_.f_J.length : Int) + 1), entity, p, kind, of_, ([] : List api_Line) ++ lines⟩ : api_Journal)].length av4 (.tuple #[.slice (vA ((η91 16).1)) ((([] : List api_Line) ++ lines).length) (vC ((η91 16).1))])) :: Bx b1 28 [.slice (vA ((η91 19).1)) ((s_.f_J ++ [(⟨w64 ((s_.f_J.length : Int) + 1), entity, p, kind, of_, ([] : List api_Line) ++ lines⟩ : api_Journal)]).length) (vC ((η91 19).1))] :: Γ) wd269 := H268.u3.d
                        refine n_frame [(0, .pointer (some ⟨b1, 0, none⟩))] (ac rfl an) ?_
                        refine n_sq ?_
                        refine st_seq ?_
                        refine st_region ?_
                        refine r_pure (.pointer (some ⟨b1, 0, none⟩)) rfl ?_
                        refine r_pure (.pointer (some ⟨b1, 0, none⟩)) rfl ?_
                        refine r_fa FA28_0 ⟨b1, 0, none⟩ rfl rfl ?_
                        refine r_ld1 (.slice (vA ((η91 19).1)) ((s_.f_J ++ [(⟨w64 ((s_.f_J.length : Int) + 1), entity, p, kind, of_, ([] : List api_Line) ++ lines⟩ : api_Journal)]).length) (vC ((η91 19).1))) LD26 rfl ((H271.g2).cell _ rfl) ?_
                        refine r_len Try.underlying26 rfl ?_
                        refine r_pure (.int .i64 ((s_.f_J ++ [(⟨w64 ((s_.f_J.length : Int) + 1), entity, p, kind, of_, ([] : List api_Line) ++ lines⟩ : api_Journal)]).length : Int)) rfl ?_
                        refine r_pure (.int .i64 0) rfl ?_
                        refine r_seq ?_
                        obtain ⟨rfl, rfl, rfl⟩ := some_inj3 hm
                        refine st_ret2 rfl rfl (Nat.le_of_ble_eq_true rfl) (Nat.le_of_ble_eq_true rfl) rfl rfl ?_
                        exact ⟨(vA ((η91 19).1)), (s_.f_J ++ [(⟨w64 ((s_.f_J.length : Int) + 1), entity, p, kind, of_, ([] : List api_Line) ++ lines⟩ : api_Journal)]).length, (vC ((η91 19).1)), (avp s_.f_J.length [(⟨w64 ((s_.f_J.length : Int) + 1), entity, p, kind, of_, ([] : List api_Line) ++ lines⟩ : api_Journal)].length av4 (.tuple #[.slice (vA ((η91 16).1)) ((([] : List api_Line) ++ lines).length) (vC ((η91 16).1))])), rfl, H271.u1.u1.u2⟩
                    · rw [scutageref01_Store_Post.l2] at hm
                      have hb85 := range_in hxs77 hi78
                      obtain ⟨h086, h187, hj88⟩ := range_ix hxs77 hi78
                      have hnx89 := range_next hxs77 hi78 hlim90
                      refine st_seq ?_
                      refine st_region ?_
                      refine r_pure (.bool (decide (i75 < (y62.length : Int)))) rfl ?_
                      refine r_seq ?_
                      refine st_seq ?_
                      refine st_condt hb85 rfl ?_
                      refine st_skip ?_
                      refine n_sq ?_
                      refine st_seq ?_
                      refine st_block ?_
                      refine st_seq ?_
                      refine st_region ?_
                      have hA272 := (H71.g3.rd).adO hj88
                      refine r_ix IX34 rfl rfl hA272 h086 h187 ?_
                      refine r_ldA [.int .i64 y80.Account, .int .i64 y80.Amount] LD43 rfl rfl ((H71.g3.rd).csA hA272 hj88) ?_
                      refine r_alloc [.int .i64 0, .int .i64 0] Try.zeroValue43 H71 rfl ?_
                      intro b273 wd275 H274
                      refine r_stA [.int .i64 y80.Account, .int .i64 y80.Amount] LD43 rfl rfl rfl rfl H274 (Nat.le_of_ble_eq_true rfl) rfl ?_
                      intro wd277 H276
                      refine r_seq ?_
                      refine st_seq ?_
                      refine st_region ?_
                      refine r_fa FA43_1 ⟨b273, 1, none⟩ rfl rfl ?_
                      refine r_ld1 (.int .i64 y80.Amount) LD3 rfl ((H276.g0).cell _ rfl) ?_
                      obtain ⟨y278, hy279, hm⟩ := bind_some hm
                      refine r_callf Try.call30 (scutageref01_Money_ok y80.Amount y278 H276 hy279) ?_
                      rintro e281 wd280 ⟨rfl, H283⟩
                      refine ⟨_, rfl, ?_⟩
                      refine r_pure (.bool (!y278)) rfl ?_
                      refine r_seq ?_
                      rcases ite_some hm with ⟨hb284, hm⟩ | ⟨hb284, hm⟩
                      · refine st_condt hb284 rfl ?_
                        refine st_seq ?_
                        refine st_region ?_
                        refine r_pure (.int .i64 0) rfl ?_
                        refine r_pure (.int .i64 6) rfl ?_
                        refine r_seq ?_
                        have hq_ := Option.some.inj hm
                        subst hq_
                        obtain ⟨rfl, rfl, rfl⟩ := some_inj3 (show some ((0, 6, (⟨s_.f_J⟩ : scutageref01_Store)) : (Int × Int × scutageref01_Store)) = some (r0_, r1_, r2_) from hm72)
                        refine st_ret2 rfl rfl (Nat.le_of_ble_eq_true rfl) (Nat.le_of_ble_eq_true rfl) rfl rfl ?_
                        exact ⟨A2, s_.f_J.length, c3, av4, rfl, H283.d.u3.d.u1.u1.u2⟩
                      · refine st_condf hb284 rfl ?_
                        refine st_skip ?_
                        refine n_bl ?_
                        refine n_sq ?_
                        refine st_region ?_
                        refine r_pure (.int .i64 (w64 (i75 + 1))) rfl ?_
                        refine r_pure (.int .i64 (w64 (i75 + 1))) rfl ?_
                        refine r_nil ?_
                        refine n_round (IH83 _ _ rfl _ _ _ ⟨i75 + 1, dn76 ++ [y80], rfl, range_more hxs77, range_len hi78, upk (ac rfl (ac rfl (ac rfl (ac rfl (ac rfl (ac rfl (ac rfl (ac rfl (ac hnx89 an))))))))), H283.d.u3.u3.u3.u3⟩ hm)
            · rw [scutageref01_Store_Post.l1] at hm
              have hb32 := range_in hxs24 hi25
              obtain ⟨h033, h134, hj35⟩ := range_ix hxs24 hi25
              have hnx36 := range_next hxs24 hi25 hlim37
              refine st_seq ?_
              refine st_region ?_
              refine r_pure (.bool (decide (i22 < (s_.f_J.length : Int)))) rfl ?_
              refine r_seq ?_
              refine st_seq ?_
              refine st_condt hb32 rfl ?_
              refine st_skip ?_
              refine n_sq ?_
              refine st_seq ?_
              refine st_block ?_
              refine st_seq ?_
              refine st_region ?_
              have hA311 := (H18.g0.rd).adO hj35
              refine r_ix IX26 rfl rfl hA311 h033 h134 ?_
              refine r_ldA [.int .i64 y27.Seq, .string y27.Entity, .int .i64 y27.Period, .int .i64 y27.Kind, .int .i64 y27.Of, .slice (((adv av4) (Int.toNat i22)).1) y27.Lines.length (((adv av4) (Int.toNat i22)).2)] LD37 rfl rfl ((H18.g0.rd).csA hA311 hj35) ?_
              refine r_alloc [.int .i64 0, .string ⟨#[]⟩, .int .i64 0, .int .i64 0, .int .i64 0, .slice none 0 0] Try.zeroValue37 H18 rfl ?_
              intro b312 wd314 H313
              refine r_stA [.int .i64 y27.Seq, .string y27.Entity, .int .i64 y27.Period, .int .i64 y27.Kind, .int .i64 y27.Of, .slice (((adv av4) (Int.toNat i22)).1) y27.Lines.length (((adv av4) (Int.toNat i22)).2)] LD37 rfl rfl rfl rfl H313 (Nat.le_of_ble_eq_true rfl) rfl ?_
              intro wd316 H315
              refine r_seq ?_
              refine st_seq ?_
              refine st_region ?_
              refine r_fa FA37_4 ⟨b312, 4, none⟩ rfl rfl ?_
              refine r_ld1 (.int .i64 y27.Of) LD3 rfl ((H315.g0).cell _ rfl) ?_
              refine r_pure (.int .i64 of_) rfl ?_
              refine r_pure (.bool (y27.Of == of_)) rfl ?_
              refine r_seq ?_
              rcases ite_some hm with ⟨hb317, hm⟩ | ⟨hb317, hm⟩
              · refine st_condt hb317 rfl ?_
                refine st_seq ?_
                refine st_region ?_
                refine r_pure (.int .i64 0) rfl ?_
                refine r_pure (.int .i64 4) rfl ?_
                refine r_seq ?_
                have hq_ := Option.some.inj hm
                subst hq_
                obtain ⟨rfl, rfl, rfl⟩ := some_inj3 (show some ((0, 4, (⟨s_.f_J⟩ : scutageref01_Store)) : (Int × Int × scutageref01_Store)) = some (r0_, r1_, r2_) from hm19)
                refine st_ret2 rfl rfl (Nat.le_of_ble_eq_true rfl) (Nat.le_of_ble_eq_true rfl) rfl rfl ?_
                exact ⟨A2, s_.f_J.length, c3, av4, rfl, H315.d.u1.u1.u2⟩
              · refine st_condf hb317 rfl ?_
                refine st_skip ?_
                refine n_bl ?_
                refine n_sq ?_
                refine st_region ?_
                refine r_pure (.int .i64 (w64 (i22 + 1))) rfl ?_
                refine r_pure (.int .i64 (w64 (i22 + 1))) rfl ?_
                refine r_nil ?_
                refine n_round (IH30 _ _ rfl _ _ _ ⟨i22 + 1, dn23 ++ [y27], rfl, range_more hxs24, range_len hi25, upk (ac rfl (ac rfl (ac rfl (ac rfl (ac rfl (ac rfl (ac rfl (ac rfl (ac hnx36 an))))))))), H315.d.u2.u2.u2⟩ hm)
      · refine st_condf hb14 rfl ?_
        refine st_skip ?_
        refine n_sq ?_
        refine st_seq ?_
        refine st_cut (fun ρ w => ∃ q326 : Bool, (∃ base, ρ = updl base [(0, .pointer (some ⟨b1, 0, none⟩)), (1, .string entity), (2, .int .i64 p), (3, .int .i64 kind), (4, .int .i64 of_), (5, .slice A5 lines.length c6), (127, .bool q326)]) ∧ Hp w0 (RwN NK37 (.slice A2 s_.f_J.length c3) s_.f_J av4 :: Ins NK37 s_.f_J av4 :: Bx b1 28 [.slice A2 s_.f_J.length c3] :: Γ) w ∧ scutageref01_Store_Post.j4 s_ entity lines p kind of_ q326 = some (r0_, r1_, r2_)) ?_ ?_
        · refine st_region ?_
          refine r_pure (.slice A5 lines.length c6) rfl ?_
          obtain ⟨y573, hy574, hm⟩ := bind_some hm
          refine r_callf Try.call26 (scutageref01_Check_ok lines A5 lines.length c6 rfl hc7 (fun _ H => (hv8 _ H.d.d.d)) y573 H12 hy574) ?_
          rintro e576 wd575 ⟨rfl, H578⟩
          refine ⟨_, rfl, ?_⟩
          refine r_pure (.bool (!y573)) rfl ?_
          refine r_pure (.bool (!y573)) rfl ?_
          rcases ite_some hm with ⟨hb579, hm⟩ | ⟨hb579, hm⟩
          · refine r_not (wn_f rfl rfl (by decide) rfl hb579) ?_
            refine r_not (wn_f rfl rfl (by decide) rfl hb579) ?_
            refine r_not (wn_f rfl rfl (by decide) rfl hb579) ?_
            refine r_not (wn_u rfl rfl (by decide) rfl rfl) ?_
            refine r_not (wn_u rfl rfl (by decide) rfl rfl) ?_
            refine r_not (wn_u rfl rfl (by decide) rfl rfl) ?_
            refine r_not (wn_u rfl rfl (by decide) rfl rfl) ?_
            refine r_not (wn_u rfl rfl (by decide) rfl rfl) ?_
            refine r_not (wn_u rfl rfl (by decide) rfl rfl) ?_
            refine r_not (wn_u rfl rfl (by decide) rfl rfl) ?_
            refine r_not (wn_u rfl rfl (by decide) rfl rfl) ?_
            refine r_not (wn_u rfl rfl (by decide) rfl rfl) ?_
            refine r_not (wn_u rfl rfl (by decide) rfl rfl) ?_
            refine r_not (wn_u rfl rfl (by decide) rfl rfl) ?_
            refine r_not (wn_u rfl rfl (by decide) rfl rfl) ?_
            refine r_not (wn_u rfl rfl (by decide) rfl rfl) ?_
            refine r_not (wn_f rfl rfl (by decide) rfl hb579) ?_
            refine r_pick_t (.bool true) hb579 rfl rfl ?_
            refine r_nil ?_
            refine n_cut ⟨true, upk (ac rfl (ac rfl (ac rfl (ac rfl (ac rfl (ac rfl (ac rfl an))))))), H578.u2.u2.u2, hm⟩
          · refine r_pure (.int .i64 kind) rfl ?_ (wn_t rfl rfl (by decide) rfl hb579)
            refine r_pure (.bool (kind == 2)) rfl ?_ (wn_t rfl rfl (by decide) rfl hb579)
            refine r_pure (.bool (kind == 2)) rfl ?_ (wn_t rfl rfl (by decide) rfl hb579)
            refine r_not (wn_f rfl rfl (by decide) rfl hb14) ?_
            refine r_not (wn_f rfl rfl (by decide) rfl hb14) ?_
            refine r_not (wn_f rfl rfl (by decide) rfl hb14) ?_
            refine r_not (wn_f rfl rfl (by decide) rfl hb14) ?_
            refine r_not (wn_f rfl rfl (by decide) rfl hb14) ?_
            refine r_not (wn_f rfl rfl (by decide) rfl hb14) ?_
            refine r_not (wn_f rfl rfl (by decide) rfl hb14) ?_
            refine r_not (wn_f rfl rfl (by decide) rfl hb14) ?_
            refine r_not (wn_f rfl rfl (by decide) rfl hb14) ?_
            refine r_not (wn_f rfl rfl (by decide) rfl hb14) ?_
            refine r_not (wn_f rfl rfl (by decide) rfl hb14) ?_
            refine r_not (wn_f rfl rfl (by decide) rfl hb14) ?_
            refine r_not (wn_f rfl rfl (by decide) rfl hb14) ?_
            refine r_pick_f (.bool false) hb14 rfl rfl ?_ (wn_t rfl rfl (by decide) rfl hb579)
            refine r_pick_f (.bool false) hb579 rfl rfl ?_
            refine r_nil ?_
            refine n_cut ⟨false, upk (ac rfl (ac rfl (ac rfl (ac rfl (ac rfl (ac rfl (ac rfl an))))))), H578.u2.u2.u2, hm⟩
        · rintro ρ w ⟨q326, ⟨base, rfl⟩, H327, hm⟩
          unfold scutageref01_Store_Post.j4 at hm
          rcases ite_some hm with ⟨hb328, hm⟩ | ⟨hb328, hm⟩
          · refine st_condt hb328 rfl ?_
            refine st_seq ?_
            refine st_region ?_
            refine r_pure (.int .i64 0) rfl ?_
            refine r_pure (.int .i64 2) rfl ?_
            refine r_seq ?_
            obtain ⟨rfl, rfl, rfl⟩ := some_inj3 hm
            refine st_ret2 rfl rfl (Nat.le_of_ble_eq_true rfl) (Nat.le_of_ble_eq_true rfl) rfl rfl ?_
            exact ⟨A2, s_.f_J.length, c3, av4, rfl, H327.u1.u1.u2⟩
          · refine st_condf hb328 rfl ?_
            refine st_skip ?_
            refine n_sq ?_
            refine st_seq ?_
            refine st_seq ?_
            refine st_region ?_
            refine r_pure (.pointer (some ⟨b1, 0, none⟩)) rfl ?_
            refine r_pure (.pointer (some ⟨b1, 0, none⟩)) rfl ?_
            refine r_fa FA28_0 ⟨b1, 0, none⟩ rfl rfl ?_
            refine r_ld1 (.slice A2 s_.f_J.length c3) LD26 rfl ((H327.g2).cell _ rfl) ?_
            refine r_len Try.underlying26 rfl ?_
            refine r_pure (.bool (decide ((s_.f_J.length : Int) ≥ 200))) rfl ?_
            refine r_seq ?_
            rcases ite_some hm with ⟨hb329, hm⟩ | ⟨hb329, hm⟩
            · refine st_condt hb329 rfl ?_
              refine st_seq ?_
              refine st_region ?_
              refine r_pure (.int .i64 0) rfl ?_
              refine r_pure (.int .i64 5) rfl ?_
              refine r_seq ?_
              obtain ⟨rfl, rfl, rfl⟩ := some_inj3 hm
              refine st_ret2 rfl rfl (Nat.le_of_ble_eq_true rfl) (Nat.le_of_ble_eq_true rfl) rfl rfl ?_
              exact ⟨A2, s_.f_J.length, c3, av4, rfl, H327.u1.u1.u2⟩
            · refine st_condf hb329 rfl ?_
              refine st_skip ?_
              refine n_sq ?_
              refine st_seq ?_
              refine st_seq ?_
              refine st_region ?_
              refine r_pure (.pointer (some ⟨b1, 0, none⟩)) rfl ?_
              refine r_pure (.string entity) rfl ?_
              obtain ⟨y330, hy331, hm⟩ := bind_some hm
              refine r_callf Try.call29 (scutageref01_Store_all_ok b1 (⟨s_.f_J⟩ : scutageref01_Store) A2 s_.f_J.length c3 rfl (((H327).g0).cap) (adv av4) (fun _ H => (H.g0.rd)) (fun j x hj => ⟨((H327).g1 j x hj).1, fun u H => (H.g1 j x hj).2⟩) (fun _ H => (H.g2)) entity 399 y330 H327 hy331) ?_
              rintro e333 wd332 ⟨A336, n337, c338, rfl, H335⟩
              obtain rfl := (H335.g0).leneq
              refine ⟨_, rfl, ?_⟩
              obtain ⟨hf340, hm⟩ := gd_some hm
              have H339 := H335.add (A := Row K43 (.slice none 0 0) []) Row.nil
              refine r_append (K := K43) (ys := y330) AP34 rfl rfl rfl rfl H339 (H339.g1.src) (fit_le hf340 (by decide)) ?_
              intro A341 c342 wd343 H344
              refine r_pure (.slice A5 lines.length c6) rfl ?_
              obtain ⟨hf345, hm⟩ := gd_some hm
              refine r_append (K := K43) (ys := lines) AP34 rfl rfl rfl rfl H344 ((hv8 _ H344.d.d.d.d.d).src) (fit_le hf345 (by decide)) ?_
              intro A346 c347 wd348 H349
              obtain ⟨y350, hy351, hm⟩ := bind_some hm
              refine r_callf Try.call28 (scutageref01_Merge_ok ((([] : List api_Line) ++ y330) ++ lines) A346 (((([] : List api_Line) ++ y330) ++ lines).length) c347 rfl (((H349).g0).cap) (fun _ H => (H.g0.rd)) y350 H349 hy351) ?_
              rintro e353 wd352 ⟨A356, n357, c358, rfl, H355⟩
              obtain rfl := (H355.g0).leneq
              refine ⟨_, rfl, ?_⟩
              refine r_len Try.underlying34 rfl ?_
              refine r_pure (.int .i64 0) rfl ?_
              refine r_seq ?_
              refine st_block ?_
              have hlim378 := (H355.g0.rd).lim
              obtain ⟨tl361, hl362, hm360⟩ := bind_some hm
              refine st_loopL (scutageref01_Store_Post.l3 s_) (fun ys367 s ρ w => ∃ i363 : Int, ∃ dn364 : List api_Line, i363 = s ∧ y350 = dn364 ++ ys367 ∧ i363 = (dn364.length : Int) ∧ (∃ base, ρ = updl base [(0, .pointer (some ⟨b1, 0, none⟩)), (1, .string entity), (2, .int .i64 p), (3, .int .i64 kind), (4, .int .i64 of_), (5, .slice A5 lines.length c6), (140, .slice A356 y350.length c358), (141, .int .i64 (y350.length : Int)), (142, .int .i64 i363)]) ∧ Hp w0 (RwN NK37 (.slice A2 s_.f_J.length c3) s_.f_J av4 :: Ins NK37 s_.f_J av4 :: Bx b1 28 [.slice A2 s_.f_J.length c3] :: Row K43 (.slice A356 y350.length c358) y350 :: Γ) w) hl362 ⟨0, [], rfl, rfl, rfl, upk (ac rfl (ac rfl (ac rfl (ac rfl (ac rfl (ac rfl (ac rfl (ac rfl (ac rfl an))))))))), H355.u1.d.u1.d.u3.u3.u3⟩ ?_
              rintro m ys367 IH371 s ρ w ⟨i363, dn364, rfl, hxs365, hi366, ⟨base, rfl⟩, H359⟩ hm
              rcases ys367 with _ | ⟨y368, ys367⟩
              · rw [scutageref01_Store_Post.l3] at hm
                have hb372 := range_end hxs365 hi366
                refine st_seq ?_
                refine st_region ?_
                refine r_pure (.bool (decide (i363 < (y350.length : Int)))) rfl ?_
                refine r_seq ?_
                refine st_seq ?_
                refine st_condf hb372 rfl ?_
                have hq_ := Option.some.inj hm
                refine st_exit rfl ?_
                subst hq_
                refine n_sq ?_
                refine st_seq ?_
                obtain ⟨hf381, hm⟩ := gd_some hm360
                obtain ⟨hf391, hm⟩ := gd_some hm
                refine Flow.run' RA10_22 RW10_22 ((fun η379 v => v.1 = .pointer (some ⟨b1, 0, none⟩)) :: (fun η379 v => v.1 = .pointer (some ⟨b1, 0, none⟩)) :: (fun η379 v => v.1 = .pointer (some ⟨b1, 0, none⟩)) :: (fun η379 v => v.1 = .pointer (some ⟨b1, 0, none⟩)) :: (fun η379 v => v.1 = .slice A2 s_.f_J.length c3) :: (fun η379 v => v.1 = .pointer (some ⟨b1, 0, none⟩)) :: (fun η379 v => v.1 = .pointer (some ⟨b1, 0, none⟩)) :: (fun η379 v => v.1 = .pointer (some ⟨b1, 0, none⟩)) :: (fun η379 v => v.1 = .slice A2 s_.f_J.length c3) :: (fun η379 v => v.1 = .int .i64 (s_.f_J.length : Int)) :: (fun η379 v => v.1 = .int .i64 (w64 ((s_.f_J.length : Int) + 1))) :: (fun η379 v => v.1 = .string entity) :: (fun η379 v => v.1 = .int .i64 p) :: (fun η379 v => v.1 = .int .i64 kind) :: (fun η379 v => v.1 = .int .i64 of_) :: (fun η379 v => v.1 = .slice A5 lines.length c6) :: (fun η379 v => v.1 = .slice (vA (v.1)) ((([] : List api_Line) ++ lines).length) (vC (v.1))) :: (fun η379 v => v.1 = .agg #[.int .i64 (w64 ((s_.f_J.length : Int) + 1)), .string entity, .int .i64 p, .int .i64 kind, .int .i64 of_, .slice (vA ((η379 16).1)) ((([] : List api_Line) ++ lines).length) (vC ((η379 16).1))]) :: (fun η379 v => v.1 = .slice (some ⟨(oA (vA (v.1))).block, 0, none⟩) 1 1) :: (fun η379 v => v.1 = .slice (vA (v.1)) ((s_.f_J ++ [(⟨w64 ((s_.f_J.length : Int) + 1), entity, p, kind, of_, ([] : List api_Line) ++ lines⟩ : api_Journal)]).length) (vC (v.1))) :: (fun η379 v => v.1 = .pointer (some ⟨b1, 0, none⟩)) :: (fun η379 v => v.1 = .pointer (some ⟨b1, 0, none⟩)) :: (fun _ _ => True) :: []) [⟨none, (some 19), fun η379 => RwN NK37 (.slice A2 s_.f_J.length c3) s_.f_J av4⟩, ⟨none, (some 19), fun η379 => Ins NK37 s_.f_J av4⟩, ⟨none, (some 22), fun η379 => Bx b1 28 [.slice A2 s_.f_J.length c3]⟩, ⟨(some 16), (some 18), fun η379 => Row K43 (.slice (vA ((η379 16).1)) ((([] : List api_Line) ++ lines).length) (vC ((η379 16).1))) (([] : List api_Line) ++ lines)⟩, ⟨(some 18), (some 19), fun η379 => RwN NK37 (.slice (some ⟨(oA (vA ((η379 18).1))).block, 0, none⟩) 1 1) [(⟨w64 ((s_.f_J.length : Int) + 1), entity, p, kind, of_, ([] : List api_Line) ++ lines⟩ : api_Journal)] (.tuple #[.slice (vA ((η379 16).1)) ((([] : List api_Line) ++ lines).length) (vC ((η379 16).1))])⟩, ⟨(some 18), (some 19), fun η379 => Ins NK37 [(⟨w64 ((s_.f_J.length : Int) + 1), entity, p, kind, of_, ([] : List api_Line) ++ lines⟩ : api_Journal)] (.tuple #[.slice (vA ((η379 16).1)) ((([] : List api_Line) ++ lines).length) (vC ((η379 16).1))])⟩, ⟨(some 19), none, fun η379 => RwN NK37 (.slice (vA ((η379 19).1)) ((s_.f_J ++ [(⟨w64 ((s_.f_J.length : Int) + 1), entity, p, kind, of_, ([] : List api_Line) ++ lines⟩ : api_Journal)]).length) (vC ((η379 19).1))) (s_.f_J ++ [(⟨w64 ((s_.f_J.length : Int) + 1), entity, p, kind, of_, ([] : List api_Line) ++ lines⟩ : api_Journal)]) (avp s_.f_J.length [(⟨w64 ((s_.f_J.length : Int) + 1), entity, p, kind, of_, ([] : List api_Line) ++ lines⟩ : api_Journal)].length av4 (.tuple #[.slice (vA ((η379 16).1)) ((([] : List api_Line) ++ lines).length) (vC ((η379 16).1))]))⟩, ⟨(some 19), none, fun η379 => Ins NK37 (s_.f_J ++ [(⟨w64 ((s_.f_J.length : Int) + 1), entity, p, kind, of_, ([] : List api_Line) ++ lines⟩ : api_Journal)]) (avp s_.f_J.length [(⟨w64 ((s_.f_J.length : Int) + 1), entity, p, kind, of_, ([] : List api_Line) ++ lines⟩ : api_Journal)].length av4 (.tuple #[.slice (vA ((η379 16).1)) ((([] : List api_Line) ++ lines).length) (vC ((η379 16).1))]))⟩, ⟨(some 22), none, fun η379 => Bx b1 28 [.slice (vA ((η379 19).1)) ((s_.f_J ++ [(⟨w64 ((s_.f_J.length : Int) + 1), entity, p, kind, of_, ([] : List api_Line) ++ lines⟩ : api_Journal)]).length) (vC ((η379 19).1))]⟩] rfl (by kernel_rfl) (by kernel_rfl) H359.u2.u2.u2 ⟨?_, ?_, ?_, ?_, ?_, ?_, ?_, ?_, ?_, ?_, ?_, ?_, ?_, ?_, ?_, ?_, ?_, ?_, ?_, ?_, ?_, ?_, ?_, trivial⟩ ?_
                · intro η379 wd403 Δ404 hE399 hR400 hA401 H402
                  refine sp_op [(0, .pointer (some ⟨b1, 0, none⟩))] (ac rfl an) ?_
                  refine r_pure (.pointer (some ⟨b1, 0, none⟩)) rfl ?_
                  exact r_nil (n_lp ⟨_, rfl, undef, rfl, H402⟩)
                · intro η379 wd409 Δ410 hE405 hR406 hA407 H408
                  refine sp_op [(0, .pointer (some ⟨b1, 0, none⟩))] (ac rfl an) ?_
                  refine r_pure (.pointer (some ⟨b1, 0, none⟩)) rfl ?_
                  exact r_nil (n_lp ⟨_, rfl, undef, rfl, H408⟩)
                · intro η379 wd415 Δ416 hE411 hR412 hA413 H414
                  refine sp_op [(152, .pointer (some ⟨b1, 0, none⟩))] (ac (hE411 1 (by decide)) an) ?_
                  refine r_pure (.pointer (some ⟨b1, 0, none⟩)) rfl ?_
                  exact r_nil (n_lp ⟨_, rfl, undef, rfl, H414⟩)
                · intro η379 wd421 Δ422 hE417 hR418 hA419 H420
                  refine sp_op [(153, .pointer (some ⟨b1, 0, none⟩))] (ac (hE417 2 (by decide)) an) ?_
                  refine r_fa FA28_0 ⟨b1, 0, none⟩ rfl rfl ?_
                  exact r_nil (n_lp ⟨_, rfl, undef, rfl, H420⟩)
                · intro η379 wd427 Δ428 hE423 hR424 hA425 H426
                  have H426 : Hp w0 ((Δ428 ++ (Row K43 (.slice A356 y350.length c358) y350 :: Γ))) wd427 := H426
                  refine sp_op [(154, .pointer (some ⟨b1, 0, none⟩))] (ac (hE423 3 (by decide)) an) ?_
                  refine r_ld1 (.slice A2 s_.f_J.length c3) LD26 rfl (((show (Bx b1 28 [.slice A2 s_.f_J.length c3]) _ from (H426).memr (hR424 _ (List.mem_of_getElem? (i := 2) rfl) rfl))).cell _ rfl) ?_
                  exact r_nil (n_lp ⟨_, rfl, undef, rfl, H426⟩)
                · intro η379 wd433 Δ434 hE429 hR430 hA431 H432
                  refine sp_op [(0, .pointer (some ⟨b1, 0, none⟩))] (ac rfl an) ?_
                  refine r_pure (.pointer (some ⟨b1, 0, none⟩)) rfl ?_
                  exact r_nil (n_lp ⟨_, rfl, undef, rfl, H432⟩)
                · intro η379 wd439 Δ440 hE435 hR436 hA437 H438
                  refine sp_op [(156, .pointer (some ⟨b1, 0, none⟩))] (ac (hE435 5 (by decide)) an) ?_
                  refine r_pure (.pointer (some ⟨b1, 0, none⟩)) rfl ?_
                  exact r_nil (n_lp ⟨_, rfl, undef, rfl, H438⟩)
                · intro η379 wd445 Δ446 hE441 hR442 hA443 H444
                  refine sp_op [(157, .pointer (some ⟨b1, 0, none⟩))] (ac (hE441 6 (by decide)) an) ?_
                  refine r_fa FA28_0 ⟨b1, 0, none⟩ rfl rfl ?_
                  exact r_nil (n_lp ⟨_, rfl, undef, rfl, H444⟩)
                · intro η379 wd451 Δ452 hE447 hR448 hA449 H450
                  have H450 : Hp w0 ((Δ452 ++ (Row K43 (.slice A356 y350.length c358) y350 :: Γ))) wd451 := H450
                  refine sp_op [(158, .pointer (some ⟨b1, 0, none⟩))] (ac (hE447 7 (by decide)) an) ?_
                  refine r_ld1 (.slice A2 s_.f_J.length c3) LD26 rfl (((show (Bx b1 28 [.slice A2 s_.f_J.length c3]) _ from (H450).memr (hR448 _ (List.mem_of_getElem? (i := 2) rfl) rfl))).cell _ rfl) ?_
                  exact r_nil (n_lp ⟨_, rfl, undef, rfl, H450⟩)
                · intro η379 wd457 Δ458 hE453 hR454 hA455 H456
                  refine sp_op [(159, .slice A2 s_.f_J.length c3)] (ac (hE453 8 (by decide)) an) ?_
                  refine r_len Try.underlying26 rfl ?_
                  exact r_nil (n_lp ⟨_, rfl, undef, rfl, H456⟩)
                · intro η379 wd463 Δ464 hE459 hR460 hA461 H462
                  refine sp_op [(160, .int .i64 (s_.f_J.length : Int))] (ac (hE459 9 (by decide)) an) ?_
                  refine r_pure (.int .i64 (w64 ((s_.f_J.length : Int) + 1))) rfl ?_
                  exact r_nil (n_lp ⟨_, rfl, undef, rfl, H462⟩)
                · intro η379 wd469 Δ470 hE465 hR466 hA467 H468
                  refine sp_op [(1, .string entity)] (ac rfl an) ?_
                  refine r_pure (.string entity) rfl ?_
                  exact r_nil (n_lp ⟨_, rfl, undef, rfl, H468⟩)
                · intro η379 wd475 Δ476 hE471 hR472 hA473 H474
                  refine sp_op [(2, .int .i64 p)] (ac rfl an) ?_
                  refine r_pure (.int .i64 p) rfl ?_
                  exact r_nil (n_lp ⟨_, rfl, undef, rfl, H474⟩)
                · intro η379 wd481 Δ482 hE477 hR478 hA479 H480
                  refine sp_op [(3, .int .i64 kind)] (ac rfl an) ?_
                  refine r_pure (.int .i64 kind) rfl ?_
                  exact r_nil (n_lp ⟨_, rfl, undef, rfl, H480⟩)
                · intro η379 wd487 Δ488 hE483 hR484 hA485 H486
                  refine sp_op [(4, .int .i64 of_)] (ac rfl an) ?_
                  refine r_pure (.int .i64 of_) rfl ?_
                  exact r_nil (n_lp ⟨_, rfl, undef, rfl, H486⟩)
                · intro η379 wd493 Δ494 hE489 hR490 hA491 H492
                  refine sp_op [(5, .slice A5 lines.length c6)] (ac rfl an) ?_
                  refine r_pure (.slice A5 lines.length c6) rfl ?_
                  exact r_nil (n_lp ⟨_, rfl, undef, rfl, H492⟩)
                · intro η379 wd499 Δ500 hE495 hR496 hA497 H498
                  have H498 : Hp w0 ((Δ500 ++ (Row K43 (.slice A356 y350.length c358) y350 :: Γ))) wd499 := H498
                  refine sp_op [(166, .slice A5 lines.length c6)] (ac (hE495 15 (by decide)) an) ?_
                  have H501 := H498.add (A := Row K43 (.slice none 0 0) []) Row.nil
                  refine r_append (K := K43) (ys := lines) AP34 rfl rfl rfl rfl H501 ((hv8 _ (H501.d).tl.d).src) (fit_le hf381 (by decide)) ?_
                  intro A503 c504 wd505 H506
                  exact r_nil (n_lp ⟨_, rfl, (.tuple #[.slice A503 ((([] : List api_Line) ++ lines).length) c504]), rfl, H506⟩)
                · intro η379 wd511 Δ512 hE507 hR508 hA509 H510
                  refine sp_op [(161, .int .i64 (w64 ((s_.f_J.length : Int) + 1))), (162, .string entity), (163, .int .i64 p), (164, .int .i64 kind), (165, .int .i64 of_), (167, .slice (vA ((η379 16).1)) ((([] : List api_Line) ++ lines).length) (vC ((η379 16).1)))] (ac (hE507 10 (by decide)) (ac (hE507 11 (by decide)) (ac (hE507 12 (by decide)) (ac (hE507 13 (by decide)) (ac (hE507 14 (by decide)) (ac (hE507 16 (by decide)) an)))))) ?_
                  refine r_build [.int .i64 (w64 ((s_.f_J.length : Int) + 1)), .string entity, .int .i64 p, .int .i64 kind, .int .i64 of_, .slice (vA ((η379 16).1)) ((([] : List api_Line) ++ lines).length) (vC ((η379 16).1))] FL37 (by kernel_rfl) ?_
                  exact r_nil (n_lp ⟨_, rfl, undef, rfl, H510⟩)
                · intro η379 wd517 Δ518 hE513 hR514 hA515 H516
                  have H516 : Hp w0 (Row K43 (.slice (vA ((η379 16).1)) ((([] : List api_Line) ++ lines).length) (vC ((η379 16).1))) (([] : List api_Line) ++ lines) :: (Δ518 ++ (Row K43 (.slice A356 y350.length c358) y350 :: Γ))) wd517 := H516
                  refine sp_op [(168, .agg #[.int .i64 (w64 ((s_.f_J.length : Int) + 1)), .string entity, .int .i64 p, .int .i64 kind, .int .i64 of_, .slice (vA ((η379 16).1)) ((([] : List api_Line) ++ lines).length) (vC ((η379 16).1))])] (ac (hE513 17 (by decide)) an) ?_
                  refine r_buildSlice (K := NK37.kp) [((⟨w64 ((s_.f_J.length : Int) + 1), entity, p, kind, of_, ([] : List api_Line) ++ lines⟩ : api_Journal), ((vA ((η379 16).1)), (vC ((η379 16).1))))] EL26 rfl rfl rfl (by decide) (by decide) rfl H516 ?_
                  intro b519 wd521 H520
                  have H522 : Hp w0 (Ins NK37 [(⟨w64 ((s_.f_J.length : Int) + 1), entity, p, kind, of_, ([] : List api_Line) ++ lines⟩ : api_Journal)] (.tuple #[.slice (vA ((η379 16).1)) ((([] : List api_Line) ++ lines).length) (vC ((η379 16).1))]) :: _) _ := (H520.u1).imp fun _ h_ => Ins.one (N := NK37) (x := (⟨w64 ((s_.f_J.length : Int) + 1), entity, p, kind, of_, ([] : List api_Line) ++ lines⟩ : api_Journal)) h_
                  have H523 : Hp w0 (RwN NK37 (.slice (some ⟨b519, 0, none⟩) 1 1) [(⟨w64 ((s_.f_J.length : Int) + 1), entity, p, kind, of_, ([] : List api_Line) ++ lines⟩ : api_Journal)] (.tuple #[.slice (vA ((η379 16).1)) ((([] : List api_Line) ++ lines).length) (vC ((η379 16).1))]) :: Ins NK37 [(⟨w64 ((s_.f_J.length : Int) + 1), entity, p, kind, of_, ([] : List api_Line) ++ lines⟩ : api_Journal)] (.tuple #[.slice (vA ((η379 16).1)) ((([] : List api_Line) ++ lines).length) (vC ((η379 16).1))]) :: _) _ := H522.u1.imp fun _ h_ => RwN.one (m := (([] : List api_Line) ++ lines).length) h_
                  exact r_nil (n_lp ⟨_, rfl, (.tuple #[.slice (some ⟨b519, 0, none⟩) 1 1, .tuple #[.slice (vA ((η379 16).1)) ((([] : List api_Line) ++ lines).length) (vC ((η379 16).1))]]), rfl, H523.u1.u1⟩)
                · intro η379 wd528 Δ529 hE524 hR525 hA526 H527
                  have H527 : Hp w0 (RwN NK37 (.slice A2 s_.f_J.length c3) s_.f_J av4 :: Ins NK37 s_.f_J av4 :: RwN NK37 (.slice (some ⟨(oA (vA ((η379 18).1))).block, 0, none⟩) 1 1) [(⟨w64 ((s_.f_J.length : Int) + 1), entity, p, kind, of_, ([] : List api_Line) ++ lines⟩ : api_Journal)] (.tuple #[.slice (vA ((η379 16).1)) ((([] : List api_Line) ++ lines).length) (vC ((η379 16).1))]) :: Ins NK37 [(⟨w64 ((s_.f_J.length : Int) + 1), entity, p, kind, of_, ([] : List api_Line) ++ lines⟩ : api_Journal)] (.tuple #[.slice (vA ((η379 16).1)) ((([] : List api_Line) ++ lines).length) (vC ((η379 16).1))]) :: (Δ529 ++ (Row K43 (.slice A356 y350.length c358) y350 :: Γ))) wd528 := H527
                  refine sp_op [(155, .slice A2 s_.f_J.length c3), (169, .slice (some ⟨(oA (vA ((η379 18).1))).block, 0, none⟩) 1 1)] (ac (hE524 4 (by decide)) (ac (hE524 18 (by decide)) an)) ?_
                  refine r_appendNN (N := NK37) (xs := s_.f_J) (ys := [(⟨w64 ((s_.f_J.length : Int) + 1), entity, p, kind, of_, ([] : List api_Line) ++ lines⟩ : api_Journal)]) AP26 rfl rfl rfl rfl H527.u2.u3.u3.u3 (H527.u2.u3.u3.u3.g3) (fit_le hf391 (by decide)) ?_
                  intro A531 c532 wd533 H534
                  have H535 : Hp w0 (RwN NK37 (.slice A531 ((s_.f_J ++ [(⟨w64 ((s_.f_J.length : Int) + 1), entity, p, kind, of_, ([] : List api_Line) ++ lines⟩ : api_Journal)]).length) c532) (s_.f_J ++ [(⟨w64 ((s_.f_J.length : Int) + 1), entity, p, kind, of_, ([] : List api_Line) ++ lines⟩ : api_Journal)]) (avp s_.f_J.length [(⟨w64 ((s_.f_J.length : Int) + 1), entity, p, kind, of_, ([] : List api_Line) ++ lines⟩ : api_Journal)].length av4 (.tuple #[.slice (vA ((η379 16).1)) ((([] : List api_Line) ++ lines).length) (vC ((η379 16).1))])) :: Ins NK37 (s_.f_J ++ [(⟨w64 ((s_.f_J.length : Int) + 1), entity, p, kind, of_, ([] : List api_Line) ++ lines⟩ : api_Journal)]) (avp s_.f_J.length [(⟨w64 ((s_.f_J.length : Int) + 1), entity, p, kind, of_, ([] : List api_Line) ++ lines⟩ : api_Journal)].length av4 (.tuple #[.slice (vA ((η379 16).1)) ((([] : List api_Line) ++ lines).length) (vC ((η379 16).1))])) :: _) _ := ((H534.u3.d.u2.u2).two fun _ h1_ h2_ => Ins.append h1_ h2_).u1
                  exact r_nil (n_lp ⟨_, rfl, (.tuple #[.slice A531 ((s_.f_J ++ [(⟨w64 ((s_.f_J.length : Int) + 1), entity, p, kind, of_, ([] : List api_Line) ++ lines⟩ : api_Journal)]).length) c532, avp s_.f_J.length [(⟨w64 ((s_.f_J.length : Int) + 1), entity, p, kind, of_, ([] : List api_Line) ++ lines⟩ : api_Journal)].length av4 (.tuple #[.slice (vA ((η379 16).1)) ((([] : List api_Line) ++ lines).length) (vC ((η379 16).1))])]), rfl, H535.u1.u1⟩)
                · intro η379 wd540 Δ541 hE536 hR537 hA538 H539
                  refine sp_op [(151, .pointer (some ⟨b1, 0, none⟩))] (ac (hE536 0 (by decide)) an) ?_
                  refine r_pure (.pointer (some ⟨b1, 0, none⟩)) rfl ?_
                  exact r_nil (n_lp ⟨_, rfl, undef, rfl, H539⟩)
                · intro η379 wd546 Δ547 hE542 hR543 hA544 H545
                  refine sp_op [(171, .pointer (some ⟨b1, 0, none⟩))] (ac (hE542 20 (by decide)) an) ?_
                  refine r_fa FA28_0 ⟨b1, 0, none⟩ rfl rfl ?_
                  exact r_nil (n_lp ⟨_, rfl, undef, rfl, H545⟩)
                · intro η379 wd552 Δ553 hE548 hR549 hA550 H551
                  have H551 : Hp w0 (Bx b1 28 [.slice A2 s_.f_J.length c3] :: (Δ553 ++ (Row K43 (.slice A356 y350.length c358) y350 :: Γ))) wd552 := H551
                  refine sp_op [(170, .slice (vA ((η379 19).1)) ((s_.f_J ++ [(⟨w64 ((s_.f_J.length : Int) + 1), entity, p, kind, of_, ([] : List api_Line) ++ lines⟩ : api_Journal)]).length) (vC ((η379 19).1))), (172, .pointer (some ⟨b1, 0, none⟩))] (ac (hE548 19 (by decide)) (ac (hE548 21 (by decide)) an)) ?_
                  refine r_st1 LD26 rfl rfl rfl H551 rfl ?_
                  intro wd555 H554
                  exact r_nil (n_lp ⟨_, rfl, (.tuple #[.pointer (some ⟨b1, 0, none⟩), .slice (vA ((η379 19).1)) ((s_.f_J ++ [(⟨w64 ((s_.f_J.length : Int) + 1), entity, p, kind, of_, ([] : List api_Line) ++ lines⟩ : api_Journal)]).length) (vC ((η379 19).1))]), trivial, H554⟩)
                · intro η379 wd557 hV558 H556
                  have H559 : Hp w0 (RwN NK37 (.slice (vA ((η379 19).1)) ((s_.f_J ++ [(⟨w64 ((s_.f_J.length : Int) + 1), entity, p, kind, of_, ([] : List api_Line) ++ lines⟩ : api_Journal)]).length) (vC ((η379 19).1))) (s_.f_J ++ [(⟨w64 ((s_.f_J.length : Int) + 1), entity, p, kind, of_, ([] : List api_Line) ++ lines⟩ : api_Journal)]) (avp s_.f_J.length [(⟨w64 ((s_.f_J.length : Int) + 1), entity, p, kind, of_, ([] : List api_Line) ++ lines⟩ : api_Journal)].length av4 (.tuple #[.slice (vA ((η379 16).1)) ((([] : List api_Line) ++ lines).length) (vC ((η379 16).1))])) :: Ins NK37 (s_.f_J ++ [(⟨w64 ((s_.f_J.length : Int) + 1), entity, p, kind, of_, ([] : List api_Line) ++ lines⟩ : api_Journal)]) (avp s_.f_J.length [(⟨w64 ((s_.f_J.length : Int) + 1), entity, p, kind, of_, ([] : List api_Line) ++ lines⟩ : api_Journal)].length av4 (.tuple #[.slice (vA ((η379 16).1)) ((([] : List api_Line) ++ lines).length) (vC ((η379 16).1))])) :: Bx b1 28 [.slice (vA ((η379 19).1)) ((s_.f_J ++ [(⟨w64 ((s_.f_J.length : Int) + 1), entity, p, kind, of_, ([] : List api_Line) ++ lines⟩ : api_Journal)]).length) (vC ((η379 19).1))] :: Γ) wd557 := H556.u3.d
                  refine n_frame [(0, .pointer (some ⟨b1, 0, none⟩))] (ac rfl an) ?_
                  refine n_sq ?_
                  refine st_seq ?_
                  refine st_region ?_
                  refine r_pure (.pointer (some ⟨b1, 0, none⟩)) rfl ?_
                  refine r_pure (.pointer (some ⟨b1, 0, none⟩)) rfl ?_
                  refine r_fa FA28_0 ⟨b1, 0, none⟩ rfl rfl ?_
                  refine r_ld1 (.slice (vA ((η379 19).1)) ((s_.f_J ++ [(⟨w64 ((s_.f_J.length : Int) + 1), entity, p, kind, of_, ([] : List api_Line) ++ lines⟩ : api_Journal)]).length) (vC ((η379 19).1))) LD26 rfl ((H559.g2).cell _ rfl) ?_
                  refine r_len Try.underlying26 rfl ?_
                  refine r_pure (.int .i64 ((s_.f_J ++ [(⟨w64 ((s_.f_J.length : Int) + 1), entity, p, kind, of_, ([] : List api_Line) ++ lines⟩ : api_Journal)]).length : Int)) rfl ?_
                  refine r_pure (.int .i64 0) rfl ?_
                  refine r_seq ?_
                  obtain ⟨rfl, rfl, rfl⟩ := some_inj3 hm
                  refine st_ret2 rfl rfl (Nat.le_of_ble_eq_true rfl) (Nat.le_of_ble_eq_true rfl) rfl rfl ?_
                  exact ⟨(vA ((η379 19).1)), (s_.f_J ++ [(⟨w64 ((s_.f_J.length : Int) + 1), entity, p, kind, of_, ([] : List api_Line) ++ lines⟩ : api_Journal)]).length, (vC ((η379 19).1)), (avp s_.f_J.length [(⟨w64 ((s_.f_J.length : Int) + 1), entity, p, kind, of_, ([] : List api_Line) ++ lines⟩ : api_Journal)].length av4 (.tuple #[.slice (vA ((η379 16).1)) ((([] : List api_Line) ++ lines).length) (vC ((η379 16).1))])), rfl, H559.u1.u1.u2⟩
              · rw [scutageref01_Store_Post.l3] at hm
                have hb373 := range_in hxs365 hi366
                obtain ⟨h0374, h1375, hj376⟩ := range_ix hxs365 hi366
                have hnx377 := range_next hxs365 hi366 hlim378
                refine st_seq ?_
                refine st_region ?_
                refine r_pure (.bool (decide (i363 < (y350.length : Int)))) rfl ?_
                refine r_seq ?_
                refine st_seq ?_
                refine st_condt hb373 rfl ?_
                refine st_skip ?_
                refine n_sq ?_
                refine st_seq ?_
                refine st_block ?_
                refine st_seq ?_
                refine st_region ?_
                have hA560 := (H359.g3.rd).adO hj376
                refine r_ix IX34 rfl rfl hA560 h0374 h1375 ?_
                refine r_ldA [.int .i64 y368.Account, .int .i64 y368.Amount] LD43 rfl rfl ((H359.g3.rd).csA hA560 hj376) ?_
                refine r_alloc [.int .i64 0, .int .i64 0] Try.zeroValue43 H359 rfl ?_
                intro b561 wd563 H562
                refine r_stA [.int .i64 y368.Account, .int .i64 y368.Amount] LD43 rfl rfl rfl rfl H562 (Nat.le_of_ble_eq_true rfl) rfl ?_
                intro wd565 H564
                refine r_seq ?_
                refine st_seq ?_
                refine st_region ?_
                refine r_fa FA43_1 ⟨b561, 1, none⟩ rfl rfl ?_
                refine r_ld1 (.int .i64 y368.Amount) LD3 rfl ((H564.g0).cell _ rfl) ?_
                obtain ⟨y566, hy567, hm⟩ := bind_some hm
                refine r_callf Try.call30 (scutageref01_Money_ok y368.Amount y566 H564 hy567) ?_
                rintro e569 wd568 ⟨rfl, H571⟩
                refine ⟨_, rfl, ?_⟩
                refine r_pure (.bool (!y566)) rfl ?_
                refine r_seq ?_
                rcases ite_some hm with ⟨hb572, hm⟩ | ⟨hb572, hm⟩
                · refine st_condt hb572 rfl ?_
                  refine st_seq ?_
                  refine st_region ?_
                  refine r_pure (.int .i64 0) rfl ?_
                  refine r_pure (.int .i64 6) rfl ?_
                  refine r_seq ?_
                  have hq_ := Option.some.inj hm
                  subst hq_
                  obtain ⟨rfl, rfl, rfl⟩ := some_inj3 (show some ((0, 6, (⟨s_.f_J⟩ : scutageref01_Store)) : (Int × Int × scutageref01_Store)) = some (r0_, r1_, r2_) from hm360)
                  refine st_ret2 rfl rfl (Nat.le_of_ble_eq_true rfl) (Nat.le_of_ble_eq_true rfl) rfl rfl ?_
                  exact ⟨A2, s_.f_J.length, c3, av4, rfl, H571.d.u3.d.u1.u1.u2⟩
                · refine st_condf hb572 rfl ?_
                  refine st_skip ?_
                  refine n_bl ?_
                  refine n_sq ?_
                  refine st_region ?_
                  refine r_pure (.int .i64 (w64 (i363 + 1))) rfl ?_
                  refine r_pure (.int .i64 (w64 (i363 + 1))) rfl ?_
                  refine r_nil ?_
                  refine n_round (IH371 _ _ rfl _ _ _ ⟨i363 + 1, dn364 ++ [y368], rfl, range_more hxs365, range_len hi366, upk (ac rfl (ac rfl (ac rfl (ac rfl (ac rfl (ac rfl (ac rfl (ac rfl (ac hnx377 an))))))))), H571.d.u3.u3.u3.u3⟩ hm)

set_option maxHeartbeats 2000000 in
theorem store_Store_Journals_ok {w0 w : World} {Γ : List (World → Prop)} (b1 : Nat) (s_ : store_Store) (A2 : Option Addr) (n7 c3 : Nat) (hn6 : n7 = s_.f_l.length) (hc4 : s_.f_l.length ≤ c3) (ads8 : Nat → Option Addr × Nat) (hv5 : ∀ u, Hp w0 Γ u → SlRN (fun j => KN37 (ads8 j)) 6 A2 s_.f_l u) (hin9 : ∀ j x, s_.f_l[j]? = some x → x.Lines.length ≤ (ads8 j).2 ∧ ∀ u, Hp w0 Γ u → SlR K43 (ads8 j).1 x.Lines u) (hv10 : ∀ u, Hp w0 Γ u → Bx b1 52 [.slice A2 n7 c3] u) (r0_ : List api_Journal) (H : Hp w0 (Γ) w) (hm : store_Store_Journals s_ = some r0_) : Calls Try.prog 12 #[.pointer (some ⟨b1, 0, none⟩)] w (fun e w => ∃ (Ax1 : Option Addr) (nx2 cx3 : Nat), ∃ (avx4 : Value), e = .returned (.slice Ax1 nx2 cx3) ∧ Hp w0 (RwN NK37 (.slice Ax1 nx2 cx3) r0_ avx4 :: Ins NK37 r0_ avx4 :: Γ) w) := by
  subst hn6
  unfold store_Store_Journals at hm
  refine st_enter Try.func12 rfl Try.ntmps12 (Nat.le_of_ble_eq_true rfl) ?_
  refine st_seq ?_
  refine st_region ?_
  refine r_pure (.slice none 0 0) rfl ?_
  refine r_seq ?_
  refine st_seq ?_
  refine st_region ?_
  refine r_pure (.slice none 0 0) rfl ?_
  refine r_seq ?_
  refine st_seq ?_
  refine st_seq ?_
  refine st_region ?_
  refine r_pure (.pointer (some ⟨b1, 0, none⟩)) rfl ?_
  refine r_pure (.pointer (some ⟨b1, 0, none⟩)) rfl ?_
  refine r_fa FA52_0 ⟨b1, 0, none⟩ rfl rfl ?_
  refine r_ld1 (.slice A2 s_.f_l.length c3) LD26 rfl ((hv10 _ H).cell _ rfl) ?_
  refine r_len Try.underlying26 rfl ?_
  refine r_pure (.int .i64 0) rfl ?_
  refine r_seq ?_
  refine st_block ?_
  have H18 := H.add (A := Ins NK37 ([] : List api_Journal) (.tuple #[])) (Ins.nil _)
  have H19 := H18.add (A := RwN NK37 (.slice none 0 0) ([] : List api_Journal) (.tuple #[])) RwN.nil
  have hlim44 := (hv5 _ H19.d.d).lim
  obtain ⟨tl27, hl28, hm26⟩ := bind_some hm
  refine st_loopL (store_Store_Journals.l1) (fun ys33 s ρ w => ∃ i29 : Int, ∃ xs23 : List api_Journal, ∃ dn30 : List api_Journal, ∃ A20 : Option Addr, ∃ n21 : Nat, ∃ c22 : Nat, ∃ av24 : Value, (i29, xs23) = s ∧ s_.f_l = dn30 ++ ys33 ∧ i29 = (dn30.length : Int) ∧ (∃ base, ρ = updl base [(3, .slice A20 n21 c22), (9, .slice A2 s_.f_l.length c3), (10, .int .i64 (s_.f_l.length : Int)), (11, .int .i64 i29)]) ∧ Hp w0 (RwN NK37 (.slice A20 n21 c22) xs23 av24 :: Ins NK37 xs23 av24 :: Γ) w) hl28 ⟨0, ([] : List api_Journal), [], none, 0, 0, .tuple #[], rfl, rfl, rfl, upk (ac rfl (ac rfl (ac rfl (ac rfl an)))), H19.u1.u1⟩ ?_
  rintro m ys33 IH37 s ρ w ⟨i29, xs23, dn30, A20, n21, c22, av24, rfl, hxs31, hi32, ⟨base, rfl⟩, H25⟩ hm
  obtain rfl := (H25.g0).leneq
  rcases ys33 with _ | ⟨y34, ys33⟩
  · rw [store_Store_Journals.l1] at hm
    have hb38 := range_end hxs31 hi32
    refine st_seq ?_
    refine st_region ?_
    refine r_pure (.bool (decide (i29 < (s_.f_l.length : Int)))) rfl ?_
    refine r_seq ?_
    refine st_seq ?_
    refine st_condf hb38 rfl ?_
    have hq_ := Option.some.inj hm
    refine st_exit rfl ?_
    subst hq_
    refine n_sq ?_
    refine st_seq ?_
    refine st_region ?_
    refine r_pure (.slice A20 xs23.length c22) rfl ?_
    refine r_pure (.slice A20 xs23.length c22) rfl ?_
    refine r_seq ?_
    have hq_ := Option.some.inj hm26
    subst hq_
    refine st_ret1 rfl rfl (Nat.le_of_ble_eq_true rfl) rfl ?_
    exact ⟨A20, xs23.length, c22, av24, rfl, H25.u1.u1⟩
  · rw [store_Store_Journals.l1] at hm
    have hb39 := range_in hxs31 hi32
    obtain ⟨h040, h141, hj42⟩ := range_ix hxs31 hi32
    have hnx43 := range_next hxs31 hi32 hlim44
    refine st_seq ?_
    refine st_region ?_
    refine r_pure (.bool (decide (i29 < (s_.f_l.length : Int)))) rfl ?_
    refine r_seq ?_
    refine st_seq ?_
    refine st_condt hb39 rfl ?_
    refine st_skip ?_
    refine n_sq ?_
    refine st_seq ?_
    refine st_block ?_
    refine st_seq ?_
    refine st_region ?_
    have hA45 := (hv5 _ H25.d.d).adO hj42
    refine r_ix IX26 rfl rfl hA45 h040 h141 ?_
    refine r_ldA [.int .i64 y34.Seq, .string y34.Entity, .int .i64 y34.Period, .int .i64 y34.Kind, .int .i64 y34.Of, .slice ((ads8 (Int.toNat i29)).1) y34.Lines.length ((ads8 (Int.toNat i29)).2)] LD37 rfl rfl ((hv5 _ H25.d.d).csA hA45 hj42) ?_
    refine r_alloc [.int .i64 0, .string ⟨#[]⟩, .int .i64 0, .int .i64 0, .int .i64 0, .slice none 0 0] Try.zeroValue37 H25 rfl ?_
    intro b46 wd48 H47
    refine r_stA [.int .i64 y34.Seq, .string y34.Entity, .int .i64 y34.Period, .int .i64 y34.Kind, .int .i64 y34.Of, .slice ((ads8 (Int.toNat i29)).1) y34.Lines.length ((ads8 (Int.toNat i29)).2)] LD37 rfl rfl rfl rfl H47 (Nat.le_of_ble_eq_true rfl) rfl ?_
    intro wd50 H49
    refine r_seq ?_
    refine st_region ?_
    refine r_pure (.slice A20 xs23.length c22) rfl ?_
    refine r_ldA [.int .i64 y34.Seq, .string y34.Entity, .int .i64 y34.Period, .int .i64 y34.Kind, .int .i64 y34.Of, .slice ((ads8 (Int.toNat i29)).1) y34.Lines.length ((ads8 (Int.toNat i29)).2)] LD37 rfl rfl ((H49.g0).cells rfl) ?_
    obtain ⟨y51, hy52, hm⟩ := bind_some hm
    refine r_callf Try.call24 (store_own_ok y34 ((ads8 (Int.toNat i29)).1) y34.Lines.length ((ads8 (Int.toNat i29)).2) rfl (hin9 _ _ hj42).1 (fun _ H => ((hin9 _ _ hj42).2 _ H.d.d.d)) y51 H49 hy52) ?_
    rintro e54 wd53 ⟨A57, n58, c59, rfl, H56⟩
    obtain rfl := (H56.g0).leneq
    refine ⟨_, rfl, ?_⟩
    refine r_buildSlice (K := NK37.kp) [(y51, (A57, c59))] EL26 rfl rfl rfl (by decide) (by decide) rfl H56 ?_
    intro b60 wd62 H61
    have H63 : Hp w0 (Ins NK37 [y51] (.tuple #[.slice A57 y51.Lines.length c59]) :: _) _ := (H61.u1).imp fun _ h_ => Ins.one (N := NK37) (x := y51) h_
    have H64 : Hp w0 (RwN NK37 (.slice (some ⟨b60, 0, none⟩) 1 1) [y51] (.tuple #[.slice A57 y51.Lines.length c59]) :: Ins NK37 [y51] (.tuple #[.slice A57 y51.Lines.length c59]) :: _) _ := H63.u1.imp fun _ h_ => RwN.one (m := y51.Lines.length) h_
    obtain ⟨hf65, hm⟩ := gd_some hm
    refine r_appendNN (N := NK37) (xs := xs23) (ys := [y51]) AP26 rfl rfl rfl rfl H64.u1.u4.u4 (H64.u1.u4.u4.g3) (fit_le hf65 (by decide)) ?_
    intro A66 c67 wd68 H69
    have H70 : Hp w0 (RwN NK37 (.slice A66 ((xs23 ++ [y51]).length) c67) (xs23 ++ [y51]) (avp xs23.length [y51].length av24 (.tuple #[.slice A57 y51.Lines.length c59])) :: Ins NK37 (xs23 ++ [y51]) (avp xs23.length [y51].length av24 (.tuple #[.slice A57 y51.Lines.length c59])) :: _) _ := ((H69.u3.d.u2.u2).two fun _ h1_ h2_ => Ins.append h1_ h2_).u1
    refine r_pure (.slice A66 ((xs23 ++ [y51]).length) c67) rfl ?_
    refine r_nil ?_
    refine n_bl ?_
    refine n_sq ?_
    refine st_region ?_
    refine r_pure (.int .i64 (w64 (i29 + 1))) rfl ?_
    refine r_pure (.int .i64 (w64 (i29 + 1))) rfl ?_
    refine r_nil ?_
    refine n_round (IH37 _ _ rfl _ _ _ ⟨i29 + 1, xs23 ++ [y51], dn30 ++ [y34], A66, (xs23 ++ [y51]).length, c67, avp xs23.length [y51].length av24 (.tuple #[.slice A57 y51.Lines.length c59]), rfl, range_more hxs31, range_len hi32, upk (ac rfl (ac rfl (ac rfl (ac hnx43 an)))), H70.u2.d.u1.u1⟩ hm)

set_option maxHeartbeats 2000000 in
theorem store_Store_Clone_ok {w0 w : World} {Γ : List (World → Prop)} (b1 : Nat) (s_ : store_Store) (A2 : Option Addr) (n7 c3 : Nat) (hn6 : n7 = s_.f_l.length) (hc4 : s_.f_l.length ≤ c3) (ads8 : Nat → Option Addr × Nat) (hv5 : ∀ u, Hp w0 Γ u → SlRN (fun j => KN37 (ads8 j)) 6 A2 s_.f_l u) (hin9 : ∀ j x, s_.f_l[j]? = some x → x.Lines.length ≤ (ads8 j).2 ∧ ∀ u, Hp w0 Γ u → SlR K43 (ads8 j).1 x.Lines u) (hv10 : ∀ u, Hp w0 Γ u → Bx b1 52 [.slice A2 n7 c3] u) (r0_ : store_Store) (H : Hp w0 (Γ) w) (hm : store_Store_Clone s_ = some r0_) : Calls Try.prog 8 #[.pointer (some ⟨b1, 0, none⟩)] w (fun e w => ∃ (bx1 : Nat), ∃ (Ax2 : Option Addr) (nx3 cx4 : Nat), ∃ (avx5 : Value), e = .returned (.pointer (some ⟨bx1, 0, none⟩)) ∧ Hp w0 (Bx bx1 52 [.slice Ax2 nx3 cx4] :: RwN NK37 (.slice Ax2 nx3 cx4) r0_.f_l avx5 :: Ins NK37 r0_.f_l avx5 :: Γ) w) := by
  subst hn6
  unfold store_Store_Clone at hm
  refine st_enter Try.func8 rfl Try.ntmps8 (Nat.le_of_ble_eq_true rfl) ?_
  refine st_seq ?_
  refine st_region ?_
  refine r_pure (.pointer none) rfl ?_
  refine r_seq ?_
  refine st_seq ?_
  refine st_region ?_
  refine r_pure (.pointer (some ⟨b1, 0, none⟩)) rfl ?_
  obtain ⟨y11, hy12, hm⟩ := bind_some hm
  refine r_callf Try.call12 (store_Store_Journals_ok b1 (⟨s_.f_l⟩ : store_Store) A2 s_.f_l.length c3 rfl hc4 ads8 (fun _ H => (hv5 _ H)) (fun j x hj => ⟨(hin9 j x hj).1, fun u H => (hin9 j x hj).2 u H⟩) (fun _ H => (hv10 _ H)) y11 H hy12) ?_
  rintro e14 wd13 ⟨A17, n18, c19, av20, rfl, H16⟩
  obtain rfl := (H16.g0).leneq
  refine ⟨_, rfl, ?_⟩
  refine r_build [.slice A17 y11.length c19] FL52 rfl ?_
  refine r_box [.slice A17 y11.length c19] H16 rfl ?_
  intro b21 wd23 H22
  refine r_pure (.pointer (some ⟨b21, 0, none⟩)) rfl ?_
  refine r_seq ?_
  have hq_ := Option.some.inj hm
  subst hq_
  refine st_ret1 rfl rfl (Nat.le_of_ble_eq_true rfl) rfl ?_
  exact ⟨b21, A17, y11.length, c19, av20, rfl, H22.u2.u2.u2⟩

set_option maxHeartbeats 2000000 in
theorem scutagekeep_Same_api_Line_ok {w0 w : World} {Γ : List (World → Prop)} (a_ : List api_Line) (A1 : Option Addr) (n6 c2 : Nat) (hn5 : n6 = a_.length) (hc3 : a_.length ≤ c2) (hv4 : ∀ u, Hp w0 Γ u → SlR K43 A1 a_ u) (b_ : List api_Line) (A7 : Option Addr) (n12 c8 : Nat) (hn11 : n12 = b_.length) (hc9 : b_.length ≤ c8) (hv10 : ∀ u, Hp w0 Γ u → SlR K43 A7 b_ u) (r0_ : Bool) (H : Hp w0 (Γ) w) (hm : scutagekeep_Same_api_Line a_ b_ = some r0_) : Calls Try.prog 13 #[.slice A1 n6 c2, .slice A7 n12 c8] w (fun e w => e = .returned (.bool r0_) ∧ Hp w0 (Γ) w) := by
  subst hn5
  subst hn11
  unfold scutagekeep_Same_api_Line at hm
  refine st_enter Try.func13 rfl Try.ntmps13 (Nat.le_of_ble_eq_true rfl) ?_
  refine st_seq ?_
  refine st_region ?_
  refine r_pure (.bool false) rfl ?_
  refine r_seq ?_
  refine st_seq ?_
  refine st_seq ?_
  refine st_region ?_
  refine r_pure (.slice A1 a_.length c2) rfl ?_
  refine r_len Try.underlying34 rfl ?_
  refine r_pure (.slice A7 b_.length c8) rfl ?_
  refine r_len Try.underlying34 rfl ?_
  refine r_pure (.bool ((a_.length : Int) != (b_.length : Int))) rfl ?_
  refine r_seq ?_
  rcases ite_some hm with ⟨hb13, hm⟩ | ⟨hb13, hm⟩
  · refine st_condt hb13 rfl ?_
    refine st_seq ?_
    refine st_region ?_
    refine r_pure (.bool false) rfl ?_
    refine r_seq ?_
    have hq_ := Option.some.inj hm
    subst hq_
    refine st_ret1 rfl rfl (Nat.le_of_ble_eq_true rfl) rfl ?_
    exact ⟨rfl, H⟩
  · refine st_condf hb13 rfl ?_
    refine st_skip ?_
    refine n_sq ?_
    refine st_seq ?_
    refine st_seq ?_
    refine st_region ?_
    refine r_pure (.int .i64 0) rfl ?_
    refine r_seq ?_
    refine st_block ?_
    obtain ⟨tl18, hl19, hm17⟩ := bind_some hm
    refine st_loopF (scutagekeep_Same_api_Line.l1 a_ b_) (fun s ρ w => ∃ v15 : Int, v15 = s ∧ (∃ base, ρ = updl base [(0, .slice A1 a_.length c2), (1, .slice A7 b_.length c8), (5, .int .i64 v15)]) ∧ Hp w0 (Γ) w) hl19 (fun _ => rfl) ⟨0, rfl, upk (ac rfl (ac rfl (ac rfl an))), H⟩ ?_
    rintro fuel25 IH27 s ρ w ⟨v15, rfl, ⟨base, rfl⟩, H16⟩ hm
    rw [scutagekeep_Same_api_Line.l1] at hm
    refine st_seq ?_
    refine st_seq ?_
    refine st_region ?_
    refine r_pure (.int .i64 v15) rfl ?_
    refine r_pure (.slice A1 a_.length c2) rfl ?_
    refine r_len Try.underlying34 rfl ?_
    refine r_pure (.bool (decide (v15 < (a_.length : Int)))) rfl ?_
    refine r_seq ?_
    rcases ite_some hm with ⟨hb28, hm⟩ | ⟨hb28, hm⟩
    · refine st_condt hb28 rfl ?_
      refine st_skip ?_
      refine n_sq ?_
      refine st_seq ?_
      refine st_block ?_
      refine st_seq ?_
      obtain ⟨⟨h030, h131⟩, hm⟩ := gd_some hm
      have hj32 := rd_get h030 h131
      obtain ⟨⟨h034, h135⟩, hm⟩ := gd_some hm
      have hj36 := rd_get h034 h135
      refine Flow.run' RA13_6 RW13_6 [(fun η29 v => v.1 = .slice A1 a_.length c2), (fun η29 v => v.1 = .int .i64 v15), (fun η29 v => v.1 = .pointer (some ((oA A1).add (Int.toNat v15 * 2)))), (fun η29 v => v.1 = .agg #[.int .i64 ((rd a_ v15).Account), .int .i64 ((rd a_ v15).Amount)]), (fun η29 v => v.1 = .slice A7 b_.length c8), (fun η29 v => v.1 = .int .i64 v15), (fun η29 v => v.1 = .pointer (some ((oA A7).add (Int.toNat v15 * 2)))), (fun η29 v => v.1 = .agg #[.int .i64 ((rd b_ v15).Account), .int .i64 ((rd b_ v15).Amount)]), (fun η29 v => v.1 = .bool (!(((rd a_ v15).Account) == ((rd b_ v15).Account) && (((rd a_ v15).Amount) == ((rd b_ v15).Amount)))))] [] rfl (by kernel_rfl) (by kernel_rfl) H16 ⟨?_, ?_, ?_, ?_, ?_, ?_, ?_, ?_, ?_, trivial⟩ ?_
      · intro η29 wd42 Δ43 hE38 hR39 hA40 H41
        refine sp_op [(0, .slice A1 a_.length c2)] (ac rfl an) ?_
        refine r_pure (.slice A1 a_.length c2) rfl ?_
        exact r_nil (n_lp ⟨_, rfl, undef, rfl, H41⟩)
      · intro η29 wd48 Δ49 hE44 hR45 hA46 H47
        refine sp_op [(5, .int .i64 v15)] (ac rfl an) ?_
        refine r_pure (.int .i64 v15) rfl ?_
        exact r_nil (n_lp ⟨_, rfl, undef, rfl, H47⟩)
      · intro η29 wd54 Δ55 hE50 hR51 hA52 H53
        have H53 : Hp w0 ((Δ55 ++ Γ)) wd54 := H53
        refine sp_op [(17, .slice A1 a_.length c2), (18, .int .i64 v15)] (ac (hE50 0 (by decide)) (ac (hE50 1 (by decide)) an)) ?_
        have hA59 := (hv4 _ (H53).tl).adO hj32
        refine r_ix IX34 rfl rfl hA59 h030 h131 ?_
        exact r_nil (n_lp ⟨_, rfl, undef, rfl, H53⟩)
      · intro η29 wd64 Δ65 hE60 hR61 hA62 H63
        have H63 : Hp w0 ((Δ65 ++ Γ)) wd64 := H63
        refine sp_op [(19, .pointer (some ((oA A1).add (Int.toNat v15 * 2))))] (ac (hE60 2 (by decide)) an) ?_
        have hA66 := (hv4 _ (H63).tl).adO hj32
        refine r_ldA [.int .i64 ((rd a_ v15).Account), .int .i64 ((rd a_ v15).Amount)] LD43 rfl rfl ((hv4 _ (H63).tl).csA hA66 hj32) ?_
        exact r_nil (n_lp ⟨_, rfl, undef, rfl, H63⟩)
      · intro η29 wd71 Δ72 hE67 hR68 hA69 H70
        refine sp_op [(1, .slice A7 b_.length c8)] (ac rfl an) ?_
        refine r_pure (.slice A7 b_.length c8) rfl ?_
        exact r_nil (n_lp ⟨_, rfl, undef, rfl, H70⟩)
      · intro η29 wd77 Δ78 hE73 hR74 hA75 H76
        refine sp_op [(5, .int .i64 v15)] (ac rfl an) ?_
        refine r_pure (.int .i64 v15) rfl ?_
        exact r_nil (n_lp ⟨_, rfl, undef, rfl, H76⟩)
      · intro η29 wd83 Δ84 hE79 hR80 hA81 H82
        have H82 : Hp w0 ((Δ84 ++ Γ)) wd83 := H82
        refine sp_op [(21, .slice A7 b_.length c8), (22, .int .i64 v15)] (ac (hE79 4 (by decide)) (ac (hE79 5 (by decide)) an)) ?_
        have hA88 := (hv10 _ (H82).tl).adO hj36
        refine r_ix IX34 rfl rfl hA88 h034 h135 ?_
        exact r_nil (n_lp ⟨_, rfl, undef, rfl, H82⟩)
      · intro η29 wd93 Δ94 hE89 hR90 hA91 H92
        have H92 : Hp w0 ((Δ94 ++ Γ)) wd93 := H92
        refine sp_op [(23, .pointer (some ((oA A7).add (Int.toNat v15 * 2))))] (ac (hE89 6 (by decide)) an) ?_
        have hA95 := (hv10 _ (H92).tl).adO hj36
        refine r_ldA [.int .i64 ((rd b_ v15).Account), .int .i64 ((rd b_ v15).Amount)] LD43 rfl rfl ((hv10 _ (H92).tl).csA hA95 hj36) ?_
        exact r_nil (n_lp ⟨_, rfl, undef, rfl, H92⟩)
      · intro η29 wd100 Δ101 hE96 hR97 hA98 H99
        refine sp_op [(20, .agg #[.int .i64 ((rd a_ v15).Account), .int .i64 ((rd a_ v15).Amount)]), (24, .agg #[.int .i64 ((rd b_ v15).Account), .int .i64 ((rd b_ v15).Amount)])] (ac (hE96 3 (by decide)) (ac (hE96 7 (by decide)) an)) ?_
        refine r_neS (EQ43 ((rd a_ v15).Account) ((rd b_ v15).Account) ((rd a_ v15).Amount) ((rd b_ v15).Amount)) (by decide) Try.eqGuardType43 rfl rfl ?_
        exact r_nil (n_lp ⟨_, rfl, undef, rfl, H99⟩)
      · intro η29 wd103 hV104 H102
        have H105 : Hp w0 (Γ) wd103 := H102
        refine n_frame [(0, .slice A1 a_.length c2), (1, .slice A7 b_.length c8), (5, .int .i64 v15), (25, .bool (!(((rd a_ v15).Account) == ((rd b_ v15).Account) && (((rd a_ v15).Amount) == ((rd b_ v15).Amount)))))] (ac rfl (ac rfl (ac rfl (ac (hV104 8 rfl) an)))) ?_
        refine n_sq ?_
        rcases ite_some hm with ⟨hb106, hm⟩ | ⟨hb106, hm⟩
        · refine st_condt hb106 rfl ?_
          refine st_seq ?_
          refine st_region ?_
          refine r_pure (.bool false) rfl ?_
          refine r_seq ?_
          have hq_ := Option.some.inj hm
          subst hq_
          have hq_ := Option.some.inj (show some (false : Bool) = some r0_ from hm17)
          subst hq_
          refine st_ret1 rfl rfl (Nat.le_of_ble_eq_true rfl) rfl ?_
          exact ⟨rfl, H105⟩
        · refine st_condf hb106 rfl ?_
          refine st_skip ?_
          refine n_bl ?_
          refine n_sq ?_
          refine st_region ?_
          refine r_pure (.int .i64 v15) rfl ?_
          refine r_pure (.int .i64 (w64 (v15 + 1))) rfl ?_
          refine r_pure (.int .i64 (w64 (v15 + 1))) rfl ?_
          refine r_nil ?_
          refine n_round (IH27 _ _ _ ⟨w64 (v15 + 1), rfl, upk (ac rfl (ac rfl (ac rfl an))), H105⟩ hm)
    · refine st_condf hb28 rfl ?_
      have hq_ := Option.some.inj hm
      refine st_exit rfl ?_
      subst hq_
      refine n_sq ?_
      refine st_seq ?_
      refine st_region ?_
      refine r_pure (.bool true) rfl ?_
      refine r_seq ?_
      have hq_ := Option.some.inj hm17
      subst hq_
      refine st_ret1 rfl rfl (Nat.le_of_ble_eq_true rfl) rfl ?_
      exact ⟨rfl, H16⟩


end Go.Proofs.Ytdhekpodgemneaa
