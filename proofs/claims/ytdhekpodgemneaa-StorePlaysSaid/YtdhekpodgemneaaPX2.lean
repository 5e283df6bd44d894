/- The Go functions come to their models: printed by gen.py. -/
import Derived.Test.YtdhekpodgemneaaPX1
set_option linter.unusedVariables false
set_option linter.unusedSimpArgs false
set_option maxRecDepth 100000
namespace Go.Proofs.Ytdhekpodgemneaa
open Go Go.RowKit
attribute [local irreducible] W R N L Hp Row SlR Bx RwN

set_option maxHeartbeats 2000000 in
theorem scutagelaw07_Journals_ok {w0 w : World} {Γ : List (World → Prop)} (a_ : List api_Journal) (A1 : Option Addr) (n6 c2 : Nat) (hn5 : n6 = a_.length) (hc3 : a_.length ≤ c2) (ads7 : Nat → Option Addr × Nat) (hv4 : ∀ u, Hp w0 Γ u → SlRN (fun j => KN37 (ads7 j)) 6 A1 a_ u) (hin8 : ∀ j x, a_[j]? = some x → x.Lines.length ≤ (ads7 j).2 ∧ ∀ u, Hp w0 Γ u → SlR K43 (ads7 j).1 x.Lines u) (b_ : List api_Journal) (A9 : Option Addr) (n14 c10 : Nat) (hn13 : n14 = b_.length) (hc11 : b_.length ≤ c10) (ads15 : Nat → Option Addr × Nat) (hv12 : ∀ u, Hp w0 Γ u → SlRN (fun j => KN37 (ads15 j)) 6 A9 b_ u) (hin16 : ∀ j x, b_[j]? = some x → x.Lines.length ≤ (ads15 j).2 ∧ ∀ u, Hp w0 Γ u → SlR K43 (ads15 j).1 x.Lines u) (r0_ : Bool) (H : Hp w0 (Γ) w) (hm : scutagelaw07_Journals a_ b_ = some r0_) : Calls Try.prog 11 #[.slice A1 n6 c2, .slice A9 n14 c10] w (fun e w => e = .returned (.bool r0_) ∧ Hp w0 (Γ) w) := by
  subst hn5
  subst hn13
  unfold scutagelaw07_Journals at hm
  refine st_enter Try.func11 rfl Try.ntmps11 (Nat.le_of_ble_eq_true rfl) ?_
  refine st_seq ?_
  refine st_region ?_
  refine r_pure (.bool false) rfl ?_
  refine r_seq ?_
  refine st_seq ?_
  refine st_seq ?_
  refine st_region ?_
  refine r_pure (.slice A1 a_.length c2) rfl ?_
  refine r_len Try.underlying26 rfl ?_
  refine r_pure (.slice A9 b_.length c10) rfl ?_
  refine r_len Try.underlying26 rfl ?_
  refine r_pure (.bool ((a_.length : Int) != (b_.length : Int))) rfl ?_
  refine r_seq ?_
  rcases ite_some hm with ⟨hb17, hm⟩ | ⟨hb17, hm⟩
  · refine st_condt hb17 rfl ?_
    refine st_seq ?_
    refine st_region ?_
    refine r_pure (.bool false) rfl ?_
    refine r_seq ?_
    have hq_ := Option.some.inj hm
    subst hq_
    refine st_ret1 rfl rfl (Nat.le_of_ble_eq_true rfl) rfl ?_
    exact ⟨rfl, H⟩
  · refine st_condf hb17 rfl ?_
    refine st_skip ?_
    refine n_sq ?_
    refine st_seq ?_
    refine st_seq ?_
    refine st_region ?_
    refine r_pure (.slice A1 a_.length c2) rfl ?_
    refine r_len Try.underlying26 rfl ?_
    refine r_pure (.int .i64 0) rfl ?_
    refine r_seq ?_
    refine st_block ?_
    have hlim37 := (hv4 _ H).lim
    obtain ⟨tl20, hl21, hm19⟩ := bind_some hm
    refine st_loopL (scutagelaw07_Journals.l1 b_) (fun ys26 s ρ w => ∃ i22 : Int, ∃ dn23 : List api_Journal, i22 = s ∧ a_ = dn23 ++ ys26 ∧ i22 = (dn23.length : Int) ∧ (∃ base, ρ = updl base [(0, .slice A1 a_.length c2), (1, .slice A9 b_.length c10), (12, .int .i64 (a_.length : Int)), (13, .int .i64 i22)]) ∧ Hp w0 (Γ) w) hl21 ⟨0, [], rfl, rfl, rfl, upk (ac rfl (ac rfl (ac rfl (ac rfl an)))), H⟩ ?_
    rintro m ys26 IH30 s ρ w ⟨i22, dn23, rfl, hxs24, hi25, ⟨base, rfl⟩, H18⟩ hm
    rcases ys26 with _ | ⟨y27, ys26⟩
    · rw [scutagelaw07_Journals.l1] at hm
      have hb31 := range_end hxs24 hi25
      refine st_seq ?_
      refine st_region ?_
      refine r_pure (.bool (decide (i22 < (a_.length : Int)))) rfl ?_
      refine r_seq ?_
      refine st_seq ?_
      refine st_condf hb31 rfl ?_
      have hq_ := Option.some.inj hm
      refine st_exit rfl ?_
      subst hq_
      refine n_sq ?_
      refine st_seq ?_
      refine st_region ?_
      refine r_pure (.bool true) rfl ?_
      refine r_seq ?_
      have hq_ := Option.some.inj hm19
      subst hq_
      refine st_ret1 rfl rfl (Nat.le_of_ble_eq_true rfl) rfl ?_
      exact ⟨rfl, H18⟩
    · rw [scutagelaw07_Journals.l1] at hm
      have hb32 := range_in hxs24 hi25
      obtain ⟨h033, h134, hj35⟩ := range_ix hxs24 hi25
      have hnx36 := range_next hxs24 hi25 hlim37
      refine st_seq ?_
      refine st_region ?_
      refine r_pure (.bool (decide (i22 < (a_.length : Int)))) rfl ?_
      refine r_seq ?_
      refine st_seq ?_
      refine st_condt hb32 rfl ?_
      refine st_skip ?_
      refine n_sq ?_
      refine st_seq ?_
      refine st_block ?_
      refine st_seq ?_
      refine st_region ?_
      refine r_pure (.int .i64 i22) rfl ?_
      refine r_pure (.int .i64 i22) rfl ?_
      refine r_seq ?_
      refine st_cut (fun ρ w => ∃ q38 : Bool, (∃ base, ρ = updl base [(0, .slice A1 a_.length c2), (1, .slice A9 b_.length c10), (12, .int .i64 (a_.length : Int)), (13, .int .i64 i22), (92, .bool q38)]) ∧ Hp w0 (Γ) w ∧ scutagelaw07_Journals.j1 (scutagelaw07_Journals.l1 b_ ys26) i22 q38 = some tl20) ?_ ?_
      · obtain ⟨⟨h043, h144⟩, hm⟩ := gd_some hm
        have hj45 := rd_get h043 h144
        rcases ite_some hm with ⟨hb47, hm⟩ | ⟨hb47, hm⟩
        · refine Flow.run' RA11_6 RW11_6 ((fun η41 v => v.1 = .slice A1 a_.length c2) :: (fun η41 v => v.1 = .int .i64 i22) :: (fun η41 v => v.1 = .pointer (some ((oA A1).add (Int.toNat i22 * 6)))) :: (fun η41 v => v.1 = .pointer (some (((oA A1).add (Int.toNat i22 * 6)).add 0))) :: (fun η41 v => v.1 = .int .i64 y27.Seq) :: (fun η41 v => v.1 = .slice A9 b_.length c10) :: (fun η41 v => v.1 = .int .i64 i22) :: (fun η41 v => v.1 = .pointer (some ((oA A9).add (Int.toNat i22 * 6)))) :: (fun η41 v => v.1 = .pointer (some (((oA A9).add (Int.toNat i22 * 6)).add 0))) :: (fun η41 v => v.1 = .int .i64 ((rd b_ i22).Seq)) :: (fun η41 v => v.1 = .bool (y27.Seq != (rd b_ i22).Seq)) :: (fun η41 v => v.1 = .bool (y27.Seq != (rd b_ i22).Seq)) :: (fun η41 v => v.1 = undef) :: (fun η41 v => v.1 = undef) :: (fun η41 v => v.1 = undef) :: (fun η41 v => v.1 = undef) :: (fun η41 v => v.1 = undef) :: (fun η41 v => v.1 = undef) :: (fun η41 v => v.1 = undef) :: (fun η41 v => v.1 = undef) :: (fun η41 v => v.1 = undef) :: (fun η41 v => v.1 = undef) :: (fun η41 v => v.1 = undef) :: (fun η41 v => v.1 = .bool true) :: (fun η41 v => v.1 = .bool true) :: (fun η41 v => v.1 = undef) :: (fun η41 v => v.1 = undef) :: (fun η41 v => v.1 = undef) :: (fun η41 v => v.1 = undef) :: (fun η41 v => v.1 = undef) :: (fun η41 v => v.1 = undef) :: (fun η41 v => v.1 = undef) :: (fun η41 v => v.1 = undef) :: (fun η41 v => v.1 = undef) :: (fun η41 v => v.1 = undef) :: (fun η41 v => v.1 = undef) :: (fun η41 v => v.1 = .bool true) :: (fun η41 v => v.1 = .bool true) :: (fun η41 v => v.1 = undef) :: (fun η41 v => v.1 = undef) :: (fun η41 v => v.1 = undef) :: (fun η41 v => v.1 = undef) :: (fun η41 v => v.1 = undef) :: (fun η41 v => v.1 = undef) :: (fun η41 v => v.1 = undef) :: (fun η41 v => v.1 = undef) :: (fun η41 v => v.1 = undef) :: (fun η41 v => v.1 = undef) :: (fun η41 v => v.1 = undef) :: (fun η41 v => v.1 = .bool true) :: (fun η41 v => v.1 = .bool true) :: (fun η41 v => v.1 = undef) :: (fun η41 v => v.1 = undef) :: (fun η41 v => v.1 = undef) :: (fun η41 v => v.1 = undef) :: (fun η41 v => v.1 = undef) :: (fun η41 v => v.1 = undef) :: (fun η41 v => v.1 = undef) :: (fun η41 v => v.1 = undef) :: (fun η41 v => v.1 = undef) :: (fun η41 v => v.1 = undef) :: (fun η41 v => v.1 = undef) :: (fun η41 v => v.1 = .bool true) :: (fun η41 v => v.1 = .bool true) :: (fun η41 v => v.1 = undef) :: (fun η41 v => v.1 = undef) :: (fun η41 v => v.1 = undef) :: (fun η41 v => v.1 = undef) :: (fun η41 v => v.1 = undef) :: (fun η41 v => v.1 = undef) :: (fun η41 v => v.1 = undef) :: (fun η41 v => v.1 = undef) :: (fun η41 v => v.1 = undef) :: (fun η41 v => v.1 = undef) :: (fun η41 v => v.1 = undef) :: (fun η41 v => v.1 = undef) :: (fun η41 v => v.1 = .bool true) :: []) [] rfl (by kernel_rfl) (by kernel_rfl) H18 ⟨?_, ?_, ?_, ?_, ?_, ?_, ?_, ?_, ?_, ?_, ?_, ?_, ?_, ?_, ?_, ?_, ?_, ?_, ?_, ?_, ?_, ?_, ?_, ?_, ?_, ?_, ?_, ?_, ?_, ?_, ?_, ?_, ?_, ?_, ?_, ?_, ?_, ?_, ?_, ?_, ?_, ?_, ?_, ?_, ?_, ?_, ?_, ?_, ?_, ?_, ?_, ?_, ?_, ?_, ?_, ?_, ?_, ?_, ?_, ?_, ?_, ?_, ?_, ?_, ?_, ?_, ?_, ?_, ?_, ?_, ?_, ?_, ?_, ?_, ?_, ?_, ?_, trivial⟩ ?_
          · intro η41 wd52 Δ53 hE48 hR49 hA50 H51
            refine sp_op [(0, .slice A1 a_.length c2)] (ac rfl an) ?_
            refine r_pure (.slice A1 a_.length c2) rfl ?_
            exact r_nil (n_lp ⟨_, rfl, undef, rfl, H51⟩)
          · intro η41 wd58 Δ59 hE54 hR55 hA56 H57
            refine sp_op [(5, .int .i64 i22)] (ac rfl an) ?_
            refine r_pure (.int .i64 i22) rfl ?_
            exact r_nil (n_lp ⟨_, rfl, undef, rfl, H57⟩)
          · intro η41 wd64 Δ65 hE60 hR61 hA62 H63
            have H63 : Hp w0 ((Δ65 ++ Γ)) wd64 := H63
            refine sp_op [(16, .slice A1 a_.length c2), (17, .int .i64 i22)] (ac (hE60 0 (by decide)) (ac (hE60 1 (by decide)) an)) ?_
            have hA66 := (hv4 _ (H63).tl).adO hj35
            refine r_ix IX26 rfl rfl hA66 h033 h134 ?_
            exact r_nil (n_lp ⟨_, rfl, undef, rfl, H63⟩)
          · intro η41 wd71 Δ72 hE67 hR68 hA69 H70
            refine sp_op [(18, .pointer (some ((oA A1).add (Int.toNat i22 * 6))))] (ac (hE67 2 (by decide)) an) ?_
            refine r_fa FA37_0 (((oA A1).add (Int.toNat i22 * 6)).add 0) rfl rfl ?_
            exact r_nil (n_lp ⟨_, rfl, undef, rfl, H70⟩)
          · intro η41 wd77 Δ78 hE73 hR74 hA75 H76
            have H76 : Hp w0 ((Δ78 ++ Γ)) wd77 := H76
            refine sp_op [(19, .pointer (some (((oA A1).add (Int.toNat i22 * 6)).add 0)))] (ac (hE73 3 (by decide)) an) ?_
            have hA79 := (hv4 _ (H76).tl).adO hj35
            refine r_ld1 (.int .i64 y27.Seq) LD3 rfl ((hv4 _ (H76).tl).cA hA79 hj35 0 _ rfl) ?_
            exact r_nil (n_lp ⟨_, rfl, undef, rfl, H76⟩)
          · intro η41 wd84 Δ85 hE80 hR81 hA82 H83
            refine sp_op [(1, .slice A9 b_.length c10)] (ac rfl an) ?_
            refine r_pure (.slice A9 b_.length c10) rfl ?_
            exact r_nil (n_lp ⟨_, rfl, undef, rfl, H83⟩)
          · intro η41 wd90 Δ91 hE86 hR87 hA88 H89
            refine sp_op [(5, .int .i64 i22)] (ac rfl an) ?_
            refine r_pure (.int .i64 i22) rfl ?_
            exact r_nil (n_lp ⟨_, rfl, undef, rfl, H89⟩)
          · intro η41 wd96 Δ97 hE92 hR93 hA94 H95
            have H95 : Hp w0 ((Δ97 ++ Γ)) wd96 := H95
            refine sp_op [(21, .slice A9 b_.length c10), (22, .int .i64 i22)] (ac (hE92 5 (by decide)) (ac (hE92 6 (by decide)) an)) ?_
            have hA101 := (hv12 _ (H95).tl).adO hj45
            refine r_ix IX26 rfl rfl hA101 h043 h144 ?_
            exact r_nil (n_lp ⟨_, rfl, undef, rfl, H95⟩)
          · intro η41 wd106 Δ107 hE102 hR103 hA104 H105
            refine sp_op [(23, .pointer (some ((oA A9).add (Int.toNat i22 * 6))))] (ac (hE102 7 (by decide)) an) ?_
            refine r_fa FA37_0 (((oA A9).add (Int.toNat i22 * 6)).add 0) rfl rfl ?_
            exact r_nil (n_lp ⟨_, rfl, undef, rfl, H105⟩)
          · intro η41 wd112 Δ113 hE108 hR109 hA110 H111
            have H111 : Hp w0 ((Δ113 ++ Γ)) wd112 := H111
            refine sp_op [(24, .pointer (some (((oA A9).add (Int.toNat i22 * 6)).add 0)))] (ac (hE108 8 (by decide)) an) ?_
            have hA114 := (hv12 _ (H111).tl).adO hj45
            refine r_ld1 (.int .i64 ((rd b_ i22).Seq)) LD3 rfl ((hv12 _ (H111).tl).cA hA114 hj45 0 _ rfl) ?_
            exact r_nil (n_lp ⟨_, rfl, undef, rfl, H111⟩)
          · intro η41 wd119 Δ120 hE115 hR116 hA117 H118
            refine sp_op [(20, .int .i64 y27.Seq), (25, .int .i64 ((rd b_ i22).Seq))] (ac (hE115 4 (by decide)) (ac (hE115 9 (by decide)) an)) ?_
            refine r_pure (.bool (y27.Seq != (rd b_ i22).Seq)) rfl ?_
            exact r_nil (n_lp ⟨_, rfl, undef, rfl, H118⟩)
          · intro η41 wd125 Δ126 hE121 hR122 hA123 H124
            refine sp_op [(26, .bool (y27.Seq != (rd b_ i22).Seq))] (ac (hE121 10 (by decide)) an) ?_
            refine r_pure (.bool (y27.Seq != (rd b_ i22).Seq)) rfl ?_
            exact r_nil (n_lp ⟨_, rfl, undef, rfl, H124⟩)
          · intro η41 wd131 Δ132 hE127 hR128 hA129 H130
            refine sp_op [(27, .bool (y27.Seq != (rd b_ i22).Seq))] (ac (hE127 11 (by decide)) an) ?_
            refine r_not (wn_f rfl rfl (by decide) rfl hb47) ?_
            exact r_nil (n_lp ⟨_, rfl, undef, rfl, H130⟩)
          · intro η41 wd137 Δ138 hE133 hR134 hA135 H136
            refine sp_op [(27, .bool (y27.Seq != (rd b_ i22).Seq))] (ac (hE133 11 (by decide)) an) ?_
            refine r_not (wn_f rfl rfl (by decide) rfl hb47) ?_
            exact r_nil (n_lp ⟨_, rfl, undef, rfl, H136⟩)
          · intro η41 wd143 Δ144 hE139 hR140 hA141 H142
            refine sp_op [(27, .bool (y27.Seq != (rd b_ i22).Seq))] (ac (hE139 11 (by decide)) an) ?_
            refine r_not (wn_f rfl rfl (by decide) rfl hb47) ?_
            exact r_nil (n_lp ⟨_, rfl, undef, rfl, H142⟩)
          · intro η41 wd149 Δ150 hE145 hR146 hA147 H148
            refine sp_op [(27, .bool (y27.Seq != (rd b_ i22).Seq))] (ac (hE145 11 (by decide)) an) ?_
            refine r_not (wn_f rfl rfl (by decide) rfl hb47) ?_
            exact r_nil (n_lp ⟨_, rfl, undef, rfl, H148⟩)
          · intro η41 wd155 Δ156 hE151 hR152 hA153 H154
            refine sp_op [(27, .bool (y27.Seq != (rd b_ i22).Seq))] (ac (hE151 11 (by decide)) an) ?_
            refine r_not (wn_f rfl rfl (by decide) rfl hb47) ?_
            exact r_nil (n_lp ⟨_, rfl, undef, rfl, H154⟩)
          · intro η41 wd161 Δ162 hE157 hR158 hA159 H160
            refine sp_op [(27, .bool (y27.Seq != (rd b_ i22).Seq))] (ac (hE157 11 (by decide)) an) ?_
            refine r_not (wn_f rfl rfl (by decide) rfl hb47) ?_
            exact r_nil (n_lp ⟨_, rfl, undef, rfl, H160⟩)
          · intro η41 wd167 Δ168 hE163 hR164 hA165 H166
            refine sp_op [(27, .bool (y27.Seq != (rd b_ i22).Seq))] (ac (hE163 11 (by decide)) an) ?_
            refine r_not (wn_f rfl rfl (by decide) rfl hb47) ?_
            exact r_nil (n_lp ⟨_, rfl, undef, rfl, H166⟩)
          · intro η41 wd173 Δ174 hE169 hR170 hA171 H172
            refine sp_op [(27, .bool (y27.Seq != (rd b_ i22).Seq))] (ac (hE169 11 (by decide)) an) ?_
            refine r_not (wn_f rfl rfl (by decide) rfl hb47) ?_
            exact r_nil (n_lp ⟨_, rfl, undef, rfl, H172⟩)
          · intro η41 wd179 Δ180 hE175 hR176 hA177 H178
            refine sp_op [(27, .bool (y27.Seq != (rd b_ i22).Seq))] (ac (hE175 11 (by decide)) an) ?_
            refine r_not (wn_f rfl rfl (by decide) rfl hb47) ?_
            exact r_nil (n_lp ⟨_, rfl, undef, rfl, H178⟩)
          · intro η41 wd185 Δ186 hE181 hR182 hA183 H184
            refine sp_op [(27, .bool (y27.Seq != (rd b_ i22).Seq))] (ac (hE181 11 (by decide)) an) ?_
            refine r_not (wn_f rfl rfl (by decide) rfl hb47) ?_
            exact r_nil (n_lp ⟨_, rfl, undef, rfl, H184⟩)
          · intro η41 wd191 Δ192 hE187 hR188 hA189 H190
            refine sp_op [(27, .bool (y27.Seq != (rd b_ i22).Seq))] (ac (hE187 11 (by decide)) an) ?_
            refine r_not (wn_f rfl rfl (by decide) rfl hb47) ?_
            exact r_nil (n_lp ⟨_, rfl, undef, rfl, H190⟩)
          · intro η41 wd197 Δ198 hE193 hR194 hA195 H196
            refine sp_op [(27, .bool (y27.Seq != (rd b_ i22).Seq)), (38, undef)] (ac (hE193 11 (by decide)) (ac (hE193 22 (by decide)) an)) ?_
            refine r_pick_t (.bool true) hb47 rfl rfl ?_
            exact r_nil (n_lp ⟨_, rfl, undef, rfl, H196⟩)
          · intro η41 wd203 Δ204 hE199 hR200 hA201 H202
            refine sp_op [(39, .bool true)] (ac (hE199 23 (by decide)) an) ?_
            refine r_pure (.bool true) rfl ?_
            exact r_nil (n_lp ⟨_, rfl, undef, rfl, H202⟩)
          · intro η41 wd209 Δ210 hE205 hR206 hA207 H208
            refine sp_op [(40, .bool true)] (ac (hE205 24 (by decide)) an) ?_
            refine r_not (wn_f rfl rfl (by decide) rfl rfl) ?_
            exact r_nil (n_lp ⟨_, rfl, undef, rfl, H208⟩)
          · intro η41 wd215 Δ216 hE211 hR212 hA213 H214
            refine sp_op [(40, .bool true)] (ac (hE211 24 (by decide)) an) ?_
            refine r_not (wn_f rfl rfl (by decide) rfl rfl) ?_
            exact r_nil (n_lp ⟨_, rfl, undef, rfl, H214⟩)
          · intro η41 wd221 Δ222 hE217 hR218 hA219 H220
            refine sp_op [(40, .bool true)] (ac (hE217 24 (by decide)) an) ?_
            refine r_not (wn_f rfl rfl (by decide) rfl rfl) ?_
            exact r_nil (n_lp ⟨_, rfl, undef, rfl, H220⟩)
          · intro η41 wd227 Δ228 hE223 hR224 hA225 H226
            refine sp_op [(40, .bool true)] (ac (hE223 24 (by decide)) an) ?_
            refine r_not (wn_f rfl rfl (by decide) rfl rfl) ?_
            exact r_nil (n_lp ⟨_, rfl, undef, rfl, H226⟩)
          · intro η41 wd233 Δ234 hE229 hR230 hA231 H232
            refine sp_op [(40, .bool true)] (ac (hE229 24 (by decide)) an) ?_
            refine r_not (wn_f rfl rfl (by decide) rfl rfl) ?_
            exact r_nil (n_lp ⟨_, rfl, undef, rfl, H232⟩)
          · intro η41 wd239 Δ240 hE235 hR236 hA237 H238
            refine sp_op [(40, .bool true)] (ac (hE235 24 (by decide)) an) ?_
            refine r_not (wn_f rfl rfl (by decide) rfl rfl) ?_
            exact r_nil (n_lp ⟨_, rfl, undef, rfl, H238⟩)
          · intro η41 wd245 Δ246 hE241 hR242 hA243 H244
            refine sp_op [(40, .bool true)] (ac (hE241 24 (by decide)) an) ?_
            refine r_not (wn_f rfl rfl (by decide) rfl rfl) ?_
            exact r_nil (n_lp ⟨_, rfl, undef, rfl, H244⟩)
          · intro η41 wd251 Δ252 hE247 hR248 hA249 H250
            refine sp_op [(40, .bool true)] (ac (hE247 24 (by decide)) an) ?_
            refine r_not (wn_f rfl rfl (by decide) rfl rfl) ?_
            exact r_nil (n_lp ⟨_, rfl, undef, rfl, H250⟩)
          · intro η41 wd257 Δ258 hE253 hR254 hA255 H256
            refine sp_op [(40, .bool true)] (ac (hE253 24 (by decide)) an) ?_
            refine r_not (wn_f rfl rfl (by decide) rfl rfl) ?_
            exact r_nil (n_lp ⟨_, rfl, undef, rfl, H256⟩)
          · intro η41 wd263 Δ264 hE259 hR260 hA261 H262
            refine sp_op [(40, .bool true)] (ac (hE259 24 (by decide)) an) ?_
            refine r_not (wn_f rfl rfl (by decide) rfl rfl) ?_
            exact r_nil (n_lp ⟨_, rfl, undef, rfl, H262⟩)
          · intro η41 wd269 Δ270 hE265 hR266 hA267 H268
            refine sp_op [(40, .bool true)] (ac (hE265 24 (by decide)) an) ?_
            refine r_not (wn_f rfl rfl (by decide) rfl rfl) ?_
            exact r_nil (n_lp ⟨_, rfl, undef, rfl, H268⟩)
          · intro η41 wd275 Δ276 hE271 hR272 hA273 H274
            refine sp_op [(40, .bool true), (51, undef)] (ac (hE271 24 (by decide)) (ac (hE271 35 (by decide)) an)) ?_
            refine r_pick_t (.bool true) rfl rfl rfl ?_
            exact r_nil (n_lp ⟨_, rfl, undef, rfl, H274⟩)
          · intro η41 wd281 Δ282 hE277 hR278 hA279 H280
            refine sp_op [(52, .bool true)] (ac (hE277 36 (by decide)) an) ?_
            refine r_pure (.bool true) rfl ?_
            exact r_nil (n_lp ⟨_, rfl, undef, rfl, H280⟩)
          · intro η41 wd287 Δ288 hE283 hR284 hA285 H286
            refine sp_op [(53, .bool true)] (ac (hE283 37 (by decide)) an) ?_
            refine r_not (wn_f rfl rfl (by decide) rfl rfl) ?_
            exact r_nil (n_lp ⟨_, rfl, undef, rfl, H286⟩)
          · intro η41 wd293 Δ294 hE289 hR290 hA291 H292
            refine sp_op [(53, .bool true)] (ac (hE289 37 (by decide)) an) ?_
            refine r_not (wn_f rfl rfl (by decide) rfl rfl) ?_
            exact r_nil (n_lp ⟨_, rfl, undef, rfl, H292⟩)
          · intro η41 wd299 Δ300 hE295 hR296 hA297 H298
            refine sp_op [(53, .bool true)] (ac (hE295 37 (by decide)) an) ?_
            refine r_not (wn_f rfl rfl (by decide) rfl rfl) ?_
            exact r_nil (n_lp ⟨_, rfl, undef, rfl, H298⟩)
          · intro η41 wd305 Δ306 hE301 hR302 hA303 H304
            refine sp_op [(53, .bool true)] (ac (hE301 37 (by decide)) an) ?_
            refine r_not (wn_f rfl rfl (by decide) rfl rfl) ?_
            exact r_nil (n_lp ⟨_, rfl, undef, rfl, H304⟩)
          · intro η41 wd311 Δ312 hE307 hR308 hA309 H310
            refine sp_op [(53, .bool true)] (ac (hE307 37 (by decide)) an) ?_
            refine r_not (wn_f rfl rfl (by decide) rfl rfl) ?_
            exact r_nil (n_lp ⟨_, rfl, undef, rfl, H310⟩)
          · intro η41 wd317 Δ318 hE313 hR314 hA315 H316
            refine sp_op [(53, .bool true)] (ac (hE313 37 (by decide)) an) ?_
            refine r_not (wn_f rfl rfl (by decide) rfl rfl) ?_
            exact r_nil (n_lp ⟨_, rfl, undef, rfl, H316⟩)
          · intro η41 wd323 Δ324 hE319 hR320 hA321 H322
            refine sp_op [(53, .bool true)] (ac (hE319 37 (by decide)) an) ?_
            refine r_not (wn_f rfl rfl (by decide) rfl rfl) ?_
            exact r_nil (n_lp ⟨_, rfl, undef, rfl, H322⟩)
          · intro η41 wd329 Δ330 hE325 hR326 hA327 H328
            refine sp_op [(53, .bool true)] (ac (hE325 37 (by decide)) an) ?_
            refine r_not (wn_f rfl rfl (by decide) rfl rfl) ?_
            exact r_nil (n_lp ⟨_, rfl, undef, rfl, H328⟩)
          · intro η41 wd335 Δ336 hE331 hR332 hA333 H334
            refine sp_op [(53, .bool true)] (ac (hE331 37 (by decide)) an) ?_
            refine r_not (wn_f rfl rfl (by decide) rfl rfl) ?_
            exact r_nil (n_lp ⟨_, rfl, undef, rfl, H334⟩)
          · intro η41 wd341 Δ342 hE337 hR338 hA339 H340
            refine sp_op [(53, .bool true)] (ac (hE337 37 (by decide)) an) ?_
            refine r_not (wn_f rfl rfl (by decide) rfl rfl) ?_
            exact r_nil (n_lp ⟨_, rfl, undef, rfl, H340⟩)
          · intro η41 wd347 Δ348 hE343 hR344 hA345 H346
            refine sp_op [(53, .bool true)] (ac (hE343 37 (by decide)) an) ?_
            refine r_not (wn_f rfl rfl (by decide) rfl rfl) ?_
            exact r_nil (n_lp ⟨_, rfl, undef, rfl, H346⟩)
          · intro η41 wd353 Δ354 hE349 hR350 hA351 H352
            refine sp_op [(53, .bool true), (64, undef)] (ac (hE349 37 (by decide)) (ac (hE349 48 (by decide)) an)) ?_
            refine r_pick_t (.bool true) rfl rfl rfl ?_
            exact r_nil (n_lp ⟨_, rfl, undef, rfl, H352⟩)
          · intro η41 wd359 Δ360 hE355 hR356 hA357 H358
            refine sp_op [(65, .bool true)] (ac (hE355 49 (by decide)) an) ?_
            refine r_pure (.bool true) rfl ?_
            exact r_nil (n_lp ⟨_, rfl, undef, rfl, H358⟩)
          · intro η41 wd365 Δ366 hE361 hR362 hA363 H364
            refine sp_op [(66, .bool true)] (ac (hE361 50 (by decide)) an) ?_
            refine r_not (wn_f rfl rfl (by decide) rfl rfl) ?_
            exact r_nil (n_lp ⟨_, rfl, undef, rfl, H364⟩)
          · intro η41 wd371 Δ372 hE367 hR368 hA369 H370
            refine sp_op [(66, .bool true)] (ac (hE367 50 (by decide)) an) ?_
            refine r_not (wn_f rfl rfl (by decide) rfl rfl) ?_
            exact r_nil (n_lp ⟨_, rfl, undef, rfl, H370⟩)
          · intro η41 wd377 Δ378 hE373 hR374 hA375 H376
            refine sp_op [(66, .bool true)] (ac (hE373 50 (by decide)) an) ?_
            refine r_not (wn_f rfl rfl (by decide) rfl rfl) ?_
            exact r_nil (n_lp ⟨_, rfl, undef, rfl, H376⟩)
          · intro η41 wd383 Δ384 hE379 hR380 hA381 H382
            refine sp_op [(66, .bool true)] (ac (hE379 50 (by decide)) an) ?_
            refine r_not (wn_f rfl rfl (by decide) rfl rfl) ?_
            exact r_nil (n_lp ⟨_, rfl, undef, rfl, H382⟩)
          · intro η41 wd389 Δ390 hE385 hR386 hA387 H388
            refine sp_op [(66, .bool true)] (ac (hE385 50 (by decide)) an) ?_
            refine r_not (wn_f rfl rfl (by decide) rfl rfl) ?_
            exact r_nil (n_lp ⟨_, rfl, undef, rfl, H388⟩)
          · intro η41 wd395 Δ396 hE391 hR392 hA393 H394
            refine sp_op [(66, .bool true)] (ac (hE391 50 (by decide)) an) ?_
            refine r_not (wn_f rfl rfl (by decide) rfl rfl) ?_
            exact r_nil (n_lp ⟨_, rfl, undef, rfl, H394⟩)
          · intro η41 wd401 Δ402 hE397 hR398 hA399 H400
            refine sp_op [(66, .bool true)] (ac (hE397 50 (by decide)) an) ?_
            refine r_not (wn_f rfl rfl (by decide) rfl rfl) ?_
            exact r_nil (n_lp ⟨_, rfl, undef, rfl, H400⟩)
          · intro η41 wd407 Δ408 hE403 hR404 hA405 H406
            refine sp_op [(66, .bool true)] (ac (hE403 50 (by decide)) an) ?_
            refine r_not (wn_f rfl rfl (by decide) rfl rfl) ?_
            exact r_nil (n_lp ⟨_, rfl, undef, rfl, H406⟩)
          · intro η41 wd413 Δ414 hE409 hR410 hA411 H412
            refine sp_op [(66, .bool true)] (ac (hE409 50 (by decide)) an) ?_
            refine r_not (wn_f rfl rfl (by decide) rfl rfl) ?_
            exact r_nil (n_lp ⟨_, rfl, undef, rfl, H412⟩)
          · intro η41 wd419 Δ420 hE415 hR416 hA417 H418
            refine sp_op [(66, .bool true)] (ac (hE415 50 (by decide)) an) ?_
            refine r_not (wn_f rfl rfl (by decide) rfl rfl) ?_
            exact r_nil (n_lp ⟨_, rfl, undef, rfl, H418⟩)
          · intro η41 wd425 Δ426 hE421 hR422 hA423 H424
            refine sp_op [(66, .bool true)] (ac (hE421 50 (by decide)) an) ?_
            refine r_not (wn_f rfl rfl (by decide) rfl rfl) ?_
            exact r_nil (n_lp ⟨_, rfl, undef, rfl, H424⟩)
          · intro η41 wd431 Δ432 hE427 hR428 hA429 H430
            refine sp_op [(66, .bool true), (77, undef)] (ac (hE427 50 (by decide)) (ac (hE427 61 (by decide)) an)) ?_
            refine r_pick_t (.bool true) rfl rfl rfl ?_
            exact r_nil (n_lp ⟨_, rfl, undef, rfl, H430⟩)
          · intro η41 wd437 Δ438 hE433 hR434 hA435 H436
            refine sp_op [(78, .bool true)] (ac (hE433 62 (by decide)) an) ?_
            refine r_pure (.bool true) rfl ?_
            exact r_nil (n_lp ⟨_, rfl, undef, rfl, H436⟩)
          · intro η41 wd443 Δ444 hE439 hR440 hA441 H442
            refine sp_op [(79, .bool true)] (ac (hE439 63 (by decide)) an) ?_
            refine r_not (wn_f rfl rfl (by decide) rfl rfl) ?_
            exact r_nil (n_lp ⟨_, rfl, undef, rfl, H442⟩)
          · intro η41 wd449 Δ450 hE445 hR446 hA447 H448
            refine sp_op [(79, .bool true)] (ac (hE445 63 (by decide)) an) ?_
            refine r_not (wn_f rfl rfl (by decide) rfl rfl) ?_
            exact r_nil (n_lp ⟨_, rfl, undef, rfl, H448⟩)
          · intro η41 wd455 Δ456 hE451 hR452 hA453 H454
            refine sp_op [(79, .bool true)] (ac (hE451 63 (by decide)) an) ?_
            refine r_not (wn_f rfl rfl (by decide) rfl rfl) ?_
            exact r_nil (n_lp ⟨_, rfl, undef, rfl, H454⟩)
          · intro η41 wd461 Δ462 hE457 hR458 hA459 H460
            refine sp_op [(79, .bool true)] (ac (hE457 63 (by decide)) an) ?_
            refine r_not (wn_f rfl rfl (by decide) rfl rfl) ?_
            exact r_nil (n_lp ⟨_, rfl, undef, rfl, H460⟩)
          · intro η41 wd467 Δ468 hE463 hR464 hA465 H466
            refine sp_op [(79, .bool true)] (ac (hE463 63 (by decide)) an) ?_
            refine r_not (wn_f rfl rfl (by decide) rfl rfl) ?_
            exact r_nil (n_lp ⟨_, rfl, undef, rfl, H466⟩)
          · intro η41 wd473 Δ474 hE469 hR470 hA471 H472
            refine sp_op [(79, .bool true)] (ac (hE469 63 (by decide)) an) ?_
            refine r_not (wn_f rfl rfl (by decide) rfl rfl) ?_
            exact r_nil (n_lp ⟨_, rfl, undef, rfl, H472⟩)
          · intro η41 wd479 Δ480 hE475 hR476 hA477 H478
            refine sp_op [(79, .bool true)] (ac (hE475 63 (by decide)) an) ?_
            refine r_not (wn_f rfl rfl (by decide) rfl rfl) ?_
            exact r_nil (n_lp ⟨_, rfl, undef, rfl, H478⟩)
          · intro η41 wd485 Δ486 hE481 hR482 hA483 H484
            refine sp_op [(79, .bool true)] (ac (hE481 63 (by decide)) an) ?_
            refine r_not (wn_f rfl rfl (by decide) rfl rfl) ?_
            exact r_nil (n_lp ⟨_, rfl, undef, rfl, H484⟩)
          · intro η41 wd491 Δ492 hE487 hR488 hA489 H490
            refine sp_op [(79, .bool true)] (ac (hE487 63 (by decide)) an) ?_
            refine r_not (wn_f rfl rfl (by decide) rfl rfl) ?_
            exact r_nil (n_lp ⟨_, rfl, undef, rfl, H490⟩)
          · intro η41 wd497 Δ498 hE493 hR494 hA495 H496
            refine sp_op [(79, .bool true)] (ac (hE493 63 (by decide)) an) ?_
            refine r_not (wn_f rfl rfl (by decide) rfl rfl) ?_
            exact r_nil (n_lp ⟨_, rfl, undef, rfl, H496⟩)
          · intro η41 wd503 Δ504 hE499 hR500 hA501 H502
            refine sp_op [(79, .bool true)] (ac (hE499 63 (by decide)) an) ?_
            refine r_not (wn_f rfl rfl (by decide) rfl rfl) ?_
            exact r_nil (n_lp ⟨_, rfl, undef, rfl, H502⟩)
          · intro η41 wd509 Δ510 hE505 hR506 hA507 H508
            refine sp_op [(79, .bool true)] (ac (hE505 63 (by decide)) an) ?_
            refine r_not (wn_f rfl rfl (by decide) rfl rfl) ?_
            exact r_nil (n_lp ⟨_, rfl, undef, rfl, H508⟩)
          · intro η41 wd515 Δ516 hE511 hR512 hA513 H514
            refine sp_op [(79, .bool true), (91, undef)] (ac (hE511 63 (by decide)) (ac (hE511 75 (by decide)) an)) ?_
            refine r_pick_t (.bool true) rfl rfl rfl ?_
            exact r_nil (n_lp ⟨_, rfl, undef, rfl, H514⟩)
          · intro η41 wd518 hV519 H517
            have H520 : Hp w0 (Γ) wd518 := H517
            refine n_frame [(0, .slice A1 a_.length c2), (1, .slice A9 b_.length c10), (12, .int .i64 (a_.length : Int)), (13, .int .i64 i22), (92, .bool true)] (ac rfl (ac rfl (ac rfl (ac rfl (ac (hV519 76 rfl) an))))) ?_
            refine n_cut ⟨true, upk (ac rfl (ac rfl (ac rfl (ac rfl (ac rfl an))))), H520, hm⟩
        · rcases ite_some hm with ⟨hb521, hm⟩ | ⟨hb521, hm⟩
          · refine Flow.run' RA11_6 RW11_6 ((fun η41 v => v.1 = .slice A1 a_.length c2) :: (fun η41 v => v.1 = .int .i64 i22) :: (fun η41 v => v.1 = .pointer (some ((oA A1).add (Int.toNat i22 * 6)))) :: (fun η41 v => v.1 = .pointer (some (((oA A1).add (Int.toNat i22 * 6)).add 0))) :: (fun η41 v => v.1 = .int .i64 y27.Seq) :: (fun η41 v => v.1 = .slice A9 b_.length c10) :: (fun η41 v => v.1 = .int .i64 i22) :: (fun η41 v => v.1 = .pointer (some ((oA A9).add (Int.toNat i22 * 6)))) :: (fun η41 v => v.1 = .pointer (some (((oA A9).add (Int.toNat i22 * 6)).add 0))) :: (fun η41 v => v.1 = .int .i64 ((rd b_ i22).Seq)) :: (fun η41 v => v.1 = .bool (y27.Seq != (rd b_ i22).Seq)) :: (fun η41 v => v.1 = .bool (y27.Seq != (rd b_ i22).Seq)) :: (fun η41 v => v.1 = .slice A1 a_.length c2) :: (fun η41 v => v.1 = .int .i64 i22) :: (fun η41 v => v.1 = .pointer (some ((oA A1).add (Int.toNat i22 * 6)))) :: (fun η41 v => v.1 = .pointer (some (((oA A1).add (Int.toNat i22 * 6)).add 1))) :: (fun η41 v => v.1 = .string y27.Entity) :: (fun η41 v => v.1 = .slice A9 b_.length c10) :: (fun η41 v => v.1 = .int .i64 i22) :: (fun η41 v => v.1 = .pointer (some ((oA A9).add (Int.toNat i22 * 6)))) :: (fun η41 v => v.1 = .pointer (some (((oA A9).add (Int.toNat i22 * 6)).add 1))) :: (fun η41 v => v.1 = .string ((rd b_ i22).Entity)) :: (fun η41 v => v.1 = .bool (!((y27.Entity).toList == ((rd b_ i22).Entity).toList))) :: (fun η41 v => v.1 = .bool (!((y27.Entity).toList == ((rd b_ i22).Entity).toList))) :: (fun η41 v => v.1 = .bool (!((y27.Entity).toList == ((rd b_ i22).Entity).toList))) :: (fun η41 v => v.1 = undef) :: (fun η41 v => v.1 = undef) :: (fun η41 v => v.1 = undef) :: (fun η41 v => v.1 = undef) :: (fun η41 v => v.1 = undef) :: (fun η41 v => v.1 = undef) :: (fun η41 v => v.1 = undef) :: (fun η41 v => v.1 = undef) :: (fun η41 v => v.1 = undef) :: (fun η41 v => v.1 = undef) :: (fun η41 v => v.1 = undef) :: (fun η41 v => v.1 = .bool true) :: (fun η41 v => v.1 = .bool true) :: (fun η41 v => v.1 = undef) :: (fun η41 v => v.1 = undef) :: (fun η41 v => v.1 = undef) :: (fun η41 v => v.1 = undef) :: (fun η41 v => v.1 = undef) :: (fun η41 v => v.1 = undef) :: (fun η41 v => v.1 = undef) :: (fun η41 v => v.1 = undef) :: (fun η41 v => v.1 = undef) :: (fun η41 v => v.1 = undef) :: (fun η41 v => v.1 = undef) :: (fun η41 v => v.1 = .bool true) :: (fun η41 v => v.1 = .bool true) :: (fun η41 v => v.1 = undef) :: (fun η41 v => v.1 = undef) :: (fun η41 v => v.1 = undef) :: (fun η41 v => v.1 = undef) :: (fun η41 v => v.1 = undef) :: (fun η41 v => v.1 = undef) :: (fun η41 v => v.1 = undef) :: (fun η41 v => v.1 = undef) :: (fun η41 v => v.1 = undef) :: (fun η41 v => v.1 = undef) :: (fun η41 v => v.1 = undef) :: (fun η41 v => v.1 = .bool true) :: (fun η41 v => v.1 = .bool true) :: (fun η41 v => v.1 = undef) :: (fun η41 v => v.1 = undef) :: (fun η41 v => v.1 = undef) :: (fun η41 v => v.1 = undef) :: (fun η41 v => v.1 = undef) :: (fun η41 v => v.1 = undef) :: (fun η41 v => v.1 = undef) :: (fun η41 v => v.1 = undef) :: (fun η41 v => v.1 = undef) :: (fun η41 v => v.1 = undef) :: (fun η41 v => v.1 = undef) :: (fun η41 v => v.1 = undef) :: (fun η41 v => v.1 = .bool true) :: []) [] rfl (by kernel_rfl) (by kernel_rfl) H18 ⟨?_, ?_, ?_, ?_, ?_, ?_, ?_, ?_, ?_, ?_, ?_, ?_, ?_, ?_, ?_, ?_, ?_, ?_, ?_, ?_, ?_, ?_, ?_, ?_, ?_, ?_, ?_, ?_, ?_, ?_, ?_, ?_, ?_, ?_, ?_, ?_, ?_, ?_, ?_, ?_, ?_, ?_, ?_, ?_, ?_, ?_, ?_, ?_, ?_, ?_, ?_, ?_, ?_, ?_, ?_, ?_, ?_, ?_, ?_, ?_, ?_, ?_, ?_, ?_, ?_, ?_, ?_, ?_, ?_, ?_, ?_, ?_, ?_, ?_, ?_, ?_, ?_, trivial⟩ ?_
            · intro η41 wd526 Δ527 hE522 hR523 hA524 H525
              refine sp_op [(0, .slice A1 a_.length c2)] (ac rfl an) ?_
              refine r_pure (.slice A1 a_.length c2) rfl ?_
              exact r_nil (n_lp ⟨_, rfl, undef, rfl, H525⟩)
            · intro η41 wd532 Δ533 hE528 hR529 hA530 H531
              refine sp_op [(5, .int .i64 i22)] (ac rfl an) ?_
              refine r_pure (.int .i64 i22) rfl ?_
              exact r_nil (n_lp ⟨_, rfl, undef, rfl, H531⟩)
            · intro η41 wd538 Δ539 hE534 hR535 hA536 H537
              have H537 : Hp w0 ((Δ539 ++ Γ)) wd538 := H537
              refine sp_op [(16, .slice A1 a_.length c2), (17, .int .i64 i22)] (ac (hE534 0 (by decide)) (ac (hE534 1 (by decide)) an)) ?_
              have hA540 := (hv4 _ (H537).tl).adO hj35
              refine r_ix IX26 rfl rfl hA540 h033 h134 ?_
              exact r_nil (n_lp ⟨_, rfl, undef, rfl, H537⟩)
            · intro η41 wd545 Δ546 hE541 hR542 hA543 H544
              refine sp_op [(18, .pointer (some ((oA A1).add (Int.toNat i22 * 6))))] (ac (hE541 2 (by decide)) an) ?_
              refine r_fa FA37_0 (((oA A1).add (Int.toNat i22 * 6)).add 0) rfl rfl ?_
              exact r_nil (n_lp ⟨_, rfl, undef, rfl, H544⟩)
            · intro η41 wd551 Δ552 hE547 hR548 hA549 H550
              have H550 : Hp w0 ((Δ552 ++ Γ)) wd551 := H550
              refine sp_op [(19, .pointer (some (((oA A1).add (Int.toNat i22 * 6)).add 0)))] (ac (hE547 3 (by decide)) an) ?_
              have hA553 := (hv4 _ (H550).tl).adO hj35
              refine r_ld1 (.int .i64 y27.Seq) LD3 rfl ((hv4 _ (H550).tl).cA hA553 hj35 0 _ rfl) ?_
              exact r_nil (n_lp ⟨_, rfl, undef, rfl, H550⟩)
            · intro η41 wd558 Δ559 hE554 hR555 hA556 H557
              refine sp_op [(1, .slice A9 b_.length c10)] (ac rfl an) ?_
              refine r_pure (.slice A9 b_.length c10) rfl ?_
              exact r_nil (n_lp ⟨_, rfl, undef, rfl, H557⟩)
            · intro η41 wd564 Δ565 hE560 hR561 hA562 H563
              refine sp_op [(5, .int .i64 i22)] (ac rfl an) ?_
              refine r_pure (.int .i64 i22) rfl ?_
              exact r_nil (n_lp ⟨_, rfl, undef, rfl, H563⟩)
            · intro η41 wd570 Δ571 hE566 hR567 hA568 H569
              have H569 : Hp w0 ((Δ571 ++ Γ)) wd570 := H569
              refine sp_op [(21, .slice A9 b_.length c10), (22, .int .i64 i22)] (ac (hE566 5 (by decide)) (ac (hE566 6 (by decide)) an)) ?_
              have hA575 := (hv12 _ (H569).tl).adO hj45
              refine r_ix IX26 rfl rfl hA575 h043 h144 ?_
              exact r_nil (n_lp ⟨_, rfl, undef, rfl, H569⟩)
            · intro η41 wd580 Δ581 hE576 hR577 hA578 H579
              refine sp_op [(23, .pointer (some ((oA A9).add (Int.toNat i22 * 6))))] (ac (hE576 7 (by decide)) an) ?_
              refine r_fa FA37_0 (((oA A9).add (Int.toNat i22 * 6)).add 0) rfl rfl ?_
              exact r_nil (n_lp ⟨_, rfl, undef, rfl, H579⟩)
            · intro η41 wd586 Δ587 hE582 hR583 hA584 H585
              have H585 : Hp w0 ((Δ587 ++ Γ)) wd586 := H585
              refine sp_op [(24, .pointer (some (((oA A9).add (Int.toNat i22 * 6)).add 0)))] (ac (hE582 8 (by decide)) an) ?_
              have hA588 := (hv12 _ (H585).tl).adO hj45
              refine r_ld1 (.int .i64 ((rd b_ i22).Seq)) LD3 rfl ((hv12 _ (H585).tl).cA hA588 hj45 0 _ rfl) ?_
              exact r_nil (n_lp ⟨_, rfl, undef, rfl, H585⟩)
            · intro η41 wd593 Δ594 hE589 hR590 hA591 H592
              refine sp_op [(20, .int .i64 y27.Seq), (25, .int .i64 ((rd b_ i22).Seq))] (ac (hE589 4 (by decide)) (ac (hE589 9 (by decide)) an)) ?_
              refine r_pure (.bool (y27.Seq != (rd b_ i22).Seq)) rfl ?_
              exact r_nil (n_lp ⟨_, rfl, undef, rfl, H592⟩)
            · intro η41 wd599 Δ600 hE595 hR596 hA597 H598
              refine sp_op [(26, .bool (y27.Seq != (rd b_ i22).Seq))] (ac (hE595 10 (by decide)) an) ?_
              refine r_pure (.bool (y27.Seq != (rd b_ i22).Seq)) rfl ?_
              exact r_nil (n_lp ⟨_, rfl, undef, rfl, H598⟩)
            · intro η41 wd605 Δ606 hE601 hR602 hA603 H604
              refine sp_op [(0, .slice A1 a_.length c2), (27, .bool (y27.Seq != (rd b_ i22).Seq))] (ac rfl (ac (hE601 11 (by decide)) an)) ?_
              refine r_pure (.slice A1 a_.length c2) rfl ?_ (wn_t rfl rfl (by decide) rfl hb47)
              exact r_nil (n_lp ⟨_, rfl, undef, rfl, H604⟩)
            · intro η41 wd611 Δ612 hE607 hR608 hA609 H610
              refine sp_op [(5, .int .i64 i22), (27, .bool (y27.Seq != (rd b_ i22).Seq))] (ac rfl (ac (hE607 11 (by decide)) an)) ?_
              refine r_pure (.int .i64 i22) rfl ?_ (wn_t rfl rfl (by decide) rfl hb47)
              exact r_nil (n_lp ⟨_, rfl, undef, rfl, H610⟩)
            · intro η41 wd617 Δ618 hE613 hR614 hA615 H616
              have H616 : Hp w0 ((Δ618 ++ Γ)) wd617 := H616
              refine sp_op [(27, .bool (y27.Seq != (rd b_ i22).Seq)), (28, .slice A1 a_.length c2), (29, .int .i64 i22)] (ac (hE613 11 (by decide)) (ac (hE613 12 (by decide)) (ac (hE613 13 (by decide)) an))) ?_
              have hA619 := (hv4 _ (H616).tl).adO hj35
              refine r_ix IX26 rfl rfl hA619 h033 h134 ?_ (wn_t rfl rfl (by decide) rfl hb47)
              exact r_nil (n_lp ⟨_, rfl, undef, rfl, H616⟩)
            · intro η41 wd624 Δ625 hE620 hR621 hA622 H623
              refine sp_op [(27, .bool (y27.Seq != (rd b_ i22).Seq)), (30, .pointer (some ((oA A1).add (Int.toNat i22 * 6))))] (ac (hE620 11 (by decide)) (ac (hE620 14 (by decide)) an)) ?_
              refine r_fa FA37_1 (((oA A1).add (Int.toNat i22 * 6)).add 1) rfl rfl ?_ (wn_t rfl rfl (by decide) rfl hb47)
              exact r_nil (n_lp ⟨_, rfl, undef, rfl, H623⟩)
            · intro η41 wd630 Δ631 hE626 hR627 hA628 H629
              have H629 : Hp w0 ((Δ631 ++ Γ)) wd630 := H629
              refine sp_op [(27, .bool (y27.Seq != (rd b_ i22).Seq)), (31, .pointer (some (((oA A1).add (Int.toNat i22 * 6)).add 1)))] (ac (hE626 11 (by decide)) (ac (hE626 15 (by decide)) an)) ?_
              have hA632 := (hv4 _ (H629).tl).adO hj35
              refine r_ld1 (.string y27.Entity) LD9 rfl ((hv4 _ (H629).tl).cA hA632 hj35 1 _ rfl) ?_ (wn_t rfl rfl (by decide) rfl hb47)
              exact r_nil (n_lp ⟨_, rfl, undef, rfl, H629⟩)
            · intro η41 wd637 Δ638 hE633 hR634 hA635 H636
              refine sp_op [(1, .slice A9 b_.length c10), (27, .bool (y27.Seq != (rd b_ i22).Seq))] (ac rfl (ac (hE633 11 (by decide)) an)) ?_
              refine r_pure (.slice A9 b_.length c10) rfl ?_ (wn_t rfl rfl (by decide) rfl hb47)
              exact r_nil (n_lp ⟨_, rfl, undef, rfl, H636⟩)
            · intro η41 wd643 Δ644 hE639 hR640 hA641 H642
              refine sp_op [(5, .int .i64 i22), (27, .bool (y27.Seq != (rd b_ i22).Seq))] (ac rfl (ac (hE639 11 (by decide)) an)) ?_
              refine r_pure (.int .i64 i22) rfl ?_ (wn_t rfl rfl (by decide) rfl hb47)
              exact r_nil (n_lp ⟨_, rfl, undef, rfl, H642⟩)
            · intro η41 wd649 Δ650 hE645 hR646 hA647 H648
              have H648 : Hp w0 ((Δ650 ++ Γ)) wd649 := H648
              refine sp_op [(27, .bool (y27.Seq != (rd b_ i22).Seq)), (33, .slice A9 b_.length c10), (34, .int .i64 i22)] (ac (hE645 11 (by decide)) (ac (hE645 17 (by decide)) (ac (hE645 18 (by decide)) an))) ?_
              have hA651 := (hv12 _ (H648).tl).adO hj45
              refine r_ix IX26 rfl rfl hA651 h043 h144 ?_ (wn_t rfl rfl (by decide) rfl hb47)
              exact r_nil (n_lp ⟨_, rfl, undef, rfl, H648⟩)
            · intro η41 wd656 Δ657 hE652 hR653 hA654 H655
              refine sp_op [(27, .bool (y27.Seq != (rd b_ i22).Seq)), (35, .pointer (some ((oA A9).add (Int.toNat i22 * 6))))] (ac (hE652 11 (by decide)) (ac (hE652 19 (by decide)) an)) ?_
              refine r_fa FA37_1 (((oA A9).add (Int.toNat i22 * 6)).add 1) rfl rfl ?_ (wn_t rfl rfl (by decide) rfl hb47)
              exact r_nil (n_lp ⟨_, rfl, undef, rfl, H655⟩)
            · intro η41 wd662 Δ663 hE658 hR659 hA660 H661
              have H661 : Hp w0 ((Δ663 ++ Γ)) wd662 := H661
              refine sp_op [(27, .bool (y27.Seq != (rd b_ i22).Seq)), (36, .pointer (some (((oA A9).add (Int.toNat i22 * 6)).add 1)))] (ac (hE658 11 (by decide)) (ac (hE658 20 (by decide)) an)) ?_
              have hA664 := (hv12 _ (H661).tl).adO hj45
              refine r_ld1 (.string ((rd b_ i22).Entity)) LD9 rfl ((hv12 _ (H661).tl).cA hA664 hj45 1 _ rfl) ?_ (wn_t rfl rfl (by decide) rfl hb47)
              exact r_nil (n_lp ⟨_, rfl, undef, rfl, H661⟩)
            · intro η41 wd669 Δ670 hE665 hR666 hA667 H668
              refine sp_op [(27, .bool (y27.Seq != (rd b_ i22).Seq)), (32, .string y27.Entity), (37, .string ((rd b_ i22).Entity))] (ac (hE665 11 (by decide)) (ac (hE665 16 (by decide)) (ac (hE665 21 (by decide)) an))) ?_
              refine r_pure (.bool (!((y27.Entity).toList == ((rd b_ i22).Entity).toList))) rfl ?_ (wn_t rfl rfl (by decide) rfl hb47)
              exact r_nil (n_lp ⟨_, rfl, undef, rfl, H668⟩)
            · intro η41 wd675 Δ676 hE671 hR672 hA673 H674
              refine sp_op [(27, .bool (y27.Seq != (rd b_ i22).Seq)), (38, .bool (!((y27.Entity).toList == ((rd b_ i22).Entity).toList)))] (ac (hE671 11 (by decide)) (ac (hE671 22 (by decide)) an)) ?_
              refine r_pick_f (.bool (!((y27.Entity).toList == ((rd b_ i22).Entity).toList))) hb47 rfl rfl ?_
              exact r_nil (n_lp ⟨_, rfl, undef, rfl, H674⟩)
            · intro η41 wd681 Δ682 hE677 hR678 hA679 H680
              refine sp_op [(39, .bool (!((y27.Entity).toList == ((rd b_ i22).Entity).toList)))] (ac (hE677 23 (by decide)) an) ?_
              refine r_pure (.bool (!((y27.Entity).toList == ((rd b_ i22).Entity).toList))) rfl ?_
              exact r_nil (n_lp ⟨_, rfl, undef, rfl, H680⟩)
            · intro η41 wd687 Δ688 hE683 hR684 hA685 H686
              refine sp_op [(40, .bool (!((y27.Entity).toList == ((rd b_ i22).Entity).toList)))] (ac (hE683 24 (by decide)) an) ?_
              refine r_not (wn_f rfl rfl (by decide) rfl hb521) ?_
              exact r_nil (n_lp ⟨_, rfl, undef, rfl, H686⟩)
            · intro η41 wd693 Δ694 hE689 hR690 hA691 H692
              refine sp_op [(40, .bool (!((y27.Entity).toList == ((rd b_ i22).Entity).toList)))] (ac (hE689 24 (by decide)) an) ?_
              refine r_not (wn_f rfl rfl (by decide) rfl hb521) ?_
              exact r_nil (n_lp ⟨_, rfl, undef, rfl, H692⟩)
            · intro η41 wd699 Δ700 hE695 hR696 hA697 H698
              refine sp_op [(40, .bool (!((y27.Entity).toList == ((rd b_ i22).Entity).toList)))] (ac (hE695 24 (by decide)) an) ?_
              refine r_not (wn_f rfl rfl (by decide) rfl hb521) ?_
              exact r_nil (n_lp ⟨_, rfl, undef, rfl, H698⟩)
            · intro η41 wd705 Δ706 hE701 hR702 hA703 H704
              refine sp_op [(40, .bool (!((y27.Entity).toList == ((rd b_ i22).Entity).toList)))] (ac (hE701 24 (by decide)) an) ?_
              refine r_not (wn_f rfl rfl (by decide) rfl hb521) ?_
              exact r_nil (n_lp ⟨_, rfl, undef, rfl, H704⟩)
            · intro η41 wd711 Δ712 hE707 hR708 hA709 H710
              refine sp_op [(40, .bool (!((y27.Entity).toList == ((rd b_ i22).Entity).toList)))] (ac (hE707 24 (by decide)) an) ?_
              refine r_not (wn_f rfl rfl (by decide) rfl hb521) ?_
              exact r_nil (n_lp ⟨_, rfl, undef, rfl, H710⟩)
            · intro η41 wd717 Δ718 hE713 hR714 hA715 H716
              refine sp_op [(40, .bool (!((y27.Entity).toList == ((rd b_ i22).Entity).toList)))] (ac (hE713 24 (by decide)) an) ?_
              refine r_not (wn_f rfl rfl (by decide) rfl hb521) ?_
              exact r_nil (n_lp ⟨_, rfl, undef, rfl, H716⟩)
            · intro η41 wd723 Δ724 hE719 hR720 hA721 H722
              refine sp_op [(40, .bool (!((y27.Entity).toList == ((rd b_ i22).Entity).toList)))] (ac (hE719 24 (by decide)) an) ?_
              refine r_not (wn_f rfl rfl (by decide) rfl hb521) ?_
              exact r_nil (n_lp ⟨_, rfl, undef, rfl, H722⟩)
            · intro η41 wd729 Δ730 hE725 hR726 hA727 H728
              refine sp_op [(40, .bool (!((y27.Entity).toList == ((rd b_ i22).Entity).toList)))] (ac (hE725 24 (by decide)) an) ?_
              refine r_not (wn_f rfl rfl (by decide) rfl hb521) ?_
              exact r_nil (n_lp ⟨_, rfl, undef, rfl, H728⟩)
            · intro η41 wd735 Δ736 hE731 hR732 hA733 H734
              refine sp_op [(40, .bool (!((y27.Entity).toList == ((rd b_ i22).Entity).toList)))] (ac (hE731 24 (by decide)) an) ?_
              refine r_not (wn_f rfl rfl (by decide) rfl hb521) ?_
              exact r_nil (n_lp ⟨_, rfl, undef, rfl, H734⟩)
            · intro η41 wd741 Δ742 hE737 hR738 hA739 H740
              refine sp_op [(40, .bool (!((y27.Entity).toList == ((rd b_ i22).Entity).toList)))] (ac (hE737 24 (by decide)) an) ?_
              refine r_not (wn_f rfl rfl (by decide) rfl hb521) ?_
              exact r_nil (n_lp ⟨_, rfl, undef, rfl, H740⟩)
            · intro η41 wd747 Δ748 hE743 hR744 hA745 H746
              refine sp_op [(40, .bool (!((y27.Entity).toList == ((rd b_ i22).Entity).toList)))] (ac (hE743 24 (by decide)) an) ?_
              refine r_not (wn_f rfl rfl (by decide) rfl hb521) ?_
              exact r_nil (n_lp ⟨_, rfl, undef, rfl, H746⟩)
            · intro η41 wd753 Δ754 hE749 hR750 hA751 H752
              refine sp_op [(40, .bool (!((y27.Entity).toList == ((rd b_ i22).Entity).toList))), (51, undef)] (ac (hE749 24 (by decide)) (ac (hE749 35 (by decide)) an)) ?_
              refine r_pick_t (.bool true) hb521 rfl rfl ?_
              exact r_nil (n_lp ⟨_, rfl, undef, rfl, H752⟩)
            · intro η41 wd759 Δ760 hE755 hR756 hA757 H758
              refine sp_op [(52, .bool true)] (ac (hE755 36 (by decide)) an) ?_
              refine r_pure (.bool true) rfl ?_
              exact r_nil (n_lp ⟨_, rfl, undef, rfl, H758⟩)
            · intro η41 wd765 Δ766 hE761 hR762 hA763 H764
              refine sp_op [(53, .bool true)] (ac (hE761 37 (by decide)) an) ?_
              refine r_not (wn_f rfl rfl (by decide) rfl rfl) ?_
              exact r_nil (n_lp ⟨_, rfl, undef, rfl, H764⟩)
            · intro η41 wd771 Δ772 hE767 hR768 hA769 H770
              refine sp_op [(53, .bool true)] (ac (hE767 37 (by decide)) an) ?_
              refine r_not (wn_f rfl rfl (by decide) rfl rfl) ?_
              exact r_nil (n_lp ⟨_, rfl, undef, rfl, H770⟩)
            · intro η41 wd777 Δ778 hE773 hR774 hA775 H776
              refine sp_op [(53, .bool true)] (ac (hE773 37 (by decide)) an) ?_
              refine r_not (wn_f rfl rfl (by decide) rfl rfl) ?_
              exact r_nil (n_lp ⟨_, rfl, undef, rfl, H776⟩)
            · intro η41 wd783 Δ784 hE779 hR780 hA781 H782
              refine sp_op [(53, .bool true)] (ac (hE779 37 (by decide)) an) ?_
              refine r_not (wn_f rfl rfl (by decide) rfl rfl) ?_
              exact r_nil (n_lp ⟨_, rfl, undef, rfl, H782⟩)
            · intro η41 wd789 Δ790 hE785 hR786 hA787 H788
              refine sp_op [(53, .bool true)] (ac (hE785 37 (by decide)) an) ?_
              refine r_not (wn_f rfl rfl (by decide) rfl rfl) ?_
              exact r_nil (n_lp ⟨_, rfl, undef, rfl, H788⟩)
            · intro η41 wd795 Δ796 hE791 hR792 hA793 H794
              refine sp_op [(53, .bool true)] (ac (hE791 37 (by decide)) an) ?_
              refine r_not (wn_f rfl rfl (by decide) rfl rfl) ?_
              exact r_nil (n_lp ⟨_, rfl, undef, rfl, H794⟩)
            · intro η41 wd801 Δ802 hE797 hR798 hA799 H800
              refine sp_op [(53, .bool true)] (ac (hE797 37 (by decide)) an) ?_
              refine r_not (wn_f rfl rfl (by decide) rfl rfl) ?_
              exact r_nil (n_lp ⟨_, rfl, undef, rfl, H800⟩)
            · intro η41 wd807 Δ808 hE803 hR804 hA805 H806
              refine sp_op [(53, .bool true)] (ac (hE803 37 (by decide)) an) ?_
              refine r_not (wn_f rfl rfl (by decide) rfl rfl) ?_
              exact r_nil (n_lp ⟨_, rfl, undef, rfl, H806⟩)
            · intro η41 wd813 Δ814 hE809 hR810 hA811 H812
              refine sp_op [(53, .bool true)] (ac (hE809 37 (by decide)) an) ?_
              refine r_not (wn_f rfl rfl (by decide) rfl rfl) ?_
              exact r_nil (n_lp ⟨_, rfl, undef, rfl, H812⟩)
            · intro η41 wd819 Δ820 hE815 hR816 hA817 H818
              refine sp_op [(53, .bool true)] (ac (hE815 37 (by decide)) an) ?_
              refine r_not (wn_f rfl rfl (by decide) rfl rfl) ?_
              exact r_nil (n_lp ⟨_, rfl, undef, rfl, H818⟩)
            · intro η41 wd825 Δ826 hE821 hR822 hA823 H824
              refine sp_op [(53, .bool true)] (ac (hE821 37 (by decide)) an) ?_
              refine r_not (wn_f rfl rfl (by decide) rfl rfl) ?_
              exact r_nil (n_lp ⟨_, rfl, undef, rfl, H824⟩)
            · intro η41 wd831 Δ832 hE827 hR828 hA829 H830
              refine sp_op [(53, .bool true), (64, undef)] (ac (hE827 37 (by decide)) (ac (hE827 48 (by decide)) an)) ?_
              refine r_pick_t (.bool true) rfl rfl rfl ?_
              exact r_nil (n_lp ⟨_, rfl, undef, rfl, H830⟩)
            · intro η41 wd837 Δ838 hE833 hR834 hA835 H836
              refine sp_op [(65, .bool true)] (ac (hE833 49 (by decide)) an) ?_
              refine r_pure (.bool true) rfl ?_
              exact r_nil (n_lp ⟨_, rfl, undef, rfl, H836⟩)
            · intro η41 wd843 Δ844 hE839 hR840 hA841 H842
              refine sp_op [(66, .bool true)] (ac (hE839 50 (by decide)) an) ?_
              refine r_not (wn_f rfl rfl (by decide) rfl rfl) ?_
              exact r_nil (n_lp ⟨_, rfl, undef, rfl, H842⟩)
            · intro η41 wd849 Δ850 hE845 hR846 hA847 H848
              refine sp_op [(66, .bool true)] (ac (hE845 50 (by decide)) an) ?_
              refine r_not (wn_f rfl rfl (by decide) rfl rfl) ?_
              exact r_nil (n_lp ⟨_, rfl, undef, rfl, H848⟩)
            · intro η41 wd855 Δ856 hE851 hR852 hA853 H854
              refine sp_op [(66, .bool true)] (ac (hE851 50 (by decide)) an) ?_
              refine r_not (wn_f rfl rfl (by decide) rfl rfl) ?_
              exact r_nil (n_lp ⟨_, rfl, undef, rfl, H854⟩)
            · intro η41 wd861 Δ862 hE857 hR858 hA859 H860
              refine sp_op [(66, .bool true)] (ac (hE857 50 (by decide)) an) ?_
              refine r_not (wn_f rfl rfl (by decide) rfl rfl) ?_
              exact r_nil (n_lp ⟨_, rfl, undef, rfl, H860⟩)
            · intro η41 wd867 Δ868 hE863 hR864 hA865 H866
              refine sp_op [(66, .bool true)] (ac (hE863 50 (by decide)) an) ?_
              refine r_not (wn_f rfl rfl (by decide) rfl rfl) ?_
              exact r_nil (n_lp ⟨_, rfl, undef, rfl, H866⟩)
            · intro η41 wd873 Δ874 hE869 hR870 hA871 H872
              refine sp_op [(66, .bool true)] (ac (hE869 50 (by decide)) an) ?_
              refine r_not (wn_f rfl rfl (by decide) rfl rfl) ?_
              exact r_nil (n_lp ⟨_, rfl, undef, rfl, H872⟩)
            · intro η41 wd879 Δ880 hE875 hR876 hA877 H878
              refine sp_op [(66, .bool true)] (ac (hE875 50 (by decide)) an) ?_
              refine r_not (wn_f rfl rfl (by decide) rfl rfl) ?_
              exact r_nil (n_lp ⟨_, rfl, undef, rfl, H878⟩)
            · intro η41 wd885 Δ886 hE881 hR882 hA883 H884
              refine sp_op [(66, .bool true)] (ac (hE881 50 (by decide)) an) ?_
              refine r_not (wn_f rfl rfl (by decide) rfl rfl) ?_
              exact r_nil (n_lp ⟨_, rfl, undef, rfl, H884⟩)
            · intro η41 wd891 Δ892 hE887 hR888 hA889 H890
              refine sp_op [(66, .bool true)] (ac (hE887 50 (by decide)) an) ?_
              refine r_not (wn_f rfl rfl (by decide) rfl rfl) ?_
              exact r_nil (n_lp ⟨_, rfl, undef, rfl, H890⟩)
            · intro η41 wd897 Δ898 hE893 hR894 hA895 H896
              refine sp_op [(66, .bool true)] (ac (hE893 50 (by decide)) an) ?_
              refine r_not (wn_f rfl rfl (by decide) rfl rfl) ?_
              exact r_nil (n_lp ⟨_, rfl, undef, rfl, H896⟩)
            · intro η41 wd903 Δ904 hE899 hR900 hA901 H902
              refine sp_op [(66, .bool true)] (ac (hE899 50 (by decide)) an) ?_
              refine r_not (wn_f rfl rfl (by decide) rfl rfl) ?_
              exact r_nil (n_lp ⟨_, rfl, undef, rfl, H902⟩)
            · intro η41 wd909 Δ910 hE905 hR906 hA907 H908
              refine sp_op [(66, .bool true), (77, undef)] (ac (hE905 50 (by decide)) (ac (hE905 61 (by decide)) an)) ?_
              refine r_pick_t (.bool true) rfl rfl rfl ?_
              exact r_nil (n_lp ⟨_, rfl, undef, rfl, H908⟩)
            · intro η41 wd915 Δ916 hE911 hR912 hA913 H914
              refine sp_op [(78, .bool true)] (ac (hE911 62 (by decide)) an) ?_
              refine r_pure (.bool true) rfl ?_
              exact r_nil (n_lp ⟨_, rfl, undef, rfl, H914⟩)
            · intro η41 wd921 Δ922 hE917 hR918 hA919 H920
              refine sp_op [(79, .bool true)] (ac (hE917 63 (by decide)) an) ?_
              refine r_not (wn_f rfl rfl (by decide) rfl rfl) ?_
              exact r_nil (n_lp ⟨_, rfl, undef, rfl, H920⟩)
            · intro η41 wd927 Δ928 hE923 hR924 hA925 H926
              refine sp_op [(79, .bool true)] (ac (hE923 63 (by decide)) an) ?_
              refine r_not (wn_f rfl rfl (by decide) rfl rfl) ?_
              exact r_nil (n_lp ⟨_, rfl, undef, rfl, H926⟩)
            · intro η41 wd933 Δ934 hE929 hR930 hA931 H932
              refine sp_op [(79, .bool true)] (ac (hE929 63 (by decide)) an) ?_
              refine r_not (wn_f rfl rfl (by decide) rfl rfl) ?_
              exact r_nil (n_lp ⟨_, rfl, undef, rfl, H932⟩)
            · intro η41 wd939 Δ940 hE935 hR936 hA937 H938
              refine sp_op [(79, .bool true)] (ac (hE935 63 (by decide)) an) ?_
              refine r_not (wn_f rfl rfl (by decide) rfl rfl) ?_
              exact r_nil (n_lp ⟨_, rfl, undef, rfl, H938⟩)
            · intro η41 wd945 Δ946 hE941 hR942 hA943 H944
              refine sp_op [(79, .bool true)] (ac (hE941 63 (by decide)) an) ?_
              refine r_not (wn_f rfl rfl (by decide) rfl rfl) ?_
              exact r_nil (n_lp ⟨_, rfl, undef, rfl, H944⟩)
            · intro η41 wd951 Δ952 hE947 hR948 hA949 H950
              refine sp_op [(79, .bool true)] (ac (hE947 63 (by decide)) an) ?_
              refine r_not (wn_f rfl rfl (by decide) rfl rfl) ?_
              exact r_nil (n_lp ⟨_, rfl, undef, rfl, H950⟩)
            · intro η41 wd957 Δ958 hE953 hR954 hA955 H956
              refine sp_op [(79, .bool true)] (ac (hE953 63 (by decide)) an) ?_
              refine r_not (wn_f rfl rfl (by decide) rfl rfl) ?_
              exact r_nil (n_lp ⟨_, rfl, undef, rfl, H956⟩)
            · intro η41 wd963 Δ964 hE959 hR960 hA961 H962
              refine sp_op [(79, .bool true)] (ac (hE959 63 (by decide)) an) ?_
              refine r_not (wn_f rfl rfl (by decide) rfl rfl) ?_
              exact r_nil (n_lp ⟨_, rfl, undef, rfl, H962⟩)
            · intro η41 wd969 Δ970 hE965 hR966 hA967 H968
              refine sp_op [(79, .bool true)] (ac (hE965 63 (by decide)) an) ?_
              refine r_not (wn_f rfl rfl (by decide) rfl rfl) ?_
              exact r_nil (n_lp ⟨_, rfl, undef, rfl, H968⟩)
            · intro η41 wd975 Δ976 hE971 hR972 hA973 H974
              refine sp_op [(79, .bool true)] (ac (hE971 63 (by decide)) an) ?_
              refine r_not (wn_f rfl rfl (by decide) rfl rfl) ?_
              exact r_nil (n_lp ⟨_, rfl, undef, rfl, H974⟩)
            · intro η41 wd981 Δ982 hE977 hR978 hA979 H980
              refine sp_op [(79, .bool true)] (ac (hE977 63 (by decide)) an) ?_
              refine r_not (wn_f rfl rfl (by decide) rfl rfl) ?_
              exact r_nil (n_lp ⟨_, rfl, undef, rfl, H980⟩)
            · intro η41 wd987 Δ988 hE983 hR984 hA985 H986
              refine sp_op [(79, .bool true)] (ac (hE983 63 (by decide)) an) ?_
              refine r_not (wn_f rfl rfl (by decide) rfl rfl) ?_
              exact r_nil (n_lp ⟨_, rfl, undef, rfl, H986⟩)
            · intro η41 wd993 Δ994 hE989 hR990 hA991 H992
              refine sp_op [(79, .bool true), (91, undef)] (ac (hE989 63 (by decide)) (ac (hE989 75 (by decide)) an)) ?_
              refine r_pick_t (.bool true) rfl rfl rfl ?_
              exact r_nil (n_lp ⟨_, rfl, undef, rfl, H992⟩)
            · intro η41 wd996 hV997 H995
              have H998 : Hp w0 (Γ) wd996 := H995
              refine n_frame [(0, .slice A1 a_.length c2), (1, .slice A9 b_.length c10), (12, .int .i64 (a_.length : Int)), (13, .int .i64 i22), (28, .slice A1 a_.length c2), (29, .int .i64 i22), (30, .pointer (some ((oA A1).add (Int.toNat i22 * 6)))), (31, .pointer (some (((oA A1).add (Int.toNat i22 * 6)).add 1))), (32, .string y27.Entity), (33, .slice A9 b_.length c10), (34, .int .i64 i22), (35, .pointer (some ((oA A9).add (Int.toNat i22 * 6)))), (36, .pointer (some (((oA A9).add (Int.toNat i22 * 6)).add 1))), (37, .string ((rd b_ i22).Entity)), (38, .bool (!((y27.Entity).toList == ((rd b_ i22).Entity).toList))), (92, .bool true)] (ac rfl (ac rfl (ac rfl (ac rfl (ac (hV997 12 rfl) (ac (hV997 13 rfl) (ac (hV997 14 rfl) (ac (hV997 15 rfl) (ac (hV997 16 rfl) (ac (hV997 17 rfl) (ac (hV997 18 rfl) (ac (hV997 19 rfl) (ac (hV997 20 rfl) (ac (hV997 21 rfl) (ac (hV997 22 rfl) (ac (hV997 76 rfl) an)))))))))))))))) ?_
              refine n_cut ⟨true, upk (ac rfl (ac rfl (ac rfl (ac rfl (ac rfl an))))), H998, hm⟩
          · rcases ite_some hm with ⟨hb999, hm⟩ | ⟨hb999, hm⟩
            · refine Flow.run' RA11_6 RW11_6 ((fun η41 v => v.1 = .slice A1 a_.length c2) :: (fun η41 v => v.1 = .int .i64 i22) :: (fun η41 v => v.1 = .pointer (some ((oA A1).add (Int.toNat i22 * 6)))) :: (fun η41 v => v.1 = .pointer (some (((oA A1).add (Int.toNat i22 * 6)).add 0))) :: (fun η41 v => v.1 = .int .i64 y27.Seq) :: (fun η41 v => v.1 = .slice A9 b_.length c10) :: (fun η41 v => v.1 = .int .i64 i22) :: (fun η41 v => v.1 = .pointer (some ((oA A9).add (Int.toNat i22 * 6)))) :: (fun η41 v => v.1 = .pointer (some (((oA A9).add (Int.toNat i22 * 6)).add 0))) :: (fun η41 v => v.1 = .int .i64 ((rd b_ i22).Seq)) :: (fun η41 v => v.1 = .bool (y27.Seq != (rd b_ i22).Seq)) :: (fun η41 v => v.1 = .bool (y27.Seq != (rd b_ i22).Seq)) :: (fun η41 v => v.1 = .slice A1 a_.length c2) :: (fun η41 v => v.1 = .int .i64 i22) :: (fun η41 v => v.1 = .pointer (some ((oA A1).add (Int.toNat i22 * 6)))) :: (fun η41 v => v.1 = .pointer (some (((oA A1).add (Int.toNat i22 * 6)).add 1))) :: (fun η41 v => v.1 = .string y27.Entity) :: (fun η41 v => v.1 = .slice A9 b_.length c10) :: (fun η41 v => v.1 = .int .i64 i22) :: (fun η41 v => v.1 = .pointer (some ((oA A9).add (Int.toNat i22 * 6)))) :: (fun η41 v => v.1 = .pointer (some (((oA A9).add (Int.toNat i22 * 6)).add 1))) :: (fun η41 v => v.1 = .string ((rd b_ i22).Entity)) :: (fun η41 v => v.1 = .bool (!((y27.Entity).toList == ((rd b_ i22).Entity).toList))) :: (fun η41 v => v.1 = .bool (!((y27.Entity).toList == ((rd b_ i22).Entity).toList))) :: (fun η41 v => v.1 = .bool (!((y27.Entity).toList == ((rd b_ i22).Entity).toList))) :: (fun η41 v => v.1 = .slice A1 a_.length c2) :: (fun η41 v => v.1 = .int .i64 i22) :: (fun η41 v => v.1 = .pointer (some ((oA A1).add (Int.toNat i22 * 6)))) :: (fun η41 v => v.1 = .pointer (some (((oA A1).add (Int.toNat i22 * 6)).add 2))) :: (fun η41 v => v.1 = .int .i64 y27.Period) :: (fun η41 v => v.1 = .slice A9 b_.length c10) :: (fun η41 v => v.1 = .int .i64 i22) :: (fun η41 v => v.1 = .pointer (some ((oA A9).add (Int.toNat i22 * 6)))) :: (fun η41 v => v.1 = .pointer (some (((oA A9).add (Int.toNat i22 * 6)).add 2))) :: (fun η41 v => v.1 = .int .i64 ((rd b_ i22).Period)) :: (fun η41 v => v.1 = .bool (y27.Period != (rd b_ i22).Period)) :: (fun η41 v => v.1 = .bool (y27.Period != (rd b_ i22).Period)) :: (fun η41 v => v.1 = .bool (y27.Period != (rd b_ i22).Period)) :: (fun η41 v => v.1 = undef) :: (fun η41 v => v.1 = undef) :: (fun η41 v => v.1 = undef) :: (fun η41 v => v.1 = undef) :: (fun η41 v => v.1 = undef) :: (fun η41 v => v.1 = undef) :: (fun η41 v => v.1 = undef) :: (fun η41 v => v.1 = undef) :: (fun η41 v => v.1 = undef) :: (fun η41 v => v.1 = undef) :: (fun η41 v => v.1 = undef) :: (fun η41 v => v.1 = .bool true) :: (fun η41 v => v.1 = .bool true) :: (fun η41 v => v.1 = undef) :: (fun η41 v => v.1 = undef) :: (fun η41 v => v.1 = undef) :: (fun η41 v => v.1 = undef) :: (fun η41 v => v.1 = undef) :: (fun η41 v => v.1 = undef) :: (fun η41 v => v.1 = undef) :: (fun η41 v => v.1 = undef) :: (fun η41 v => v.1 = undef) :: (fun η41 v => v.1 = undef) :: (fun η41 v => v.1 = undef) :: (fun η41 v => v.1 = .bool true) :: (fun η41 v => v.1 = .bool true) :: (fun η41 v => v.1 = undef) :: (fun η41 v => v.1 = undef) :: (fun η41 v => v.1 = undef) :: (fun η41 v => v.1 = undef) :: (fun η41 v => v.1 = undef) :: (fun η41 v => v.1 = undef) :: (fun η41 v => v.1 = undef) :: (fun η41 v => v.1 = undef) :: (fun η41 v => v.1 = undef) :: (fun η41 v => v.1 = undef) :: (fun η41 v => v.1 = undef) :: (fun η41 v => v.1 = undef) :: (fun η41 v => v.1 = .bool true) :: []) [] rfl (by kernel_rfl) (by kernel_rfl) H18 ⟨?_, ?_, ?_, ?_, ?_, ?_, ?_, ?_, ?_, ?_, ?_, ?_, ?_, ?_, ?_, ?_, ?_, ?_, ?_, ?_, ?_, ?_, ?_, ?_, ?_, ?_, ?_, ?_, ?_, ?_, ?_, ?_, ?_, ?_, ?_, ?_, ?_, ?_, ?_, ?_, ?_, ?_, ?_, ?_, ?_, ?_, ?_, ?_, ?_, ?_, ?_, ?_, ?_, ?_, ?_, ?_, ?_, ?_, ?_, ?_, ?_, ?_, ?_, ?_, ?_, ?_, ?_, ?_, ?_, ?_, ?_, ?_, ?_, ?_, ?_, ?_, ?_, trivial⟩ ?_
              · intro η41 wd1004 Δ1005 hE1000 hR1001 hA1002 H1003
                refine sp_op [(0, .slice A1 a_.length c2)] (ac rfl an) ?_
                refine r_pure (.slice A1 a_.length c2) rfl ?_
                exact r_nil (n_lp ⟨_, rfl, undef, rfl, H1003⟩)
              · intro η41 wd1010 Δ1011 hE1006 hR1007 hA1008 H1009
                refine sp_op [(5, .int .i64 i22)] (ac rfl an) ?_
                refine r_pure (.int .i64 i22) rfl ?_
                exact r_nil (n_lp ⟨_, rfl, undef, rfl, H1009⟩)
              · intro η41 wd1016 Δ1017 hE1012 hR1013 hA1014 H1015
                have H1015 : Hp w0 ((Δ1017 ++ Γ)) wd1016 := H1015
                refine sp_op [(16, .slice A1 a_.length c2), (17, .int .i64 i22)] (ac (hE1012 0 (by decide)) (ac (hE1012 1 (by decide)) an)) ?_
                have hA1018 := (hv4 _ (H1015).tl).adO hj35
                refine r_ix IX26 rfl rfl hA1018 h033 h134 ?_
                exact r_nil (n_lp ⟨_, rfl, undef, rfl, H1015⟩)
              · intro η41 wd1023 Δ1024 hE1019 hR1020 hA1021 H1022
                refine sp_op [(18, .pointer (some ((oA A1).add (Int.toNat i22 * 6))))] (ac (hE1019 2 (by decide)) an) ?_
                refine r_fa FA37_0 (((oA A1).add (Int.toNat i22 * 6)).add 0) rfl rfl ?_
                exact r_nil (n_lp ⟨_, rfl, undef, rfl, H1022⟩)
              · intro η41 wd1029 Δ1030 hE1025 hR1026 hA1027 H1028
                have H1028 : Hp w0 ((Δ1030 ++ Γ)) wd1029 := H1028
                refine sp_op [(19, .pointer (some (((oA A1).add (Int.toNat i22 * 6)).add 0)))] (ac (hE1025 3 (by decide)) an) ?_
                have hA1031 := (hv4 _ (H1028).tl).adO hj35
                refine r_ld1 (.int .i64 y27.Seq) LD3 rfl ((hv4 _ (H1028).tl).cA hA1031 hj35 0 _ rfl) ?_
                exact r_nil (n_lp ⟨_, rfl, undef, rfl, H1028⟩)
              · intro η41 wd1036 Δ1037 hE1032 hR1033 hA1034 H1035
                refine sp_op [(1, .slice A9 b_.length c10)] (ac rfl an) ?_
                refine r_pure (.slice A9 b_.length c10) rfl ?_
                exact r_nil (n_lp ⟨_, rfl, undef, rfl, H1035⟩)
              · intro η41 wd1042 Δ1043 hE1038 hR1039 hA1040 H1041
                refine sp_op [(5, .int .i64 i22)] (ac rfl an) ?_
                refine r_pure (.int .i64 i22) rfl ?_
                exact r_nil (n_lp ⟨_, rfl, undef, rfl, H1041⟩)
              · intro η41 wd1048 Δ1049 hE1044 hR1045 hA1046 H1047
                have H1047 : Hp w0 ((Δ1049 ++ Γ)) wd1048 := H1047
                refine sp_op [(21, .slice A9 b_.length c10), (22, .int .i64 i22)] (ac (hE1044 5 (by decide)) (ac (hE1044 6 (by decide)) an)) ?_
                have hA1053 := (hv12 _ (H1047).tl).adO hj45
                refine r_ix IX26 rfl rfl hA1053 h043 h144 ?_
                exact r_nil (n_lp ⟨_, rfl, undef, rfl, H1047⟩)
              · intro η41 wd1058 Δ1059 hE1054 hR1055 hA1056 H1057
                refine sp_op [(23, .pointer (some ((oA A9).add (Int.toNat i22 * 6))))] (ac (hE1054 7 (by decide)) an) ?_
                refine r_fa FA37_0 (((oA A9).add (Int.toNat i22 * 6)).add 0) rfl rfl ?_
                exact r_nil (n_lp ⟨_, rfl, undef, rfl, H1057⟩)
              · intro η41 wd1064 Δ1065 hE1060 hR1061 hA1062 H1063
                have H1063 : Hp w0 ((Δ1065 ++ Γ)) wd1064 := H1063
                refine sp_op [(24, .pointer (some (((oA A9).add (Int.toNat i22 * 6)).add 0)))] (ac (hE1060 8 (by decide)) an) ?_
                have hA1066 := (hv12 _ (H1063).tl).adO hj45
                refine r_ld1 (.int .i64 ((rd b_ i22).Seq)) LD3 rfl ((hv12 _ (H1063).tl).cA hA1066 hj45 0 _ rfl) ?_
                exact r_nil (n_lp ⟨_, rfl, undef, rfl, H1063⟩)
              · intro η41 wd1071 Δ1072 hE1067 hR1068 hA1069 H1070
                refine sp_op [(20, .int .i64 y27.Seq), (25, .int .i64 ((rd b_ i22).Seq))] (ac (hE1067 4 (by decide)) (ac (hE1067 9 (by decide)) an)) ?_
                refine r_pure (.bool (y27.Seq != (rd b_ i22).Seq)) rfl ?_
                exact r_nil (n_lp ⟨_, rfl, undef, rfl, H1070⟩)
              · intro η41 wd1077 Δ1078 hE1073 hR1074 hA1075 H1076
                refine sp_op [(26, .bool (y27.Seq != (rd b_ i22).Seq))] (ac (hE1073 10 (by decide)) an) ?_
                refine r_pure (.bool (y27.Seq != (rd b_ i22).Seq)) rfl ?_
                exact r_nil (n_lp ⟨_, rfl, undef, rfl, H1076⟩)
              · intro η41 wd1083 Δ1084 hE1079 hR1080 hA1081 H1082
                refine sp_op [(0, .slice A1 a_.length c2), (27, .bool (y27.Seq != (rd b_ i22).Seq))] (ac rfl (ac (hE1079 11 (by decide)) an)) ?_
                refine r_pure (.slice A1 a_.length c2) rfl ?_ (wn_t rfl rfl (by decide) rfl hb47)
                exact r_nil (n_lp ⟨_, rfl, undef, rfl, H1082⟩)
              · intro η41 wd1089 Δ1090 hE1085 hR1086 hA1087 H1088
                refine sp_op [(5, .int .i64 i22), (27, .bool (y27.Seq != (rd b_ i22).Seq))] (ac rfl (ac (hE1085 11 (by decide)) an)) ?_
                refine r_pure (.int .i64 i22) rfl ?_ (wn_t rfl rfl (by decide) rfl hb47)
                exact r_nil (n_lp ⟨_, rfl, undef, rfl, H1088⟩)
              · intro η41 wd1095 Δ1096 hE1091 hR1092 hA1093 H1094
                have H1094 : Hp w0 ((Δ1096 ++ Γ)) wd1095 := H1094
                refine sp_op [(27, .bool (y27.Seq != (rd b_ i22).Seq)), (28, .slice A1 a_.length c2), (29, .int .i64 i22)] (ac (hE1091 11 (by decide)) (ac (hE1091 12 (by decide)) (ac (hE1091 13 (by decide)) an))) ?_
                have hA1097 := (hv4 _ (H1094).tl).adO hj35
                refine r_ix IX26 rfl rfl hA1097 h033 h134 ?_ (wn_t rfl rfl (by decide) rfl hb47)
                exact r_nil (n_lp ⟨_, rfl, undef, rfl, H1094⟩)
              · intro η41 wd1102 Δ1103 hE1098 hR1099 hA1100 H1101
                refine sp_op [(27, .bool (y27.Seq != (rd b_ i22).Seq)), (30, .pointer (some ((oA A1).add (Int.toNat i22 * 6))))] (ac (hE1098 11 (by decide)) (ac (hE1098 14 (by decide)) an)) ?_
                refine r_fa FA37_1 (((oA A1).add (Int.toNat i22 * 6)).add 1) rfl rfl ?_ (wn_t rfl rfl (by decide) rfl hb47)
                exact r_nil (n_lp ⟨_, rfl, undef, rfl, H1101⟩)
              · intro η41 wd1108 Δ1109 hE1104 hR1105 hA1106 H1107
                have H1107 : Hp w0 ((Δ1109 ++ Γ)) wd1108 := H1107
                refine sp_op [(27, .bool (y27.Seq != (rd b_ i22).Seq)), (31, .pointer (some (((oA A1).add (Int.toNat i22 * 6)).add 1)))] (ac (hE1104 11 (by decide)) (ac (hE1104 15 (by decide)) an)) ?_
                have hA1110 := (hv4 _ (H1107).tl).adO hj35
                refine r_ld1 (.string y27.Entity) LD9 rfl ((hv4 _ (H1107).tl).cA hA1110 hj35 1 _ rfl) ?_ (wn_t rfl rfl (by decide) rfl hb47)
                exact r_nil (n_lp ⟨_, rfl, undef, rfl, H1107⟩)
              · intro η41 wd1115 Δ1116 hE1111 hR1112 hA1113 H1114
                refine sp_op [(1, .slice A9 b_.length c10), (27, .bool (y27.Seq != (rd b_ i22).Seq))] (ac rfl (ac (hE1111 11 (by decide)) an)) ?_
                refine r_pure (.slice A9 b_.length c10) rfl ?_ (wn_t rfl rfl (by decide) rfl hb47)
                exact r_nil (n_lp ⟨_, rfl, undef, rfl, H1114⟩)
              · intro η41 wd1121 Δ1122 hE1117 hR1118 hA1119 H1120
                refine sp_op [(5, .int .i64 i22), (27, .bool (y27.Seq != (rd b_ i22).Seq))] (ac rfl (ac (hE1117 11 (by decide)) an)) ?_
                refine r_pure (.int .i64 i22) rfl ?_ (wn_t rfl rfl (by decide) rfl hb47)
                exact r_nil (n_lp ⟨_, rfl, undef, rfl, H1120⟩)
              · intro η41 wd1127 Δ1128 hE1123 hR1124 hA1125 H1126
                have H1126 : Hp w0 ((Δ1128 ++ Γ)) wd1127 := H1126
                refine sp_op [(27, .bool (y27.Seq != (rd b_ i22).Seq)), (33, .slice A9 b_.length c10), (34, .int .i64 i22)] (ac (hE1123 11 (by decide)) (ac (hE1123 17 (by decide)) (ac (hE1123 18 (by decide)) an))) ?_
                have hA1129 := (hv12 _ (H1126).tl).adO hj45
                refine r_ix IX26 rfl rfl hA1129 h043 h144 ?_ (wn_t rfl rfl (by decide) rfl hb47)
                exact r_nil (n_lp ⟨_, rfl, undef, rfl, H1126⟩)
              · intro η41 wd1134 Δ1135 hE1130 hR1131 hA1132 H1133
                refine sp_op [(27, .bool (y27.Seq != (rd b_ i22).Seq)), (35, .pointer (some ((oA A9).add (Int.toNat i22 * 6))))] (ac (hE1130 11 (by decide)) (ac (hE1130 19 (by decide)) an)) ?_
                refine r_fa FA37_1 (((oA A9).add (Int.toNat i22 * 6)).add 1) rfl rfl ?_ (wn_t rfl rfl (by decide) rfl hb47)
                exact r_nil (n_lp ⟨_, rfl, undef, rfl, H1133⟩)
              · intro η41 wd1140 Δ1141 hE1136 hR1137 hA1138 H1139
                have H1139 : Hp w0 ((Δ1141 ++ Γ)) wd1140 := H1139
                refine sp_op [(27, .bool (y27.Seq != (rd b_ i22).Seq)), (36, .pointer (some (((oA A9).add (Int.toNat i22 * 6)).add 1)))] (ac (hE1136 11 (by decide)) (ac (hE1136 20 (by decide)) an)) ?_
                have hA1142 := (hv12 _ (H1139).tl).adO hj45
                refine r_ld1 (.string ((rd b_ i22).Entity)) LD9 rfl ((hv12 _ (H1139).tl).cA hA1142 hj45 1 _ rfl) ?_ (wn_t rfl rfl (by decide) rfl hb47)
                exact r_nil (n_lp ⟨_, rfl, undef, rfl, H1139⟩)
              · intro η41 wd1147 Δ1148 hE1143 hR1144 hA1145 H1146
                refine sp_op [(27, .bool (y27.Seq != (rd b_ i22).Seq)), (32, .string y27.Entity), (37, .string ((rd b_ i22).Entity))] (ac (hE1143 11 (by decide)) (ac (hE1143 16 (by decide)) (ac (hE1143 21 (by decide)) an))) ?_
                refine r_pure (.bool (!((y27.Entity).toList == ((rd b_ i22).Entity).toList))) rfl ?_ (wn_t rfl rfl (by decide) rfl hb47)
                exact r_nil (n_lp ⟨_, rfl, undef, rfl, H1146⟩)
              · intro η41 wd1153 Δ1154 hE1149 hR1150 hA1151 H1152
                refine sp_op [(27, .bool (y27.Seq != (rd b_ i22).Seq)), (38, .bool (!((y27.Entity).toList == ((rd b_ i22).Entity).toList)))] (ac (hE1149 11 (by decide)) (ac (hE1149 22 (by decide)) an)) ?_
                refine r_pick_f (.bool (!((y27.Entity).toList == ((rd b_ i22).Entity).toList))) hb47 rfl rfl ?_
                exact r_nil (n_lp ⟨_, rfl, undef, rfl, H1152⟩)
              · intro η41 wd1159 Δ1160 hE1155 hR1156 hA1157 H1158
                refine sp_op [(39, .bool (!((y27.Entity).toList == ((rd b_ i22).Entity).toList)))] (ac (hE1155 23 (by decide)) an) ?_
                refine r_pure (.bool (!((y27.Entity).toList == ((rd b_ i22).Entity).toList))) rfl ?_
                exact r_nil (n_lp ⟨_, rfl, undef, rfl, H1158⟩)
              · intro η41 wd1165 Δ1166 hE1161 hR1162 hA1163 H1164
                refine sp_op [(0, .slice A1 a_.length c2), (40, .bool (!((y27.Entity).toList == ((rd b_ i22).Entity).toList)))] (ac rfl (ac (hE1161 24 (by decide)) an)) ?_
                refine r_pure (.slice A1 a_.length c2) rfl ?_ (wn_t rfl rfl (by decide) rfl hb521)
                exact r_nil (n_lp ⟨_, rfl, undef, rfl, H1164⟩)
              · intro η41 wd1171 Δ1172 hE1167 hR1168 hA1169 H1170
                refine sp_op [(5, .int .i64 i22), (40, .bool (!((y27.Entity).toList == ((rd b_ i22).Entity).toList)))] (ac rfl (ac (hE1167 24 (by decide)) an)) ?_
                refine r_pure (.int .i64 i22) rfl ?_ (wn_t rfl rfl (by decide) rfl hb521)
                exact r_nil (n_lp ⟨_, rfl, undef, rfl, H1170⟩)
              · intro η41 wd1177 Δ1178 hE1173 hR1174 hA1175 H1176
                have H1176 : Hp w0 ((Δ1178 ++ Γ)) wd1177 := H1176
                refine sp_op [(40, .bool (!((y27.Entity).toList == ((rd b_ i22).Entity).toList))), (41, .slice A1 a_.length c2), (42, .int .i64 i22)] (ac (hE1173 24 (by decide)) (ac (hE1173 25 (by decide)) (ac (hE1173 26 (by decide)) an))) ?_
                have hA1179 := (hv4 _ (H1176).tl).adO hj35
                refine r_ix IX26 rfl rfl hA1179 h033 h134 ?_ (wn_t rfl rfl (by decide) rfl hb521)
                exact r_nil (n_lp ⟨_, rfl, undef, rfl, H1176⟩)
              · intro η41 wd1184 Δ1185 hE1180 hR1181 hA1182 H1183
                refine sp_op [(40, .bool (!((y27.Entity).toList == ((rd b_ i22).Entity).toList))), (43, .pointer (some ((oA A1).add (Int.toNat i22 * 6))))] (ac (hE1180 24 (by decide)) (ac (hE1180 27 (by decide)) an)) ?_
                refine r_fa FA37_2 (((oA A1).add (Int.toNat i22 * 6)).add 2) rfl rfl ?_ (wn_t rfl rfl (by decide) rfl hb521)
                exact r_nil (n_lp ⟨_, rfl, undef, rfl, H1183⟩)
              · intro η41 wd1190 Δ1191 hE1186 hR1187 hA1188 H1189
                have H1189 : Hp w0 ((Δ1191 ++ Γ)) wd1190 := H1189
                refine sp_op [(40, .bool (!((y27.Entity).toList == ((rd b_ i22).Entity).toList))), (44, .pointer (some (((oA A1).add (Int.toNat i22 * 6)).add 2)))] (ac (hE1186 24 (by decide)) (ac (hE1186 28 (by decide)) an)) ?_
                have hA1192 := (hv4 _ (H1189).tl).adO hj35
                refine r_ld1 (.int .i64 y27.Period) LD3 rfl ((hv4 _ (H1189).tl).cA hA1192 hj35 2 _ rfl) ?_ (wn_t rfl rfl (by decide) rfl hb521)
                exact r_nil (n_lp ⟨_, rfl, undef, rfl, H1189⟩)
              · intro η41 wd1197 Δ1198 hE1193 hR1194 hA1195 H1196
                refine sp_op [(1, .slice A9 b_.length c10), (40, .bool (!((y27.Entity).toList == ((rd b_ i22).Entity).toList)))] (ac rfl (ac (hE1193 24 (by decide)) an)) ?_
                refine r_pure (.slice A9 b_.length c10) rfl ?_ (wn_t rfl rfl (by decide) rfl hb521)
                exact r_nil (n_lp ⟨_, rfl, undef, rfl, H1196⟩)
              · intro η41 wd1203 Δ1204 hE1199 hR1200 hA1201 H1202
                refine sp_op [(5, .int .i64 i22), (40, .bool (!((y27.Entity).toList == ((rd b_ i22).Entity).toList)))] (ac rfl (ac (hE1199 24 (by decide)) an)) ?_
                refine r_pure (.int .i64 i22) rfl ?_ (wn_t rfl rfl (by decide) rfl hb521)
                exact r_nil (n_lp ⟨_, rfl, undef, rfl, H1202⟩)
              · intro η41 wd1209 Δ1210 hE1205 hR1206 hA1207 H1208
                have H1208 : Hp w0 ((Δ1210 ++ Γ)) wd1209 := H1208
                refine sp_op [(40, .bool (!((y27.Entity).toList == ((rd b_ i22).Entity).toList))), (46, .slice A9 b_.length c10), (47, .int .i64 i22)] (ac (hE1205 24 (by decide)) (ac (hE1205 30 (by decide)) (ac (hE1205 31 (by decide)) an))) ?_
                have hA1211 := (hv12 _ (H1208).tl).adO hj45
                refine r_ix IX26 rfl rfl hA1211 h043 h144 ?_ (wn_t rfl rfl (by decide) rfl hb521)
                exact r_nil (n_lp ⟨_, rfl, undef, rfl, H1208⟩)
              · intro η41 wd1216 Δ1217 hE1212 hR1213 hA1214 H1215
                refine sp_op [(40, .bool (!((y27.Entity).toList == ((rd b_ i22).Entity).toList))), (48, .pointer (some ((oA A9).add (Int.toNat i22 * 6))))] (ac (hE1212 24 (by decide)) (ac (hE1212 32 (by decide)) an)) ?_
                refine r_fa FA37_2 (((oA A9).add (Int.toNat i22 * 6)).add 2) rfl rfl ?_ (wn_t rfl rfl (by decide) rfl hb521)
                exact r_nil (n_lp ⟨_, rfl, undef, rfl, H1215⟩)
              · intro η41 wd1222 Δ1223 hE1218 hR1219 hA1220 H1221
                have H1221 : Hp w0 ((Δ1223 ++ Γ)) wd1222 := H1221
                refine sp_op [(40, .bool (!((y27.Entity).toList == ((rd b_ i22).Entity).toList))), (49, .pointer (some (((oA A9).add (Int.toNat i22 * 6)).add 2)))] (ac (hE1218 24 (by decide)) (ac (hE1218 33 (by decide)) an)) ?_
                have hA1224 := (hv12 _ (H1221).tl).adO hj45
                refine r_ld1 (.int .i64 ((rd b_ i22).Period)) LD3 rfl ((hv12 _ (H1221).tl).cA hA1224 hj45 2 _ rfl) ?_ (wn_t rfl rfl (by decide) rfl hb521)
                exact r_nil (n_lp ⟨_, rfl, undef, rfl, H1221⟩)
              · intro η41 wd1229 Δ1230 hE1225 hR1226 hA1227 H1228
                refine sp_op [(40, .bool (!((y27.Entity).toList == ((rd b_ i22).Entity).toList))), (45, .int .i64 y27.Period), (50, .int .i64 ((rd b_ i22).Period))] (ac (hE1225 24 (by decide)) (ac (hE1225 29 (by decide)) (ac (hE1225 34 (by decide)) an))) ?_
                refine r_pure (.bool (y27.Period != (rd b_ i22).Period)) rfl ?_ (wn_t rfl rfl (by decide) rfl hb521)
                exact r_nil (n_lp ⟨_, rfl, undef, rfl, H1228⟩)
              · intro η41 wd1235 Δ1236 hE1231 hR1232 hA1233 H1234
                refine sp_op [(40, .bool (!((y27.Entity).toList == ((rd b_ i22).Entity).toList))), (51, .bool (y27.Period != (rd b_ i22).Period))] (ac (hE1231 24 (by decide)) (ac (hE1231 35 (by decide)) an)) ?_
                refine r_pick_f (.bool (y27.Period != (rd b_ i22).Period)) hb521 rfl rfl ?_
                exact r_nil (n_lp ⟨_, rfl, undef, rfl, H1234⟩)
              · intro η41 wd1241 Δ1242 hE1237 hR1238 hA1239 H1240
                refine sp_op [(52, .bool (y27.Period != (rd b_ i22).Period))] (ac (hE1237 36 (by decide)) an) ?_
                refine r_pure (.bool (y27.Period != (rd b_ i22).Period)) rfl ?_
                exact r_nil (n_lp ⟨_, rfl, undef, rfl, H1240⟩)
              · intro η41 wd1247 Δ1248 hE1243 hR1244 hA1245 H1246
                refine sp_op [(53, .bool (y27.Period != (rd b_ i22).Period))] (ac (hE1243 37 (by decide)) an) ?_
                refine r_not (wn_f rfl rfl (by decide) rfl hb999) ?_
                exact r_nil (n_lp ⟨_, rfl, undef, rfl, H1246⟩)
              · intro η41 wd1253 Δ1254 hE1249 hR1250 hA1251 H1252
                refine sp_op [(53, .bool (y27.Period != (rd b_ i22).Period))] (ac (hE1249 37 (by decide)) an) ?_
                refine r_not (wn_f rfl rfl (by decide) rfl hb999) ?_
                exact r_nil (n_lp ⟨_, rfl, undef, rfl, H1252⟩)
              · intro η41 wd1259 Δ1260 hE1255 hR1256 hA1257 H1258
                refine sp_op [(53, .bool (y27.Period != (rd b_ i22).Period))] (ac (hE1255 37 (by decide)) an) ?_
                refine r_not (wn_f rfl rfl (by decide) rfl hb999) ?_
                exact r_nil (n_lp ⟨_, rfl, undef, rfl, H1258⟩)
              · intro η41 wd1265 Δ1266 hE1261 hR1262 hA1263 H1264
                refine sp_op [(53, .bool (y27.Period != (rd b_ i22).Period))] (ac (hE1261 37 (by decide)) an) ?_
                refine r_not (wn_f rfl rfl (by decide) rfl hb999) ?_
                exact r_nil (n_lp ⟨_, rfl, undef, rfl, H1264⟩)
              · intro η41 wd1271 Δ1272 hE1267 hR1268 hA1269 H1270
                refine sp_op [(53, .bool (y27.Period != (rd b_ i22).Period))] (ac (hE1267 37 (by decide)) an) ?_
                refine r_not (wn_f rfl rfl (by decide) rfl hb999) ?_
                exact r_nil (n_lp ⟨_, rfl, undef, rfl, H1270⟩)
              · intro η41 wd1277 Δ1278 hE1273 hR1274 hA1275 H1276
                refine sp_op [(53, .bool (y27.Period != (rd b_ i22).Period))] (ac (hE1273 37 (by decide)) an) ?_
                refine r_not (wn_f rfl rfl (by decide) rfl hb999) ?_
                exact r_nil (n_lp ⟨_, rfl, undef, rfl, H1276⟩)
              · intro η41 wd1283 Δ1284 hE1279 hR1280 hA1281 H1282
                refine sp_op [(53, .bool (y27.Period != (rd b_ i22).Period))] (ac (hE1279 37 (by decide)) an) ?_
                refine r_not (wn_f rfl rfl (by decide) rfl hb999) ?_
                exact r_nil (n_lp ⟨_, rfl, undef, rfl, H1282⟩)
              · intro η41 wd1289 Δ1290 hE1285 hR1286 hA1287 H1288
                refine sp_op [(53, .bool (y27.Period != (rd b_ i22).Period))] (ac (hE1285 37 (by decide)) an) ?_
                refine r_not (wn_f rfl rfl (by decide) rfl hb999) ?_
                exact r_nil (n_lp ⟨_, rfl, undef, rfl, H1288⟩)
              · intro η41 wd1295 Δ1296 hE1291 hR1292 hA1293 H1294
                refine sp_op [(53, .bool (y27.Period != (rd b_ i22).Period))] (ac (hE1291 37 (by decide)) an) ?_
                refine r_not (wn_f rfl rfl (by decide) rfl hb999) ?_
                exact r_nil (n_lp ⟨_, rfl, undef, rfl, H1294⟩)
              · intro η41 wd1301 Δ1302 hE1297 hR1298 hA1299 H1300
                refine sp_op [(53, .bool (y27.Period != (rd b_ i22).Period))] (ac (hE1297 37 (by decide)) an) ?_
                refine r_not (wn_f rfl rfl (by decide) rfl hb999) ?_
                exact r_nil (n_lp ⟨_, rfl, undef, rfl, H1300⟩)
              · intro η41 wd1307 Δ1308 hE1303 hR1304 hA1305 H1306
                refine sp_op [(53, .bool (y27.Period != (rd b_ i22).Period))] (ac (hE1303 37 (by decide)) an) ?_
                refine r_not (wn_f rfl rfl (by decide) rfl hb999) ?_
                exact r_nil (n_lp ⟨_, rfl, undef, rfl, H1306⟩)
              · intro η41 wd1313 Δ1314 hE1309 hR1310 hA1311 H1312
                refine sp_op [(53, .bool (y27.Period != (rd b_ i22).Period)), (64, undef)] (ac (hE1309 37 (by decide)) (ac (hE1309 48 (by decide)) an)) ?_
                refine r_pick_t (.bool true) hb999 rfl rfl ?_
                exact r_nil (n_lp ⟨_, rfl, undef, rfl, H1312⟩)
              · intro η41 wd1319 Δ1320 hE1315 hR1316 hA1317 H1318
                refine sp_op [(65, .bool true)] (ac (hE1315 49 (by decide)) an) ?_
                refine r_pure (.bool true) rfl ?_
                exact r_nil (n_lp ⟨_, rfl, undef, rfl, H1318⟩)
              · intro η41 wd1325 Δ1326 hE1321 hR1322 hA1323 H1324
                refine sp_op [(66, .bool true)] (ac (hE1321 50 (by decide)) an) ?_
                refine r_not (wn_f rfl rfl (by decide) rfl rfl) ?_
                exact r_nil (n_lp ⟨_, rfl, undef, rfl, H1324⟩)
              · intro η41 wd1331 Δ1332 hE1327 hR1328 hA1329 H1330
                refine sp_op [(66, .bool true)] (ac (hE1327 50 (by decide)) an) ?_
                refine r_not (wn_f rfl rfl (by decide) rfl rfl) ?_
                exact r_nil (n_lp ⟨_, rfl, undef, rfl, H1330⟩)
              · intro η41 wd1337 Δ1338 hE1333 hR1334 hA1335 H1336
                refine sp_op [(66, .bool true)] (ac (hE1333 50 (by decide)) an) ?_
                refine r_not (wn_f rfl rfl (by decide) rfl rfl) ?_
                exact r_nil (n_lp ⟨_, rfl, undef, rfl, H1336⟩)
              · intro η41 wd1343 Δ1344 hE1339 hR1340 hA1341 H1342
                refine sp_op [(66, .bool true)] (ac (hE1339 50 (by decide)) an) ?_
                refine r_not (wn_f rfl rfl (by decide) rfl rfl) ?_
                exact r_nil (n_lp ⟨_, rfl, undef, rfl, H1342⟩)
              · intro η41 wd1349 Δ1350 hE1345 hR1346 hA1347 H1348
                refine sp_op [(66, .bool true)] (ac (hE1345 50 (by decide)) an) ?_
                refine r_not (wn_f rfl rfl (by decide) rfl rfl) ?_
                exact r_nil (n_lp ⟨_, rfl, undef, rfl, H1348⟩)
              · intro η41 wd1355 Δ1356 hE1351 hR1352 hA1353 H1354
                refine sp_op [(66, .bool true)] (ac (hE1351 50 (by decide)) an) ?_
                refine r_not (wn_f rfl rfl (by decide) rfl rfl) ?_
                exact r_nil (n_lp ⟨_, rfl, undef, rfl, H1354⟩)
              · intro η41 wd1361 Δ1362 hE1357 hR1358 hA1359 H1360
                refine sp_op [(66, .bool true)] (ac (hE1357 50 (by decide)) an) ?_
                refine r_not (wn_f rfl rfl (by decide) rfl rfl) ?_
                exact r_nil (n_lp ⟨_, rfl, undef, rfl, H1360⟩)
              · intro η41 wd1367 Δ1368 hE1363 hR1364 hA1365 H1366
                refine sp_op [(66, .bool true)] (ac (hE1363 50 (by decide)) an) ?_
                refine r_not (wn_f rfl rfl (by decide) rfl rfl) ?_
                exact r_nil (n_lp ⟨_, rfl, undef, rfl, H1366⟩)
              · intro η41 wd1373 Δ1374 hE1369 hR1370 hA1371 H1372
                refine sp_op [(66, .bool true)] (ac (hE1369 50 (by decide)) an) ?_
                refine r_not (wn_f rfl rfl (by decide) rfl rfl) ?_
                exact r_nil (n_lp ⟨_, rfl, undef, rfl, H1372⟩)
              · intro η41 wd1379 Δ1380 hE1375 hR1376 hA1377 H1378
                refine sp_op [(66, .bool true)] (ac (hE1375 50 (by decide)) an) ?_
                refine r_not (wn_f rfl rfl (by decide) rfl rfl) ?_
                exact r_nil (n_lp ⟨_, rfl, undef, rfl, H1378⟩)
              · intro η41 wd1385 Δ1386 hE1381 hR1382 hA1383 H1384
                refine sp_op [(66, .bool true)] (ac (hE1381 50 (by decide)) an) ?_
                refine r_not (wn_f rfl rfl (by decide) rfl rfl) ?_
                exact r_nil (n_lp ⟨_, rfl, undef, rfl, H1384⟩)
              · intro η41 wd1391 Δ1392 hE1387 hR1388 hA1389 H1390
                refine sp_op [(66, .bool true), (77, undef)] (ac (hE1387 50 (by decide)) (ac (hE1387 61 (by decide)) an)) ?_
                refine r_pick_t (.bool true) rfl rfl rfl ?_
                exact r_nil (n_lp ⟨_, rfl, undef, rfl, H1390⟩)
              · intro η41 wd1397 Δ1398 hE1393 hR1394 hA1395 H1396
                refine sp_op [(78, .bool true)] (ac (hE1393 62 (by decide)) an) ?_
                refine r_pure (.bool true) rfl ?_
                exact r_nil (n_lp ⟨_, rfl, undef, rfl, H1396⟩)
              · intro η41 wd1403 Δ1404 hE1399 hR1400 hA1401 H1402
                refine sp_op [(79, .bool true)] (ac (hE1399 63 (by decide)) an) ?_
                refine r_not (wn_f rfl rfl (by decide) rfl rfl) ?_
                exact r_nil (n_lp ⟨_, rfl, undef, rfl, H1402⟩)
              · intro η41 wd1409 Δ1410 hE1405 hR1406 hA1407 H1408
                refine sp_op [(79, .bool true)] (ac (hE1405 63 (by decide)) an) ?_
                refine r_not (wn_f rfl rfl (by decide) rfl rfl) ?_
                exact r_nil (n_lp ⟨_, rfl, undef, rfl, H1408⟩)
              · intro η41 wd1415 Δ1416 hE1411 hR1412 hA1413 H1414
                refine sp_op [(79, .bool true)] (ac (hE1411 63 (by decide)) an) ?_
                refine r_not (wn_f rfl rfl (by decide) rfl rfl) ?_
                exact r_nil (n_lp ⟨_, rfl, undef, rfl, H1414⟩)
              · intro η41 wd1421 Δ1422 hE1417 hR1418 hA1419 H1420
                refine sp_op [(79, .bool true)] (ac (hE1417 63 (by decide)) an) ?_
                refine r_not (wn_f rfl rfl (by decide) rfl rfl) ?_
                exact r_nil (n_lp ⟨_, rfl, undef, rfl, H1420⟩)
              · intro η41 wd1427 Δ1428 hE1423 hR1424 hA1425 H1426
                refine sp_op [(79, .bool true)] (ac (hE1423 63 (by decide)) an) ?_
                refine r_not (wn_f rfl rfl (by decide) rfl rfl) ?_
                exact r_nil (n_lp ⟨_, rfl, undef, rfl, H1426⟩)
              · intro η41 wd1433 Δ1434 hE1429 hR1430 hA1431 H1432
                refine sp_op [(79, .bool true)] (ac (hE1429 63 (by decide)) an) ?_
                refine r_not (wn_f rfl rfl (by decide) rfl rfl) ?_
                exact r_nil (n_lp ⟨_, rfl, undef, rfl, H1432⟩)
              · intro η41 wd1439 Δ1440 hE1435 hR1436 hA1437 H1438
                refine sp_op [(79, .bool true)] (ac (hE1435 63 (by decide)) an) ?_
                refine r_not (wn_f rfl rfl (by decide) rfl rfl) ?_
                exact r_nil (n_lp ⟨_, rfl, undef, rfl, H1438⟩)
              · intro η41 wd1445 Δ1446 hE1441 hR1442 hA1443 H1444
                refine sp_op [(79, .bool true)] (ac (hE1441 63 (by decide)) an) ?_
                refine r_not (wn_f rfl rfl (by decide) rfl rfl) ?_
                exact r_nil (n_lp ⟨_, rfl, undef, rfl, H1444⟩)
              · intro η41 wd1451 Δ1452 hE1447 hR1448 hA1449 H1450
                refine sp_op [(79, .bool true)] (ac (hE1447 63 (by decide)) an) ?_
                refine r_not (wn_f rfl rfl (by decide) rfl rfl) ?_
                exact r_nil (n_lp ⟨_, rfl, undef, rfl, H1450⟩)
              · intro η41 wd1457 Δ1458 hE1453 hR1454 hA1455 H1456
                refine sp_op [(79, .bool true)] (ac (hE1453 63 (by decide)) an) ?_
                refine r_not (wn_f rfl rfl (by decide) rfl rfl) ?_
                exact r_nil (n_lp ⟨_, rfl, undef, rfl, H1456⟩)
              · intro η41 wd1463 Δ1464 hE1459 hR1460 hA1461 H1462
                refine sp_op [(79, .bool true)] (ac (hE1459 63 (by decide)) an) ?_
                refine r_not (wn_f rfl rfl (by decide) rfl rfl) ?_
                exact r_nil (n_lp ⟨_, rfl, undef, rfl, H1462⟩)
              · intro η41 wd1469 Δ1470 hE1465 hR1466 hA1467 H1468
                refine sp_op [(79, .bool true)] (ac (hE1465 63 (by decide)) an) ?_
                refine r_not (wn_f rfl rfl (by decide) rfl rfl) ?_
                exact r_nil (n_lp ⟨_, rfl, undef, rfl, H1468⟩)
              · intro η41 wd1475 Δ1476 hE1471 hR1472 hA1473 H1474
                refine sp_op [(79, .bool true), (91, undef)] (ac (hE1471 63 (by decide)) (ac (hE1471 75 (by decide)) an)) ?_
                refine r_pick_t (.bool true) rfl rfl rfl ?_
                exact r_nil (n_lp ⟨_, rfl, undef, rfl, H1474⟩)
              · intro η41 wd1478 hV1479 H1477
                have H1480 : Hp w0 (Γ) wd1478 := H1477
                refine n_frame ((0, .slice A1 a_.length c2) :: (1, .slice A9 b_.length c10) :: (12, .int .i64 (a_.length : Int)) :: (13, .int .i64 i22) :: (28, .slice A1 a_.length c2) :: (29, .int .i64 i22) :: (30, .pointer (some ((oA A1).add (Int.toNat i22 * 6)))) :: (31, .pointer (some (((oA A1).add (Int.toNat i22 * 6)).add 1))) :: (32, .string y27.Entity) :: (33, .slice A9 b_.length c10) :: (34, .int .i64 i22) :: (35, .pointer (some ((oA A9).add (Int.toNat i22 * 6)))) :: (36, .pointer (some (((oA A9).add (Int.toNat i22 * 6)).add 1))) :: (37, .string ((rd b_ i22).Entity)) :: (38, .bool (!((y27.Entity).toList == ((rd b_ i22).Entity).toList))) :: (41, .slice A1 a_.length c2) :: (42, .int .i64 i22) :: (43, .pointer (some ((oA A1).add (Int.toNat i22 * 6)))) :: (44, .pointer (some (((oA A1).add (Int.toNat i22 * 6)).add 2))) :: (45, .int .i64 y27.Period) :: (46, .slice A9 b_.length c10) :: (47, .int .i64 i22) :: (48, .pointer (some ((oA A9).add (Int.toNat i22 * 6)))) :: (49, .pointer (some (((oA A9).add (Int.toNat i22 * 6)).add 2))) :: (50, .int .i64 ((rd b_ i22).Period)) :: (51, .bool (y27.Period != (rd b_ i22).Period)) :: (92, .bool true) :: []) (ac rfl (ac rfl (ac rfl (ac rfl (ac (hV1479 12 rfl) (ac (hV1479 13 rfl) (ac (hV1479 14 rfl) (ac (hV1479 15 rfl) (ac (hV1479 16 rfl) (ac (hV1479 17 rfl) (ac (hV1479 18 rfl) (ac (hV1479 19 rfl) (ac (hV1479 20 rfl) (ac (hV1479 21 rfl) (ac (hV1479 22 rfl) (ac (hV1479 25 rfl) (ac (hV1479 26 rfl) (ac (hV1479 27 rfl) (ac (hV1479 28 rfl) (ac (hV1479 29 rfl) (ac (hV1479 30 rfl) (ac (hV1479 31 rfl) (ac (hV1479 32 rfl) (ac (hV1479 33 rfl) (ac (hV1479 34 rfl) (ac (hV1479 35 rfl) (ac (hV1479 76 rfl) an))))))))))))))))))))))))))) ?_
                refine n_cut ⟨true, upk (ac rfl (ac rfl (ac rfl (ac rfl (ac rfl an))))), H1480, hm⟩
            · rcases ite_some hm with ⟨hb1481, hm⟩ | ⟨hb1481, hm⟩
              · refine Flow.run' RA11_6 RW11_6 ((fun η41 v => v.1 = .slice A1 a_.length c2) :: (fun η41 v => v.1 = .int .i64 i22) :: (fun η41 v => v.1 = .pointer (some ((oA A1).add (Int.toNat i22 * 6)))) :: (fun η41 v => v.1 = .pointer (some (((oA A1).add (Int.toNat i22 * 6)).add 0))) :: (fun η41 v => v.1 = .int .i64 y27.Seq) :: (fun η41 v => v.1 = .slice A9 b_.length c10) :: (fun η41 v => v.1 = .int .i64 i22) :: (fun η41 v => v.1 = .pointer (some ((oA A9).add (Int.toNat i22 * 6)))) :: (fun η41 v => v.1 = .pointer (some (((oA A9).add (Int.toNat i22 * 6)).add 0))) :: (fun η41 v => v.1 = .int .i64 ((rd b_ i22).Seq)) :: (fun η41 v => v.1 = .bool (y27.Seq != (rd b_ i22).Seq)) :: (fun η41 v => v.1 = .bool (y27.Seq != (rd b_ i22).Seq)) :: (fun η41 v => v.1 = .slice A1 a_.length c2) :: (fun η41 v => v.1 = .int .i64 i22) :: (fun η41 v => v.1 = .pointer (some ((oA A1).add (Int.toNat i22 * 6)))) :: (fun η41 v => v.1 = .pointer (some (((oA A1).add (Int.toNat i22 * 6)).add 1))) :: (fun η41 v => v.1 = .string y27.Entity) :: (fun η41 v => v.1 = .slice A9 b_.length c10) :: (fun η41 v => v.1 = .int .i64 i22) :: (fun η41 v => v.1 = .pointer (some ((oA A9).add (Int.toNat i22 * 6)))) :: (fun η41 v => v.1 = .pointer (some (((oA A9).add (Int.toNat i22 * 6)).add 1))) :: (fun η41 v => v.1 = .string ((rd b_ i22).Entity)) :: (fun η41 v => v.1 = .bool (!((y27.Entity).toList == ((rd b_ i22).Entity).toList))) :: (fun η41 v => v.1 = .bool (!((y27.Entity).toList == ((rd b_ i22).Entity).toList))) :: (fun η41 v => v.1 = .bool (!((y27.Entity).toList == ((rd b_ i22).Entity).toList))) :: (fun η41 v => v.1 = .slice A1 a_.length c2) :: (fun η41 v => v.1 = .int .i64 i22) :: (fun η41 v => v.1 = .pointer (some ((oA A1).add (Int.toNat i22 * 6)))) :: (fun η41 v => v.1 = .pointer (some (((oA A1).add (Int.toNat i22 * 6)).add 2))) :: (fun η41 v => v.1 = .int .i64 y27.Period) :: (fun η41 v => v.1 = .slice A9 b_.length c10) :: (fun η41 v => v.1 = .int .i64 i22) :: (fun η41 v => v.1 = .pointer (some ((oA A9).add (Int.toNat i22 * 6)))) :: (fun η41 v => v.1 = .pointer (some (((oA A9).add (Int.toNat i22 * 6)).add 2))) :: (fun η41 v => v.1 = .int .i64 ((rd b_ i22).Period)) :: (fun η41 v => v.1 = .bool (y27.Period != (rd b_ i22).Period)) :: (fun η41 v => v.1 = .bool (y27.Period != (rd b_ i22).Period)) :: (fun η41 v => v.1 = .bool (y27.Period != (rd b_ i22).Period)) :: (fun η41 v => v.1 = .slice A1 a_.length c2) :: (fun η41 v => v.1 = .int .i64 i22) :: (fun η41 v => v.1 = .pointer (some ((oA A1).add (Int.toNat i22 * 6)))) :: (fun η41 v => v.1 = .pointer (some (((oA A1).add (Int.toNat i22 * 6)).add 3))) :: (fun η41 v => v.1 = .int .i64 y27.Kind) :: (fun η41 v => v.1 = .slice A9 b_.length c10) :: (fun η41 v => v.1 = .int .i64 i22) :: (fun η41 v => v.1 = .pointer (some ((oA A9).add (Int.toNat i22 * 6)))) :: (fun η41 v => v.1 = .pointer (some (((oA A9).add (Int.toNat i22 * 6)).add 3))) :: (fun η41 v => v.1 = .int .i64 ((rd b_ i22).Kind)) :: (fun η41 v => v.1 = .bool (y27.Kind != (rd b_ i22).Kind)) :: (fun η41 v => v.1 = .bool (y27.Kind != (rd b_ i22).Kind)) :: (fun η41 v => v.1 = .bool (y27.Kind != (rd b_ i22).Kind)) :: (fun η41 v => v.1 = undef) :: (fun η41 v => v.1 = undef) :: (fun η41 v => v.1 = undef) :: (fun η41 v => v.1 = undef) :: (fun η41 v => v.1 = undef) :: (fun η41 v => v.1 = undef) :: (fun η41 v => v.1 = undef) :: (fun η41 v => v.1 = undef) :: (fun η41 v => v.1 = undef) :: (fun η41 v => v.1 = undef) :: (fun η41 v => v.1 = undef) :: (fun η41 v => v.1 = .bool true) :: (fun η41 v => v.1 = .bool true) :: (fun η41 v => v.1 = undef) :: (fun η41 v => v.1 = undef) :: (fun η41 v => v.1 = undef) :: (fun η41 v => v.1 = undef) :: (fun η41 v => v.1 = undef) :: (fun η41 v => v.1 = undef) :: (fun η41 v => v.1 = undef) :: (fun η41 v => v.1 = undef) :: (fun η41 v => v.1 = undef) :: (fun η41 v => v.1 = undef) :: (fun η41 v => v.1 = undef) :: (fun η41 v => v.1 = undef) :: (fun η41 v => v.1 = .bool true) :: []) [] rfl (by kernel_rfl) (by kernel_rfl) H18 ⟨?_, ?_, ?_, ?_, ?_, ?_, ?_, ?_, ?_, ?_, ?_, ?_, ?_, ?_, ?_, ?_, ?_, ?_, ?_, ?_, ?_, ?_, ?_, ?_, ?_, ?_, ?_, ?_, ?_, ?_, ?_, ?_, ?_, ?_, ?_, ?_, ?_, ?_, ?_, ?_, ?_, ?_, ?_, ?_, ?_, ?_, ?_, ?_, ?_, ?_, ?_, ?_, ?_, ?_, ?_, ?_, ?_, ?_, ?_, ?_, ?_, ?_, ?_, ?_, ?_, ?_, ?_, ?_, ?_, ?_, ?_, ?_, ?_, ?_, ?_, ?_, ?_, trivial⟩ ?_
                · intro η41 wd1486 Δ1487 hE1482 hR1483 hA1484 H1485
                  refine sp_op [(0, .slice A1 a_.length c2)] (ac rfl an) ?_
                  refine r_pure (.slice A1 a_.length c2) rfl ?_
                  exact r_nil (n_lp ⟨_, rfl, undef, rfl, H1485⟩)
                · intro η41 wd1492 Δ1493 hE1488 hR1489 hA1490 H1491
                  refine sp_op [(5, .int .i64 i22)] (ac rfl an) ?_
                  refine r_pure (.int .i64 i22) rfl ?_
                  exact r_nil (n_lp ⟨_, rfl, undef, rfl, H1491⟩)
                · intro η41 wd1498 Δ1499 hE1494 hR1495 hA1496 H1497
                  have H1497 : Hp w0 ((Δ1499 ++ Γ)) wd1498 := H1497
                  refine sp_op [(16, .slice A1 a_.length c2), (17, .int .i64 i22)] (ac (hE1494 0 (by decide)) (ac (hE1494 1 (by decide)) an)) ?_
                  have hA1500 := (hv4 _ (H1497).tl).adO hj35
                  refine r_ix IX26 rfl rfl hA1500 h033 h134 ?_
                  exact r_nil (n_lp ⟨_, rfl, undef, rfl, H1497⟩)
                · intro η41 wd1505 Δ1506 hE1501 hR1502 hA1503 H1504
                  refine sp_op [(18, .pointer (some ((oA A1).add (Int.toNat i22 * 6))))] (ac (hE1501 2 (by decide)) an) ?_
                  refine r_fa FA37_0 (((oA A1).add (Int.toNat i22 * 6)).add 0) rfl rfl ?_
                  exact r_nil (n_lp ⟨_, rfl, undef, rfl, H1504⟩)
                · intro η41 wd1511 Δ1512 hE1507 hR1508 hA1509 H1510
                  have H1510 : Hp w0 ((Δ1512 ++ Γ)) wd1511 := H1510
                  refine sp_op [(19, .pointer (some (((oA A1).add (Int.toNat i22 * 6)).add 0)))] (ac (hE1507 3 (by decide)) an) ?_
                  have hA1513 := (hv4 _ (H1510).tl).adO hj35
                  refine r_ld1 (.int .i64 y27.Seq) LD3 rfl ((hv4 _ (H1510).tl).cA hA1513 hj35 0 _ rfl) ?_
                  exact r_nil (n_lp ⟨_, rfl, undef, rfl, H1510⟩)
                · intro η41 wd1518 Δ1519 hE1514 hR1515 hA1516 H1517
                  refine sp_op [(1, .slice A9 b_.length c10)] (ac rfl an) ?_
                  refine r_pure (.slice A9 b_.length c10) rfl ?_
                  exact r_nil (n_lp ⟨_, rfl, undef, rfl, H1517⟩)
                · intro η41 wd1524 Δ1525 hE1520 hR1521 hA1522 H1523
                  refine sp_op [(5, .int .i64 i22)] (ac rfl an) ?_
                  refine r_pure (.int .i64 i22) rfl ?_
                  exact r_nil (n_lp ⟨_, rfl, undef, rfl, H1523⟩)
                · intro η41 wd1530 Δ1531 hE1526 hR1527 hA1528 H1529
                  have H1529 : Hp w0 ((Δ1531 ++ Γ)) wd1530 := H1529
                  refine sp_op [(21, .slice A9 b_.length c10), (22, .int .i64 i22)] (ac (hE1526 5 (by decide)) (ac (hE1526 6 (by decide)) an)) ?_
                  have hA1535 := (hv12 _ (H1529).tl).adO hj45
                  refine r_ix IX26 rfl rfl hA1535 h043 h144 ?_
                  exact r_nil (n_lp ⟨_, rfl, undef, rfl, H1529⟩)
                · intro η41 wd1540 Δ1541 hE1536 hR1537 hA1538 H1539
                  refine sp_op [(23, .pointer (some ((oA A9).add (Int.toNat i22 * 6))))] (ac (hE1536 7 (by decide)) an) ?_
                  refine r_fa FA37_0 (((oA A9).add (Int.toNat i22 * 6)).add 0) rfl rfl ?_
                  exact r_nil (n_lp ⟨_, rfl, undef, rfl, H1539⟩)
                · intro η41 wd1546 Δ1547 hE1542 hR1543 hA1544 H1545
                  have H1545 : Hp w0 ((Δ1547 ++ Γ)) wd1546 := H1545
                  refine sp_op [(24, .pointer (some (((oA A9).add (Int.toNat i22 * 6)).add 0)))] (ac (hE1542 8 (by decide)) an) ?_
                  have hA1548 := (hv12 _ (H1545).tl).adO hj45
                  refine r_ld1 (.int .i64 ((rd b_ i22).Seq)) LD3 rfl ((hv12 _ (H1545).tl).cA hA1548 hj45 0 _ rfl) ?_
                  exact r_nil (n_lp ⟨_, rfl, undef, rfl, H1545⟩)
                · intro η41 wd1553 Δ1554 hE1549 hR1550 hA1551 H1552
                  refine sp_op [(20, .int .i64 y27.Seq), (25, .int .i64 ((rd b_ i22).Seq))] (ac (hE1549 4 (by decide)) (ac (hE1549 9 (by decide)) an)) ?_
                  refine r_pure (.bool (y27.Seq != (rd b_ i22).Seq)) rfl ?_
                  exact r_nil (n_lp ⟨_, rfl, undef, rfl, H1552⟩)
                · intro η41 wd1559 Δ1560 hE1555 hR1556 hA1557 H1558
                  refine sp_op [(26, .bool (y27.Seq != (rd b_ i22).Seq))] (ac (hE1555 10 (by decide)) an) ?_
                  refine r_pure (.bool (y27.Seq != (rd b_ i22).Seq)) rfl ?_
                  exact r_nil (n_lp ⟨_, rfl, undef, rfl, H1558⟩)
                · intro η41 wd1565 Δ1566 hE1561 hR1562 hA1563 H1564
                  refine sp_op [(0, .slice A1 a_.length c2), (27, .bool (y27.Seq != (rd b_ i22).Seq))] (ac rfl (ac (hE1561 11 (by decide)) an)) ?_
                  refine r_pure (.slice A1 a_.length c2) rfl ?_ (wn_t rfl rfl (by decide) rfl hb47)
                  exact r_nil (n_lp ⟨_, rfl, undef, rfl, H1564⟩)
                · intro η41 wd1571 Δ1572 hE1567 hR1568 hA1569 H1570
                  refine sp_op [(5, .int .i64 i22), (27, .bool (y27.Seq != (rd b_ i22).Seq))] (ac rfl (ac (hE1567 11 (by decide)) an)) ?_
                  refine r_pure (.int .i64 i22) rfl ?_ (wn_t rfl rfl (by decide) rfl hb47)
                  exact r_nil (n_lp ⟨_, rfl, undef, rfl, H1570⟩)
                · intro η41 wd1577 Δ1578 hE1573 hR1574 hA1575 H1576
                  have H1576 : Hp w0 ((Δ1578 ++ Γ)) wd1577 := H1576
                  refine sp_op [(27, .bool (y27.Seq != (rd b_ i22).Seq)), (28, .slice A1 a_.length c2), (29, .int .i64 i22)] (ac (hE1573 11 (by decide)) (ac (hE1573 12 (by decide)) (ac (hE1573 13 (by decide)) an))) ?_
                  have hA1579 := (hv4 _ (H1576).tl).adO hj35
                  refine r_ix IX26 rfl rfl hA1579 h033 h134 ?_ (wn_t rfl rfl (by decide) rfl hb47)
                  exact r_nil (n_lp ⟨_, rfl, undef, rfl, H1576⟩)
                · intro η41 wd1584 Δ1585 hE1580 hR1581 hA1582 H1583
                  refine sp_op [(27, .bool (y27.Seq != (rd b_ i22).Seq)), (30, .pointer (some ((oA A1).add (Int.toNat i22 * 6))))] (ac (hE1580 11 (by decide)) (ac (hE1580 14 (by decide)) an)) ?_
                  refine r_fa FA37_1 (((oA A1).add (Int.toNat i22 * 6)).add 1) rfl rfl ?_ (wn_t rfl rfl (by decide) rfl hb47)
                  exact r_nil (n_lp ⟨_, rfl, undef, rfl, H1583⟩)
                · intro η41 wd1590 Δ1591 hE1586 hR1587 hA1588 H1589
                  have H1589 : Hp w0 ((Δ1591 ++ Γ)) wd1590 := H1589
                  refine sp_op [(27, .bool (y27.Seq != (rd b_ i22).Seq)), (31, .pointer (some (((oA A1).add (Int.toNat i22 * 6)).add 1)))] (ac (hE1586 11 (by decide)) (ac (hE1586 15 (by decide)) an)) ?_
                  have hA1592 := (hv4 _ (H1589).tl).adO hj35
                  refine r_ld1 (.string y27.Entity) LD9 rfl ((hv4 _ (H1589).tl).cA hA1592 hj35 1 _ rfl) ?_ (wn_t rfl rfl (by decide) rfl hb47)
                  exact r_nil (n_lp ⟨_, rfl, undef, rfl, H1589⟩)
                · intro η41 wd1597 Δ1598 hE1593 hR1594 hA1595 H1596
                  refine sp_op [(1, .slice A9 b_.length c10), (27, .bool (y27.Seq != (rd b_ i22).Seq))] (ac rfl (ac (hE1593 11 (by decide)) an)) ?_
                  refine r_pure (.slice A9 b_.length c10) rfl ?_ (wn_t rfl rfl (by decide) rfl hb47)
                  exact r_nil (n_lp ⟨_, rfl, undef, rfl, H1596⟩)
                · intro η41 wd1603 Δ1604 hE1599 hR1600 hA1601 H1602
                  refine sp_op [(5, .int .i64 i22), (27, .bool (y27.Seq != (rd b_ i22).Seq))] (ac rfl (ac (hE1599 11 (by decide)) an)) ?_
                  refine r_pure (.int .i64 i22) rfl ?_ (wn_t rfl rfl (by decide) rfl hb47)
                  exact r_nil (n_lp ⟨_, rfl, undef, rfl, H1602⟩)
                · intro η41 wd1609 Δ1610 hE1605 hR1606 hA1607 H1608
                  have H1608 : Hp w0 ((Δ1610 ++ Γ)) wd1609 := H1608
                  refine sp_op [(27, .bool (y27.Seq != (rd b_ i22).Seq)), (33, .slice A9 b_.length c10), (34, .int .i64 i22)] (ac (hE1605 11 (by decide)) (ac (hE1605 17 (by decide)) (ac (hE1605 18 (by decide)) an))) ?_
                  have hA1611 := (hv12 _ (H1608).tl).adO hj45
                  refine r_ix IX26 rfl rfl hA1611 h043 h144 ?_ (wn_t rfl rfl (by decide) rfl hb47)
                  exact r_nil (n_lp ⟨_, rfl, undef, rfl, H1608⟩)
                · intro η41 wd1616 Δ1617 hE1612 hR1613 hA1614 H1615
                  refine sp_op [(27, .bool (y27.Seq != (rd b_ i22).Seq)), (35, .pointer (some ((oA A9).add (Int.toNat i22 * 6))))] (ac (hE1612 11 (by decide)) (ac (hE1612 19 (by decide)) an)) ?_
                  refine r_fa FA37_1 (((oA A9).add (Int.toNat i22 * 6)).add 1) rfl rfl ?_ (wn_t rfl rfl (by decide) rfl hb47)
                  exact r_nil (n_lp ⟨_, rfl, undef, rfl, H1615⟩)
                · intro η41 wd1622 Δ1623 hE1618 hR1619 hA1620 H1621
                  have H1621 : Hp w0 ((Δ1623 ++ Γ)) wd1622 := H1621
                  refine sp_op [(27, .bool (y27.Seq != (rd b_ i22).Seq)), (36, .pointer (some (((oA A9).add (Int.toNat i22 * 6)).add 1)))] (ac (hE1618 11 (by decide)) (ac (hE1618 20 (by decide)) an)) ?_
                  have hA1624 := (hv12 _ (H1621).tl).adO hj45
                  refine r_ld1 (.string ((rd b_ i22).Entity)) LD9 rfl ((hv12 _ (H1621).tl).cA hA1624 hj45 1 _ rfl) ?_ (wn_t rfl rfl (by decide) rfl hb47)
                  exact r_nil (n_lp ⟨_, rfl, undef, rfl, H1621⟩)
                · intro η41 wd1629 Δ1630 hE1625 hR1626 hA1627 H1628
                  refine sp_op [(27, .bool (y27.Seq != (rd b_ i22).Seq)), (32, .string y27.Entity), (37, .string ((rd b_ i22).Entity))] (ac (hE1625 11 (by decide)) (ac (hE1625 16 (by decide)) (ac (hE1625 21 (by decide)) an))) ?_
                  refine r_pure (.bool (!((y27.Entity).toList == ((rd b_ i22).Entity).toList))) rfl ?_ (wn_t rfl rfl (by decide) rfl hb47)
                  exact r_nil (n_lp ⟨_, rfl, undef, rfl, H1628⟩)
                · intro η41 wd1635 Δ1636 hE1631 hR1632 hA1633 H1634
                  refine sp_op [(27, .bool (y27.Seq != (rd b_ i22).Seq)), (38, .bool (!((y27.Entity).toList == ((rd b_ i22).Entity).toList)))] (ac (hE1631 11 (by decide)) (ac (hE1631 22 (by decide)) an)) ?_
                  refine r_pick_f (.bool (!((y27.Entity).toList == ((rd b_ i22).Entity).toList))) hb47 rfl rfl ?_
                  exact r_nil (n_lp ⟨_, rfl, undef, rfl, H1634⟩)
                · intro η41 wd1641 Δ1642 hE1637 hR1638 hA1639 H1640
                  refine sp_op [(39, .bool (!((y27.Entity).toList == ((rd b_ i22).Entity).toList)))] (ac (hE1637 23 (by decide)) an) ?_
                  refine r_pure (.bool (!((y27.Entity).toList == ((rd b_ i22).Entity).toList))) rfl ?_
                  exact r_nil (n_lp ⟨_, rfl, undef, rfl, H1640⟩)
                · intro η41 wd1647 Δ1648 hE1643 hR1644 hA1645 H1646
                  refine sp_op [(0, .slice A1 a_.length c2), (40, .bool (!((y27.Entity).toList == ((rd b_ i22).Entity).toList)))] (ac rfl (ac (hE1643 24 (by decide)) an)) ?_
                  refine r_pure (.slice A1 a_.length c2) rfl ?_ (wn_t rfl rfl (by decide) rfl hb521)
                  exact r_nil (n_lp ⟨_, rfl, undef, rfl, H1646⟩)
                · intro η41 wd1653 Δ1654 hE1649 hR1650 hA1651 H1652
                  refine sp_op [(5, .int .i64 i22), (40, .bool (!((y27.Entity).toList == ((rd b_ i22).Entity).toList)))] (ac rfl (ac (hE1649 24 (by decide)) an)) ?_
                  refine r_pure (.int .i64 i22) rfl ?_ (wn_t rfl rfl (by decide) rfl hb521)
                  exact r_nil (n_lp ⟨_, rfl, undef, rfl, H1652⟩)
                · intro η41 wd1659 Δ1660 hE1655 hR1656 hA1657 H1658
                  have H1658 : Hp w0 ((Δ1660 ++ Γ)) wd1659 := H1658
                  refine sp_op [(40, .bool (!((y27.Entity).toList == ((rd b_ i22).Entity).toList))), (41, .slice A1 a_.length c2), (42, .int .i64 i22)] (ac (hE1655 24 (by decide)) (ac (hE1655 25 (by decide)) (ac (hE1655 26 (by decide)) an))) ?_
                  have hA1661 := (hv4 _ (H1658).tl).adO hj35
                  refine r_ix IX26 rfl rfl hA1661 h033 h134 ?_ (wn_t rfl rfl (by decide) rfl hb521)
                  exact r_nil (n_lp ⟨_, rfl, undef, rfl, H1658⟩)
                · intro η41 wd1666 Δ1667 hE1662 hR1663 hA1664 H1665
                  refine sp_op [(40, .bool (!((y27.Entity).toList == ((rd b_ i22).Entity).toList))), (43, .pointer (some ((oA A1).add (Int.toNat i22 * 6))))] (ac (hE1662 24 (by decide)) (ac (hE1662 27 (by decide)) an)) ?_
                  refine r_fa FA37_2 (((oA A1).add (Int.toNat i22 * 6)).add 2) rfl rfl ?_ (wn_t rfl rfl (by decide) rfl hb521)
                  exact r_nil (n_lp ⟨_, rfl, undef, rfl, H1665⟩)
                · intro η41 wd1672 Δ1673 hE1668 hR1669 hA1670 H1671
                  have H1671 : Hp w0 ((Δ1673 ++ Γ)) wd1672 := H1671
                  refine sp_op [(40, .bool (!((y27.Entity).toList == ((rd b_ i22).Entity).toList))), (44, .pointer (some (((oA A1).add (Int.toNat i22 * 6)).add 2)))] (ac (hE1668 24 (by decide)) (ac (hE1668 28 (by decide)) an)) ?_
                  have hA1674 := (hv4 _ (H1671).tl).adO hj35
                  refine r_ld1 (.int .i64 y27.Period) LD3 rfl ((hv4 _ (H1671).tl).cA hA1674 hj35 2 _ rfl) ?_ (wn_t rfl rfl (by decide) rfl hb521)
                  exact r_nil (n_lp ⟨_, rfl, undef, rfl, H1671⟩)
                · intro η41 wd1679 Δ1680 hE1675 hR1676 hA1677 H1678
                  refine sp_op [(1, .slice A9 b_.length c10), (40, .bool (!((y27.Entity).toList == ((rd b_ i22).Entity).toList)))] (ac rfl (ac (hE1675 24 (by decide)) an)) ?_
                  refine r_pure (.slice A9 b_.length c10) rfl ?_ (wn_t rfl rfl (by decide) rfl hb521)
                  exact r_nil (n_lp ⟨_, rfl, undef, rfl, H1678⟩)
                · intro η41 wd1685 Δ1686 hE1681 hR1682 hA1683 H1684
                  refine sp_op [(5, .int .i64 i22), (40, .bool (!((y27.Entity).toList == ((rd b_ i22).Entity).toList)))] (ac rfl (ac (hE1681 24 (by decide)) an)) ?_
                  refine r_pure (.int .i64 i22) rfl ?_ (wn_t rfl rfl (by decide) rfl hb521)
                  exact r_nil (n_lp ⟨_, rfl, undef, rfl, H1684⟩)
                · intro η41 wd1691 Δ1692 hE1687 hR1688 hA1689 H1690
                  have H1690 : Hp w0 ((Δ1692 ++ Γ)) wd1691 := H1690
                  refine sp_op [(40, .bool (!((y27.Entity).toList == ((rd b_ i22).Entity).toList))), (46, .slice A9 b_.length c10), (47, .int .i64 i22)] (ac (hE1687 24 (by decide)) (ac (hE1687 30 (by decide)) (ac (hE1687 31 (by decide)) an))) ?_
                  have hA1693 := (hv12 _ (H1690).tl).adO hj45
                  refine r_ix IX26 rfl rfl hA1693 h043 h144 ?_ (wn_t rfl rfl (by decide) rfl hb521)
                  exact r_nil (n_lp ⟨_, rfl, undef, rfl, H1690⟩)
                · intro η41 wd1698 Δ1699 hE1694 hR1695 hA1696 H1697
                  refine sp_op [(40, .bool (!((y27.Entity).toList == ((rd b_ i22).Entity).toList))), (48, .pointer (some ((oA A9).add (Int.toNat i22 * 6))))] (ac (hE1694 24 (by decide)) (ac (hE1694 32 (by decide)) an)) ?_
                  refine r_fa FA37_2 (((oA A9).add (Int.toNat i22 * 6)).add 2) rfl rfl ?_ (wn_t rfl rfl (by decide) rfl hb521)
                  exact r_nil (n_lp ⟨_, rfl, undef, rfl, H1697⟩)
                · intro η41 wd1704 Δ1705 hE1700 hR1701 hA1702 H1703
                  have H1703 : Hp w0 ((Δ1705 ++ Γ)) wd1704 := H1703
                  refine sp_op [(40, .bool (!((y27.Entity).toList == ((rd b_ i22).Entity).toList))), (49, .pointer (some (((oA A9).add (Int.toNat i22 * 6)).add 2)))] (ac (hE1700 24 (by decide)) (ac (hE1700 33 (by decide)) an)) ?_
                  have hA1706 := (hv12 _ (H1703).tl).adO hj45
                  refine r_ld1 (.int .i64 ((rd b_ i22).Period)) LD3 rfl ((hv12 _ (H1703).tl).cA hA1706 hj45 2 _ rfl) ?_ (wn_t rfl rfl (by decide) rfl hb521)
                  exact r_nil (n_lp ⟨_, rfl, undef, rfl, H1703⟩)
                · intro η41 wd1711 Δ1712 hE1707 hR1708 hA1709 H1710
                  refine sp_op [(40, .bool (!((y27.Entity).toList == ((rd b_ i22).Entity).toList))), (45, .int .i64 y27.Period), (50, .int .i64 ((rd b_ i22).Period))] (ac (hE1707 24 (by decide)) (ac (hE1707 29 (by decide)) (ac (hE1707 34 (by decide)) an))) ?_
                  refine r_pure (.bool (y27.Period != (rd b_ i22).Period)) rfl ?_ (wn_t rfl rfl (by decide) rfl hb521)
                  exact r_nil (n_lp ⟨_, rfl, undef, rfl, H1710⟩)
                · intro η41 wd1717 Δ1718 hE1713 hR1714 hA1715 H1716
                  refine sp_op [(40, .bool (!((y27.Entity).toList == ((rd b_ i22).Entity).toList))), (51, .bool (y27.Period != (rd b_ i22).Period))] (ac (hE1713 24 (by decide)) (ac (hE1713 35 (by decide)) an)) ?_
                  refine r_pick_f (.bool (y27.Period != (rd b_ i22).Period)) hb521 rfl rfl ?_
                  exact r_nil (n_lp ⟨_, rfl, undef, rfl, H1716⟩)
                · intro η41 wd1723 Δ1724 hE1719 hR1720 hA1721 H1722
                  refine sp_op [(52, .bool (y27.Period != (rd b_ i22).Period))] (ac (hE1719 36 (by decide)) an) ?_
                  refine r_pure (.bool (y27.Period != (rd b_ i22).Period)) rfl ?_
                  exact r_nil (n_lp ⟨_, rfl, undef, rfl, H1722⟩)
                · intro η41 wd1729 Δ1730 hE1725 hR1726 hA1727 H1728
                  refine sp_op [(0, .slice A1 a_.length c2), (53, .bool (y27.Period != (rd b_ i22).Period))] (ac rfl (ac (hE1725 37 (by decide)) an)) ?_
                  refine r_pure (.slice A1 a_.length c2) rfl ?_ (wn_t rfl rfl (by decide) rfl hb999)
                  exact r_nil (n_lp ⟨_, rfl, undef, rfl, H1728⟩)
                · intro η41 wd1735 Δ1736 hE1731 hR1732 hA1733 H1734
                  refine sp_op [(5, .int .i64 i22), (53, .bool (y27.Period != (rd b_ i22).Period))] (ac rfl (ac (hE1731 37 (by decide)) an)) ?_
                  refine r_pure (.int .i64 i22) rfl ?_ (wn_t rfl rfl (by decide) rfl hb999)
                  exact r_nil (n_lp ⟨_, rfl, undef, rfl, H1734⟩)
                · intro η41 wd1741 Δ1742 hE1737 hR1738 hA1739 H1740
                  have H1740 : Hp w0 ((Δ1742 ++ Γ)) wd1741 := H1740
                  refine sp_op [(53, .bool (y27.Period != (rd b_ i22).Period)), (54, .slice A1 a_.length c2), (55, .int .i64 i22)] (ac (hE1737 37 (by decide)) (ac (hE1737 38 (by decide)) (ac (hE1737 39 (by decide)) an))) ?_
                  have hA1743 := (hv4 _ (H1740).tl).adO hj35
                  refine r_ix IX26 rfl rfl hA1743 h033 h134 ?_ (wn_t rfl rfl (by decide) rfl hb999)
                  exact r_nil (n_lp ⟨_, rfl, undef, rfl, H1740⟩)
                · intro η41 wd1748 Δ1749 hE1744 hR1745 hA1746 H1747
                  refine sp_op [(53, .bool (y27.Period != (rd b_ i22).Period)), (56, .pointer (some ((oA A1).add (Int.toNat i22 * 6))))] (ac (hE1744 37 (by decide)) (ac (hE1744 40 (by decide)) an)) ?_
                  refine r_fa FA37_3 (((oA A1).add (Int.toNat i22 * 6)).add 3) rfl rfl ?_ (wn_t rfl rfl (by decide) rfl hb999)
                  exact r_nil (n_lp ⟨_, rfl, undef, rfl, H1747⟩)
                · intro η41 wd1754 Δ1755 hE1750 hR1751 hA1752 H1753
                  have H1753 : Hp w0 ((Δ1755 ++ Γ)) wd1754 := H1753
                  refine sp_op [(53, .bool (y27.Period != (rd b_ i22).Period)), (57, .pointer (some (((oA A1).add (Int.toNat i22 * 6)).add 3)))] (ac (hE1750 37 (by decide)) (ac (hE1750 41 (by decide)) an)) ?_
                  have hA1756 := (hv4 _ (H1753).tl).adO hj35
                  refine r_ld1 (.int .i64 y27.Kind) LD3 rfl ((hv4 _ (H1753).tl).cA hA1756 hj35 3 _ rfl) ?_ (wn_t rfl rfl (by decide) rfl hb999)
                  exact r_nil (n_lp ⟨_, rfl, undef, rfl, H1753⟩)
                · intro η41 wd1761 Δ1762 hE1757 hR1758 hA1759 H1760
                  refine sp_op [(1, .slice A9 b_.length c10), (53, .bool (y27.Period != (rd b_ i22).Period))] (ac rfl (ac (hE1757 37 (by decide)) an)) ?_
                  refine r_pure (.slice A9 b_.length c10) rfl ?_ (wn_t rfl rfl (by decide) rfl hb999)
                  exact r_nil (n_lp ⟨_, rfl, undef, rfl, H1760⟩)
                · intro η41 wd1767 Δ1768 hE1763 hR1764 hA1765 H1766
                  refine sp_op [(5, .int .i64 i22), (53, .bool (y27.Period != (rd b_ i22).Period))] (ac rfl (ac (hE1763 37 (by decide)) an)) ?_
                  refine r_pure (.int .i64 i22) rfl ?_ (wn_t rfl rfl (by decide) rfl hb999)
                  exact r_nil (n_lp ⟨_, rfl, undef, rfl, H1766⟩)
                · intro η41 wd1773 Δ1774 hE1769 hR1770 hA1771 H1772
                  have H1772 : Hp w0 ((Δ1774 ++ Γ)) wd1773 := H1772
                  refine sp_op [(53, .bool (y27.Period != (rd b_ i22).Period)), (59, .slice A9 b_.length c10), (60, .int .i64 i22)] (ac (hE1769 37 (by decide)) (ac (hE1769 43 (by decide)) (ac (hE1769 44 (by decide)) an))) ?_
                  have hA1775 := (hv12 _ (H1772).tl).adO hj45
                  refine r_ix IX26 rfl rfl hA1775 h043 h144 ?_ (wn_t rfl rfl (by decide) rfl hb999)
                  exact r_nil (n_lp ⟨_, rfl, undef, rfl, H1772⟩)
                · intro η41 wd1780 Δ1781 hE1776 hR1777 hA1778 H1779
                  refine sp_op [(53, .bool (y27.Period != (rd b_ i22).Period)), (61, .pointer (some ((oA A9).add (Int.toNat i22 * 6))))] (ac (hE1776 37 (by decide)) (ac (hE1776 45 (by decide)) an)) ?_
                  refine r_fa FA37_3 (((oA A9).add (Int.toNat i22 * 6)).add 3) rfl rfl ?_ (wn_t rfl rfl (by decide) rfl hb999)
                  exact r_nil (n_lp ⟨_, rfl, undef, rfl, H1779⟩)
                · intro η41 wd1786 Δ1787 hE1782 hR1783 hA1784 H1785
                  have H1785 : Hp w0 ((Δ1787 ++ Γ)) wd1786 := H1785
                  refine sp_op [(53, .bool (y27.Period != (rd b_ i22).Period)), (62, .pointer (some (((oA A9).add (Int.toNat i22 * 6)).add 3)))] (ac (hE1782 37 (by decide)) (ac (hE1782 46 (by decide)) an)) ?_
                  have hA1788 := (hv12 _ (H1785).tl).adO hj45
                  refine r_ld1 (.int .i64 ((rd b_ i22).Kind)) LD3 rfl ((hv12 _ (H1785).tl).cA hA1788 hj45 3 _ rfl) ?_ (wn_t rfl rfl (by decide) rfl hb999)
                  exact r_nil (n_lp ⟨_, rfl, undef, rfl, H1785⟩)
                · intro η41 wd1793 Δ1794 hE1789 hR1790 hA1791 H1792
                  refine sp_op [(53, .bool (y27.Period != (rd b_ i22).Period)), (58, .int .i64 y27.Kind), (63, .int .i64 ((rd b_ i22).Kind))] (ac (hE1789 37 (by decide)) (ac (hE1789 42 (by decide)) (ac (hE1789 47 (by decide)) an))) ?_
                  refine r_pure (.bool (y27.Kind != (rd b_ i22).Kind)) rfl ?_ (wn_t rfl rfl (by decide) rfl hb999)
                  exact r_nil (n_lp ⟨_, rfl, undef, rfl, H1792⟩)
                · intro η41 wd1799 Δ1800 hE1795 hR1796 hA1797 H1798
                  refine sp_op [(53, .bool (y27.Period != (rd b_ i22).Period)), (64, .bool (y27.Kind != (rd b_ i22).Kind))] (ac (hE1795 37 (by decide)) (ac (hE1795 48 (by decide)) an)) ?_
                  refine r_pick_f (.bool (y27.Kind != (rd b_ i22).Kind)) hb999 rfl rfl ?_
                  exact r_nil (n_lp ⟨_, rfl, undef, rfl, H1798⟩)
                · intro η41 wd1805 Δ1806 hE1801 hR1802 hA1803 H1804
                  refine sp_op [(65, .bool (y27.Kind != (rd b_ i22).Kind))] (ac (hE1801 49 (by decide)) an) ?_
                  refine r_pure (.bool (y27.Kind != (rd b_ i22).Kind)) rfl ?_
                  exact r_nil (n_lp ⟨_, rfl, undef, rfl, H1804⟩)
                · intro η41 wd1811 Δ1812 hE1807 hR1808 hA1809 H1810
                  refine sp_op [(66, .bool (y27.Kind != (rd b_ i22).Kind))] (ac (hE1807 50 (by decide)) an) ?_
                  refine r_not (wn_f rfl rfl (by decide) rfl hb1481) ?_
                  exact r_nil (n_lp ⟨_, rfl, undef, rfl, H1810⟩)
                · intro η41 wd1817 Δ1818 hE1813 hR1814 hA1815 H1816
                  refine sp_op [(66, .bool (y27.Kind != (rd b_ i22).Kind))] (ac (hE1813 50 (by decide)) an) ?_
                  refine r_not (wn_f rfl rfl (by decide) rfl hb1481) ?_
                  exact r_nil (n_lp ⟨_, rfl, undef, rfl, H1816⟩)
                · intro η41 wd1823 Δ1824 hE1819 hR1820 hA1821 H1822
                  refine sp_op [(66, .bool (y27.Kind != (rd b_ i22).Kind))] (ac (hE1819 50 (by decide)) an) ?_
                  refine r_not (wn_f rfl rfl (by decide) rfl hb1481) ?_
                  exact r_nil (n_lp ⟨_, rfl, undef, rfl, H1822⟩)
                · intro η41 wd1829 Δ1830 hE1825 hR1826 hA1827 H1828
                  refine sp_op [(66, .bool (y27.Kind != (rd b_ i22).Kind))] (ac (hE1825 50 (by decide)) an) ?_
                  refine r_not (wn_f rfl rfl (by decide) rfl hb1481) ?_
                  exact r_nil (n_lp ⟨_, rfl, undef, rfl, H1828⟩)
                · intro η41 wd1835 Δ1836 hE1831 hR1832 hA1833 H1834
                  refine sp_op [(66, .bool (y27.Kind != (rd b_ i22).Kind))] (ac (hE1831 50 (by decide)) an) ?_
                  refine r_not (wn_f rfl rfl (by decide) rfl hb1481) ?_
                  exact r_nil (n_lp ⟨_, rfl, undef, rfl, H1834⟩)
                · intro η41 wd1841 Δ1842 hE1837 hR1838 hA1839 H1840
                  refine sp_op [(66, .bool (y27.Kind != (rd b_ i22).Kind))] (ac (hE1837 50 (by decide)) an) ?_
                  refine r_not (wn_f rfl rfl (by decide) rfl hb1481) ?_
                  exact r_nil (n_lp ⟨_, rfl, undef, rfl, H1840⟩)
                · intro η41 wd1847 Δ1848 hE1843 hR1844 hA1845 H1846
                  refine sp_op [(66, .bool (y27.Kind != (rd b_ i22).Kind))] (ac (hE1843 50 (by decide)) an) ?_
                  refine r_not (wn_f rfl rfl (by decide) rfl hb1481) ?_
                  exact r_nil (n_lp ⟨_, rfl, undef, rfl, H1846⟩)
                · intro η41 wd1853 Δ1854 hE1849 hR1850 hA1851 H1852
                  refine sp_op [(66, .bool (y27.Kind != (rd b_ i22).Kind))] (ac (hE1849 50 (by decide)) an) ?_
                  refine r_not (wn_f rfl rfl (by decide) rfl hb1481) ?_
                  exact r_nil (n_lp ⟨_, rfl, undef, rfl, H1852⟩)
                · intro η41 wd1859 Δ1860 hE1855 hR1856 hA1857 H1858
                  refine sp_op [(66, .bool (y27.Kind != (rd b_ i22).Kind))] (ac (hE1855 50 (by decide)) an) ?_
                  refine r_not (wn_f rfl rfl (by decide) rfl hb1481) ?_
                  exact r_nil (n_lp ⟨_, rfl, undef, rfl, H1858⟩)
                · intro η41 wd1865 Δ1866 hE1861 hR1862 hA1863 H1864
                  refine sp_op [(66, .bool (y27.Kind != (rd b_ i22).Kind))] (ac (hE1861 50 (by decide)) an) ?_
                  refine r_not (wn_f rfl rfl (by decide) rfl hb1481) ?_
                  exact r_nil (n_lp ⟨_, rfl, undef, rfl, H1864⟩)
                · intro η41 wd1871 Δ1872 hE1867 hR1868 hA1869 H1870
                  refine sp_op [(66, .bool (y27.Kind != (rd b_ i22).Kind))] (ac (hE1867 50 (by decide)) an) ?_
                  refine r_not (wn_f rfl rfl (by decide) rfl hb1481) ?_
                  exact r_nil (n_lp ⟨_, rfl, undef, rfl, H1870⟩)
                · intro η41 wd1877 Δ1878 hE1873 hR1874 hA1875 H1876
                  refine sp_op [(66, .bool (y27.Kind != (rd b_ i22).Kind)), (77, undef)] (ac (hE1873 50 (by decide)) (ac (hE1873 61 (by decide)) an)) ?_
                  refine r_pick_t (.bool true) hb1481 rfl rfl ?_
                  exact r_nil (n_lp ⟨_, rfl, undef, rfl, H1876⟩)
                · intro η41 wd1883 Δ1884 hE1879 hR1880 hA1881 H1882
                  refine sp_op [(78, .bool true)] (ac (hE1879 62 (by decide)) an) ?_
                  refine r_pure (.bool true) rfl ?_
                  exact r_nil (n_lp ⟨_, rfl, undef, rfl, H1882⟩)
                · intro η41 wd1889 Δ1890 hE1885 hR1886 hA1887 H1888
                  refine sp_op [(79, .bool true)] (ac (hE1885 63 (by decide)) an) ?_
                  refine r_not (wn_f rfl rfl (by decide) rfl rfl) ?_
                  exact r_nil (n_lp ⟨_, rfl, undef, rfl, H1888⟩)
                · intro η41 wd1895 Δ1896 hE1891 hR1892 hA1893 H1894
                  refine sp_op [(79, .bool true)] (ac (hE1891 63 (by decide)) an) ?_
                  refine r_not (wn_f rfl rfl (by decide) rfl rfl) ?_
                  exact r_nil (n_lp ⟨_, rfl, undef, rfl, H1894⟩)
                · intro η41 wd1901 Δ1902 hE1897 hR1898 hA1899 H1900
                  refine sp_op [(79, .bool true)] (ac (hE1897 63 (by decide)) an) ?_
                  refine r_not (wn_f rfl rfl (by decide) rfl rfl) ?_
                  exact r_nil (n_lp ⟨_, rfl, undef, rfl, H1900⟩)
                · intro η41 wd1907 Δ1908 hE1903 hR1904 hA1905 H1906
                  refine sp_op [(79, .bool true)] (ac (hE1903 63 (by decide)) an) ?_
                  refine r_not (wn_f rfl rfl (by decide) rfl rfl) ?_
                  exact r_nil (n_lp ⟨_, rfl, undef, rfl, H1906⟩)
                · intro η41 wd1913 Δ1914 hE1909 hR1910 hA1911 H1912
                  refine sp_op [(79, .bool true)] (ac (hE1909 63 (by decide)) an) ?_
                  refine r_not (wn_f rfl rfl (by decide) rfl rfl) ?_
                  exact r_nil (n_lp ⟨_, rfl, undef, rfl, H1912⟩)
                · intro η41 wd1919 Δ1920 hE1915 hR1916 hA1917 H1918
                  refine sp_op [(79, .bool true)] (ac (hE1915 63 (by decide)) an) ?_
                  refine r_not (wn_f rfl rfl (by decide) rfl rfl) ?_
                  exact r_nil (n_lp ⟨_, rfl, undef, rfl, H1918⟩)
                · intro η41 wd1925 Δ1926 hE1921 hR1922 hA1923 H1924
                  refine sp_op [(79, .bool true)] (ac (hE1921 63 (by decide)) an) ?_
                  refine r_not (wn_f rfl rfl (by decide) rfl rfl) ?_
                  exact r_nil (n_lp ⟨_, rfl, undef, rfl, H1924⟩)
                · intro η41 wd1931 Δ1932 hE1927 hR1928 hA1929 H1930
                  refine sp_op [(79, .bool true)] (ac (hE1927 63 (by decide)) an) ?_
                  refine r_not (wn_f rfl rfl (by decide) rfl rfl) ?_
                  exact r_nil (n_lp ⟨_, rfl, undef, rfl, H1930⟩)
                · intro η41 wd1937 Δ1938 hE1933 hR1934 hA1935 H1936
                  refine sp_op [(79, .bool true)] (ac (hE1933 63 (by decide)) an) ?_
                  refine r_not (wn_f rfl rfl (by decide) rfl rfl) ?_
                  exact r_nil (n_lp ⟨_, rfl, undef, rfl, H1936⟩)
                · intro η41 wd1943 Δ1944 hE1939 hR1940 hA1941 H1942
                  refine sp_op [(79, .bool true)] (ac (hE1939 63 (by decide)) an) ?_
                  refine r_not (wn_f rfl rfl (by decide) rfl rfl) ?_
                  exact r_nil (n_lp ⟨_, rfl, undef, rfl, H1942⟩)
                · intro η41 wd1949 Δ1950 hE1945 hR1946 hA1947 H1948
                  refine sp_op [(79, .bool true)] (ac (hE1945 63 (by decide)) an) ?_
                  refine r_not (wn_f rfl rfl (by decide) rfl rfl) ?_
                  exact r_nil (n_lp ⟨_, rfl, undef, rfl, H1948⟩)
                · intro η41 wd1955 Δ1956 hE1951 hR1952 hA1953 H1954
                  refine sp_op [(79, .bool true)] (ac (hE1951 63 (by decide)) an) ?_
                  refine r_not (wn_f rfl rfl (by decide) rfl rfl) ?_
                  exact r_nil (n_lp ⟨_, rfl, undef, rfl, H1954⟩)
                · intro η41 wd1961 Δ1962 hE1957 hR1958 hA1959 H1960
                  refine sp_op [(79, .bool true), (91, undef)] (ac (hE1957 63 (by decide)) (ac (hE1957 75 (by decide)) an)) ?_
                  refine r_pick_t (.bool true) rfl rfl rfl ?_
                  exact r_nil (n_lp ⟨_, rfl, undef, rfl, H1960⟩)
                · intro η41 wd1964 hV1965 H1963
                  have H1966 : Hp w0 (Γ) wd1964 := H1963
                  refine n_frame ((0, .slice A1 a_.length c2) :: (1, .slice A9 b_.length c10) :: (12, .int .i64 (a_.length : Int)) :: (13, .int .i64 i22) :: (28, .slice A1 a_.length c2) :: (29, .int .i64 i22) :: (30, .pointer (some ((oA A1).add (Int.toNat i22 * 6)))) :: (31, .pointer (some (((oA A1).add (Int.toNat i22 * 6)).add 1))) :: (32, .string y27.Entity) :: (33, .slice A9 b_.length c10) :: (34, .int .i64 i22) :: (35, .pointer (some ((oA A9).add (Int.toNat i22 * 6)))) :: (36, .pointer (some (((oA A9).add (Int.toNat i22 * 6)).add 1))) :: (37, .string ((rd b_ i22).Entity)) :: (38, .bool (!((y27.Entity).toList == ((rd b_ i22).Entity).toList))) :: (41, .slice A1 a_.length c2) :: (42, .int .i64 i22) :: (43, .pointer (some ((oA A1).add (Int.toNat i22 * 6)))) :: (44, .pointer (some (((oA A1).add (Int.toNat i22 * 6)).add 2))) :: (45, .int .i64 y27.Period) :: (46, .slice A9 b_.length c10) :: (47, .int .i64 i22) :: (48, .pointer (some ((oA A9).add (Int.toNat i22 * 6)))) :: (49, .pointer (some (((oA A9).add (Int.toNat i22 * 6)).add 2))) :: (50, .int .i64 ((rd b_ i22).Period)) :: (51, .bool (y27.Period != (rd b_ i22).Period)) :: (54, .slice A1 a_.length c2) :: (55, .int .i64 i22) :: (56, .pointer (some ((oA A1).add (Int.toNat i22 * 6)))) :: (57, .pointer (some (((oA A1).add (Int.toNat i22 * 6)).add 3))) :: (58, .int .i64 y27.Kind) :: (59, .slice A9 b_.length c10) :: (60, .int .i64 i22) :: (61, .pointer (some ((oA A9).add (Int.toNat i22 * 6)))) :: (62, .pointer (some (((oA A9).add (Int.toNat i22 * 6)).add 3))) :: (63, .int .i64 ((rd b_ i22).Kind)) :: (64, .bool (y27.Kind != (rd b_ i22).Kind)) :: (92, .bool true) :: []) (ac rfl (ac rfl (ac rfl (ac rfl (ac (hV1965 12 rfl) (ac (hV1965 13 rfl) (ac (hV1965 14 rfl) (ac (hV1965 15 rfl) (ac (hV1965 16 rfl) (ac (hV1965 17 rfl) (ac (hV1965 18 rfl) (ac (hV1965 19 rfl) (ac (hV1965 20 rfl) (ac (hV1965 21 rfl) (ac (hV1965 22 rfl) (ac (hV1965 25 rfl) (ac (hV1965 26 rfl) (ac (hV1965 27 rfl) (ac (hV1965 28 rfl) (ac (hV1965 29 rfl) (ac (hV1965 30 rfl) (ac (hV1965 31 rfl) (ac (hV1965 32 rfl) (ac (hV1965 33 rfl) (ac (hV1965 34 rfl) (ac (hV1965 35 rfl) (ac (hV1965 38 rfl) (ac (hV1965 39 rfl) (ac (hV1965 40 rfl) (ac (hV1965 41 rfl) (ac (hV1965 42 rfl) (ac (hV1965 43 rfl) (ac (hV1965 44 rfl) (ac (hV1965 45 rfl) (ac (hV1965 46 rfl) (ac (hV1965 47 rfl) (ac (hV1965 48 rfl) (ac (hV1965 76 rfl) an)))))))))))))))))))))))))))))))))))))) ?_
                  refine n_cut ⟨true, upk (ac rfl (ac rfl (ac rfl (ac rfl (ac rfl an))))), H1966, hm⟩
              · rcases ite_some hm with ⟨hb1967, hm⟩ | ⟨hb1967, hm⟩
                · refine Flow.run' RA11_6 RW11_6 ((fun η41 v => v.1 = .slice A1 a_.length c2) :: (fun η41 v => v.1 = .int .i64 i22) :: (fun η41 v => v.1 = .pointer (some ((oA A1).add (Int.toNat i22 * 6)))) :: (fun η41 v => v.1 = .pointer (some (((oA A1).add (Int.toNat i22 * 6)).add 0))) :: (fun η41 v => v.1 = .int .i64 y27.Seq) :: (fun η41 v => v.1 = .slice A9 b_.length c10) :: (fun η41 v => v.1 = .int .i64 i22) :: (fun η41 v => v.1 = .pointer (some ((oA A9).add (Int.toNat i22 * 6)))) :: (fun η41 v => v.1 = .pointer (some (((oA A9).add (Int.toNat i22 * 6)).add 0))) :: (fun η41 v => v.1 = .int .i64 ((rd b_ i22).Seq)) :: (fun η41 v => v.1 = .bool (y27.Seq != (rd b_ i22).Seq)) :: (fun η41 v => v.1 = .bool (y27.Seq != (rd b_ i22).Seq)) :: (fun η41 v => v.1 = .slice A1 a_.length c2) :: (fun η41 v => v.1 = .int .i64 i22) :: (fun η41 v => v.1 = .pointer (some ((oA A1).add (Int.toNat i22 * 6)))) :: (fun η41 v => v.1 = .pointer (some (((oA A1).add (Int.toNat i22 * 6)).add 1))) :: (fun η41 v => v.1 = .string y27.Entity) :: (fun η41 v => v.1 = .slice A9 b_.length c10) :: (fun η41 v => v.1 = .int .i64 i22) :: (fun η41 v => v.1 = .pointer (some ((oA A9).add (Int.toNat i22 * 6)))) :: (fun η41 v => v.1 = .pointer (some (((oA A9).add (Int.toNat i22 * 6)).add 1))) :: (fun η41 v => v.1 = .string ((rd b_ i22).Entity)) :: (fun η41 v => v.1 = .bool (!((y27.Entity).toList == ((rd b_ i22).Entity).toList))) :: (fun η41 v => v.1 = .bool (!((y27.Entity).toList == ((rd b_ i22).Entity).toList))) :: (fun η41 v => v.1 = .bool (!((y27.Entity).toList == ((rd b_ i22).Entity).toList))) :: (fun η41 v => v.1 = .slice A1 a_.length c2) :: (fun η41 v => v.1 = .int .i64 i22) :: (fun η41 v => v.1 = .pointer (some ((oA A1).add (Int.toNat i22 * 6)))) :: (fun η41 v => v.1 = .pointer (some (((oA A1).add (Int.toNat i22 * 6)).add 2))) :: (fun η41 v => v.1 = .int .i64 y27.Period) :: (fun η41 v => v.1 = .slice A9 b_.length c10) :: (fun η41 v => v.1 = .int .i64 i22) :: (fun η41 v => v.1 = .pointer (some ((oA A9).add (Int.toNat i22 * 6)))) :: (fun η41 v => v.1 = .pointer (some (((oA A9).add (Int.toNat i22 * 6)).add 2))) :: (fun η41 v => v.1 = .int .i64 ((rd b_ i22).Period)) :: (fun η41 v => v.1 = .bool (y27.Period != (rd b_ i22).Period)) :: (fun η41 v => v.1 = .bool (y27.Period != (rd b_ i22).Period)) :: (fun η41 v => v.1 = .bool (y27.Period != (rd b_ i22).Period)) :: (fun η41 v => v.1 = .slice A1 a_.length c2) :: (fun η41 v => v.1 = .int .i64 i22) :: (fun η41 v => v.1 = .pointer (some ((oA A1).add (Int.toNat i22 * 6)))) :: (fun η41 v => v.1 = .pointer (some (((oA A1).add (Int.toNat i22 * 6)).add 3))) :: (fun η41 v => v.1 = .int .i64 y27.Kind) :: (fun η41 v => v.1 = .slice A9 b_.length c10) :: (fun η41 v => v.1 = .int .i64 i22) :: (fun η41 v => v.1 = .pointer (some ((oA A9).add (Int.toNat i22 * 6)))) :: (fun η41 v => v.1 = .pointer (some (((oA A9).add (Int.toNat i22 * 6)).add 3))) :: (fun η41 v => v.1 = .int .i64 ((rd b_ i22).Kind)) :: (fun η41 v => v.1 = .bool (y27.Kind != (rd b_ i22).Kind)) :: (fun η41 v => v.1 = .bool (y27.Kind != (rd b_ i22).Kind)) :: (fun η41 v => v.1 = .bool (y27.Kind != (rd b_ i22).Kind)) :: (fun η41 v => v.1 = .slice A1 a_.length c2) :: (fun η41 v => v.1 = .int .i64 i22) :: (fun η41 v => v.1 = .pointer (some ((oA A1).add (Int.toNat i22 * 6)))) :: (fun η41 v => v.1 = .pointer (some (((oA A1).add (Int.toNat i22 * 6)).add 4))) :: (fun η41 v => v.1 = .int .i64 y27.Of) :: (fun η41 v => v.1 = .slice A9 b_.length c10) :: (fun η41 v => v.1 = .int .i64 i22) :: (fun η41 v => v.1 = .pointer (some ((oA A9).add (Int.toNat i22 * 6)))) :: (fun η41 v => v.1 = .pointer (some (((oA A9).add (Int.toNat i22 * 6)).add 4))) :: (fun η41 v => v.1 = .int .i64 ((rd b_ i22).Of)) :: (fun η41 v => v.1 = .bool (y27.Of != (rd b_ i22).Of)) :: (fun η41 v => v.1 = .bool (y27.Of != (rd b_ i22).Of)) :: (fun η41 v => v.1 = .bool (y27.Of != (rd b_ i22).Of)) :: (fun η41 v => v.1 = undef) :: (fun η41 v => v.1 = undef) :: (fun η41 v => v.1 = undef) :: (fun η41 v => v.1 = undef) :: (fun η41 v => v.1 = undef) :: (fun η41 v => v.1 = undef) :: (fun η41 v => v.1 = undef) :: (fun η41 v => v.1 = undef) :: (fun η41 v => v.1 = undef) :: (fun η41 v => v.1 = undef) :: (fun η41 v => v.1 = undef) :: (fun η41 v => v.1 = undef) :: (fun η41 v => v.1 = .bool true) :: []) [] rfl (by kernel_rfl) (by kernel_rfl) H18 ⟨?_, ?_, ?_, ?_, ?_, ?_, ?_, ?_, ?_, ?_, ?_, ?_, ?_, ?_, ?_, ?_, ?_, ?_, ?_, ?_, ?_, ?_, ?_, ?_, ?_, ?_, ?_, ?_, ?_, ?_, ?_, ?_, ?_, ?_, ?_, ?_, ?_, ?_, ?_, ?_, ?_, ?_, ?_, ?_, ?_, ?_, ?_, ?_, ?_, ?_, ?_, ?_, ?_, ?_, ?_, ?_, ?_, ?_, ?_, ?_, ?_, ?_, ?_, ?_, ?_, ?_, ?_, ?_, ?_, ?_, ?_, ?_, ?_, ?_, ?_, ?_, ?_, trivial⟩ ?_
                  · intro η41 wd1972 Δ1973 hE1968 hR1969 hA1970 H1971
                    refine sp_op [(0, .slice A1 a_.length c2)] (ac rfl an) ?_
                    refine r_pure (.slice A1 a_.length c2) rfl ?_
                    exact r_nil (n_lp ⟨_, rfl, undef, rfl, H1971⟩)
                  · intro η41 wd1978 Δ1979 hE1974 hR1975 hA1976 H1977
                    refine sp_op [(5, .int .i64 i22)] (ac rfl an) ?_
                    refine r_pure (.int .i64 i22) rfl ?_
                    exact r_nil (n_lp ⟨_, rfl, undef, rfl, H1977⟩)
                  · intro η41 wd1984 Δ1985 hE1980 hR1981 hA1982 H1983
                    have H1983 : Hp w0 ((Δ1985 ++ Γ)) wd1984 := H1983
                    refine sp_op [(16, .slice A1 a_.length c2), (17, .int .i64 i22)] (ac (hE1980 0 (by decide)) (ac (hE1980 1 (by decide)) an)) ?_
                    have hA1986 := (hv4 _ (H1983).tl).adO hj35
                    refine r_ix IX26 rfl rfl hA1986 h033 h134 ?_
                    exact r_nil (n_lp ⟨_, rfl, undef, rfl, H1983⟩)
                  · intro η41 wd1991 Δ1992 hE1987 hR1988 hA1989 H1990
                    refine sp_op [(18, .pointer (some ((oA A1).add (Int.toNat i22 * 6))))] (ac (hE1987 2 (by decide)) an) ?_
                    refine r_fa FA37_0 (((oA A1).add (Int.toNat i22 * 6)).add 0) rfl rfl ?_
                    exact r_nil (n_lp ⟨_, rfl, undef, rfl, H1990⟩)
                  · intro η41 wd1997 Δ1998 hE1993 hR1994 hA1995 H1996
                    have H1996 : Hp w0 ((Δ1998 ++ Γ)) wd1997 := H1996
                    refine sp_op [(19, .pointer (some (((oA A1).add (Int.toNat i22 * 6)).add 0)))] (ac (hE1993 3 (by decide)) an) ?_
                    have hA1999 := (hv4 _ (H1996).tl).adO hj35
                    refine r_ld1 (.int .i64 y27.Seq) LD3 rfl ((hv4 _ (H1996).tl).cA hA1999 hj35 0 _ rfl) ?_
                    exact r_nil (n_lp ⟨_, rfl, undef, rfl, H1996⟩)
                  · intro η41 wd2004 Δ2005 hE2000 hR2001 hA2002 H2003
                    refine sp_op [(1, .slice A9 b_.length c10)] (ac rfl an) ?_
                    refine r_pure (.slice A9 b_.length c10) rfl ?_
                    exact r_nil (n_lp ⟨_, rfl, undef, rfl, H2003⟩)
                  · intro η41 wd2010 Δ2011 hE2006 hR2007 hA2008 H2009
                    refine sp_op [(5, .int .i64 i22)] (ac rfl an) ?_
                    refine r_pure (.int .i64 i22) rfl ?_
                    exact r_nil (n_lp ⟨_, rfl, undef, rfl, H2009⟩)
                  · intro η41 wd2016 Δ2017 hE2012 hR2013 hA2014 H2015
                    have H2015 : Hp w0 ((Δ2017 ++ Γ)) wd2016 := H2015
                    refine sp_op [(21, .slice A9 b_.length c10), (22, .int .i64 i22)] (ac (hE2012 5 (by decide)) (ac (hE2012 6 (by decide)) an)) ?_
                    have hA2021 := (hv12 _ (H2015).tl).adO hj45
                    refine r_ix IX26 rfl rfl hA2021 h043 h144 ?_
                    exact r_nil (n_lp ⟨_, rfl, undef, rfl, H2015⟩)
                  · intro η41 wd2026 Δ2027 hE2022 hR2023 hA2024 H2025
                    refine sp_op [(23, .pointer (some ((oA A9).add (Int.toNat i22 * 6))))] (ac (hE2022 7 (by decide)) an) ?_
                    refine r_fa FA37_0 (((oA A9).add (Int.toNat i22 * 6)).add 0) rfl rfl ?_
                    exact r_nil (n_lp ⟨_, rfl, undef, rfl, H2025⟩)
                  · intro η41 wd2032 Δ2033 hE2028 hR2029 hA2030 H2031
                    have H2031 : Hp w0 ((Δ2033 ++ Γ)) wd2032 := H2031
                    refine sp_op [(24, .pointer (some (((oA A9).add (Int.toNat i22 * 6)).add 0)))] (ac (hE2028 8 (by decide)) an) ?_
                    have hA2034 := (hv12 _ (H2031).tl).adO hj45
                    refine r_ld1 (.int .i64 ((rd b_ i22).Seq)) LD3 rfl ((hv12 _ (H2031).tl).cA hA2034 hj45 0 _ rfl) ?_
                    exact r_nil (n_lp ⟨_, rfl, undef, rfl, H2031⟩)
                  · intro η41 wd2039 Δ2040 hE2035 hR2036 hA2037 H2038
                    refine sp_op [(20, .int .i64 y27.Seq), (25, .int .i64 ((rd b_ i22).Seq))] (ac (hE2035 4 (by decide)) (ac (hE2035 9 (by decide)) an)) ?_
                    refine r_pure (.bool (y27.Seq != (rd b_ i22).Seq)) rfl ?_
                    exact r_nil (n_lp ⟨_, rfl, undef, rfl, H2038⟩)
                  · intro η41 wd2045 Δ2046 hE2041 hR2042 hA2043 H2044
                    refine sp_op [(26, .bool (y27.Seq != (rd b_ i22).Seq))] (ac (hE2041 10 (by decide)) an) ?_
                    refine r_pure (.bool (y27.Seq != (rd b_ i22).Seq)) rfl ?_
                    exact r_nil (n_lp ⟨_, rfl, undef, rfl, H2044⟩)
                  · intro η41 wd2051 Δ2052 hE2047 hR2048 hA2049 H2050
                    refine sp_op [(0, .slice A1 a_.length c2), (27, .bool (y27.Seq != (rd b_ i22).Seq))] (ac rfl (ac (hE2047 11 (by decide)) an)) ?_
                    refine r_pure (.slice A1 a_.length c2) rfl ?_ (wn_t rfl rfl (by decide) rfl hb47)
                    exact r_nil (n_lp ⟨_, rfl, undef, rfl, H2050⟩)
                  · intro η41 wd2057 Δ2058 hE2053 hR2054 hA2055 H2056
                    refine sp_op [(5, .int .i64 i22), (27, .bool (y27.Seq != (rd b_ i22).Seq))] (ac rfl (ac (hE2053 11 (by decide)) an)) ?_
                    refine r_pure (.int .i64 i22) rfl ?_ (wn_t rfl rfl (by decide) rfl hb47)
                    exact r_nil (n_lp ⟨_, rfl, undef, rfl, H2056⟩)
                  · intro η41 wd2063 Δ2064 hE2059 hR2060 hA2061 H2062
                    have H2062 : Hp w0 ((Δ2064 ++ Γ)) wd2063 := H2062
                    refine sp_op [(27, .bool (y27.Seq != (rd b_ i22).Seq)), (28, .slice A1 a_.length c2), (29, .int .i64 i22)] (ac (hE2059 11 (by decide)) (ac (hE2059 12 (by decide)) (ac (hE2059 13 (by decide)) an))) ?_
                    have hA2065 := (hv4 _ (H2062).tl).adO hj35
                    refine r_ix IX26 rfl rfl hA2065 h033 h134 ?_ (wn_t rfl rfl (by decide) rfl hb47)
                    exact r_nil (n_lp ⟨_, rfl, undef, rfl, H2062⟩)
                  · intro η41 wd2070 Δ2071 hE2066 hR2067 hA2068 H2069
                    refine sp_op [(27, .bool (y27.Seq != (rd b_ i22).Seq)), (30, .pointer (some ((oA A1).add (Int.toNat i22 * 6))))] (ac (hE2066 11 (by decide)) (ac (hE2066 14 (by decide)) an)) ?_
                    refine r_fa FA37_1 (((oA A1).add (Int.toNat i22 * 6)).add 1) rfl rfl ?_ (wn_t rfl rfl (by decide) rfl hb47)
                    exact r_nil (n_lp ⟨_, rfl, undef, rfl, H2069⟩)
                  · intro η41 wd2076 Δ2077 hE2072 hR2073 hA2074 H2075
                    have H2075 : Hp w0 ((Δ2077 ++ Γ)) wd2076 := H2075
                    refine sp_op [(27, .bool (y27.Seq != (rd b_ i22).Seq)), (31, .pointer (some (((oA A1).add (Int.toNat i22 * 6)).add 1)))] (ac (hE2072 11 (by decide)) (ac (hE2072 15 (by decide)) an)) ?_
                    have hA2078 := (hv4 _ (H2075).tl).adO hj35
                    refine r_ld1 (.string y27.Entity) LD9 rfl ((hv4 _ (H2075).tl).cA hA2078 hj35 1 _ rfl) ?_ (wn_t rfl rfl (by decide) rfl hb47)
                    exact r_nil (n_lp ⟨_, rfl, undef, rfl, H2075⟩)
                  · intro η41 wd2083 Δ2084 hE2079 hR2080 hA2081 H2082
                    refine sp_op [(1, .slice A9 b_.length c10), (27, .bool (y27.Seq != (rd b_ i22).Seq))] (ac rfl (ac (hE2079 11 (by decide)) an)) ?_
                    refine r_pure (.slice A9 b_.length c10) rfl ?_ (wn_t rfl rfl (by decide) rfl hb47)
                    exact r_nil (n_lp ⟨_, rfl, undef, rfl, H2082⟩)
                  · intro η41 wd2089 Δ2090 hE2085 hR2086 hA2087 H2088
                    refine sp_op [(5, .int .i64 i22), (27, .bool (y27.Seq != (rd b_ i22).Seq))] (ac rfl (ac (hE2085 11 (by decide)) an)) ?_
                    refine r_pure (.int .i64 i22) rfl ?_ (wn_t rfl rfl (by decide) rfl hb47)
                    exact r_nil (n_lp ⟨_, rfl, undef, rfl, H2088⟩)
                  · intro η41 wd2095 Δ2096 hE2091 hR2092 hA2093 H2094
                    have H2094 : Hp w0 ((Δ2096 ++ Γ)) wd2095 := H2094
                    refine sp_op [(27, .bool (y27.Seq != (rd b_ i22).Seq)), (33, .slice A9 b_.length c10), (34, .int .i64 i22)] (ac (hE2091 11 (by decide)) (ac (hE2091 17 (by decide)) (ac (hE2091 18 (by decide)) an))) ?_
                    have hA2097 := (hv12 _ (H2094).tl).adO hj45
                    refine r_ix IX26 rfl rfl hA2097 h043 h144 ?_ (wn_t rfl rfl (by decide) rfl hb47)
                    exact r_nil (n_lp ⟨_, rfl, undef, rfl, H2094⟩)
                  · intro η41 wd2102 Δ2103 hE2098 hR2099 hA2100 H2101
                    refine sp_op [(27, .bool (y27.Seq != (rd b_ i22).Seq)), (35, .pointer (some ((oA A9).add (Int.toNat i22 * 6))))] (ac (hE2098 11 (by decide)) (ac (hE2098 19 (by decide)) an)) ?_
                    refine r_fa FA37_1 (((oA A9).add (Int.toNat i22 * 6)).add 1) rfl rfl ?_ (wn_t rfl rfl (by decide) rfl hb47)
                    exact r_nil (n_lp ⟨_, rfl, undef, rfl, H2101⟩)
                  · intro η41 wd2108 Δ2109 hE2104 hR2105 hA2106 H2107
                    have H2107 : Hp w0 ((Δ2109 ++ Γ)) wd2108 := H2107
                    refine sp_op [(27, .bool (y27.Seq != (rd b_ i22).Seq)), (36, .pointer (some (((oA A9).add (Int.toNat i22 * 6)).add 1)))] (ac (hE2104 11 (by decide)) (ac (hE2104 20 (by decide)) an)) ?_
                    have hA2110 := (hv12 _ (H2107).tl).adO hj45
                    refine r_ld1 (.string ((rd b_ i22).Entity)) LD9 rfl ((hv12 _ (H2107).tl).cA hA2110 hj45 1 _ rfl) ?_ (wn_t rfl rfl (by decide) rfl hb47)
                    exact r_nil (n_lp ⟨_, rfl, undef, rfl, H2107⟩)
                  · intro η41 wd2115 Δ2116 hE2111 hR2112 hA2113 H2114
                    refine sp_op [(27, .bool (y27.Seq != (rd b_ i22).Seq)), (32, .string y27.Entity), (37, .string ((rd b_ i22).Entity))] (ac (hE2111 11 (by decide)) (ac (hE2111 16 (by decide)) (ac (hE2111 21 (by decide)) an))) ?_
                    refine r_pure (.bool (!((y27.Entity).toList == ((rd b_ i22).Entity).toList))) rfl ?_ (wn_t rfl rfl (by decide) rfl hb47)
                    exact r_nil (n_lp ⟨_, rfl, undef, rfl, H2114⟩)
                  · intro η41 wd2121 Δ2122 hE2117 hR2118 hA2119 H2120
                    refine sp_op [(27, .bool (y27.Seq != (rd b_ i22).Seq)), (38, .bool (!((y27.Entity).toList == ((rd b_ i22).Entity).toList)))] (ac (hE2117 11 (by decide)) (ac (hE2117 22 (by decide)) an)) ?_
                    refine r_pick_f (.bool (!((y27.Entity).toList == ((rd b_ i22).Entity).toList))) hb47 rfl rfl ?_
                    exact r_nil (n_lp ⟨_, rfl, undef, rfl, H2120⟩)
                  · intro η41 wd2127 Δ2128 hE2123 hR2124 hA2125 H2126
                    refine sp_op [(39, .bool (!((y27.Entity).toList == ((rd b_ i22).Entity).toList)))] (ac (hE2123 23 (by decide)) an) ?_
                    refine r_pure (.bool (!((y27.Entity).toList == ((rd b_ i22).Entity).toList))) rfl ?_
                    exact r_nil (n_lp ⟨_, rfl, undef, rfl, H2126⟩)
                  · intro η41 wd2133 Δ2134 hE2129 hR2130 hA2131 H2132
                    refine sp_op [(0, .slice A1 a_.length c2), (40, .bool (!((y27.Entity).toList == ((rd b_ i22).Entity).toList)))] (ac rfl (ac (hE2129 24 (by decide)) an)) ?_
                    refine r_pure (.slice A1 a_.length c2) rfl ?_ (wn_t rfl rfl (by decide) rfl hb521)
                    exact r_nil (n_lp ⟨_, rfl, undef, rfl, H2132⟩)
                  · intro η41 wd2139 Δ2140 hE2135 hR2136 hA2137 H2138
                    refine sp_op [(5, .int .i64 i22), (40, .bool (!((y27.Entity).toList == ((rd b_ i22).Entity).toList)))] (ac rfl (ac (hE2135 24 (by decide)) an)) ?_
                    refine r_pure (.int .i64 i22) rfl ?_ (wn_t rfl rfl (by decide) rfl hb521)
                    exact r_nil (n_lp ⟨_, rfl, undef, rfl, H2138⟩)
                  · intro η41 wd2145 Δ2146 hE2141 hR2142 hA2143 H2144
                    have H2144 : Hp w0 ((Δ2146 ++ Γ)) wd2145 := H2144
                    refine sp_op [(40, .bool (!((y27.Entity).toList == ((rd b_ i22).Entity).toList))), (41, .slice A1 a_.length c2), (42, .int .i64 i22)] (ac (hE2141 24 (by decide)) (ac (hE2141 25 (by decide)) (ac (hE2141 26 (by decide)) an))) ?_
                    have hA2147 := (hv4 _ (H2144).tl).adO hj35
                    refine r_ix IX26 rfl rfl hA2147 h033 h134 ?_ (wn_t rfl rfl (by decide) rfl hb521)
                    exact r_nil (n_lp ⟨_, rfl, undef, rfl, H2144⟩)
                  · intro η41 wd2152 Δ2153 hE2148 hR2149 hA2150 H2151
                    refine sp_op [(40, .bool (!((y27.Entity).toList == ((rd b_ i22).Entity).toList))), (43, .pointer (some ((oA A1).add (Int.toNat i22 * 6))))] (ac (hE2148 24 (by decide)) (ac (hE2148 27 (by decide)) an)) ?_
                    refine r_fa FA37_2 (((oA A1).add (Int.toNat i22 * 6)).add 2) rfl rfl ?_ (wn_t rfl rfl (by decide) rfl hb521)
                    exact r_nil (n_lp ⟨_, rfl, undef, rfl, H2151⟩)
                  · intro η41 wd2158 Δ2159 hE2154 hR2155 hA2156 H2157
                    have H2157 : Hp w0 ((Δ2159 ++ Γ)) wd2158 := H2157
                    refine sp_op [(40, .bool (!((y27.Entity).toList == ((rd b_ i22).Entity).toList))), (44, .pointer (some (((oA A1).add (Int.toNat i22 * 6)).add 2)))] (ac (hE2154 24 (by decide)) (ac (hE2154 28 (by decide)) an)) ?_
                    have hA2160 := (hv4 _ (H2157).tl).adO hj35
                    refine r_ld1 (.int .i64 y27.Period) LD3 rfl ((hv4 _ (H2157).tl).cA hA2160 hj35 2 _ rfl) ?_ (wn_t rfl rfl (by decide) rfl hb521)
                    exact r_nil (n_lp ⟨_, rfl, undef, rfl, H2157⟩)
                  · intro η41 wd2165 Δ2166 hE2161 hR2162 hA2163 H2164
                    refine sp_op [(1, .slice A9 b_.length c10), (40, .bool (!((y27.Entity).toList == ((rd b_ i22).Entity).toList)))] (ac rfl (ac (hE2161 24 (by decide)) an)) ?_
                    refine r_pure (.slice A9 b_.length c10) rfl ?_ (wn_t rfl rfl (by decide) rfl hb521)
                    exact r_nil (n_lp ⟨_, rfl, undef, rfl, H2164⟩)
                  · intro η41 wd2171 Δ2172 hE2167 hR2168 hA2169 H2170
                    refine sp_op [(5, .int .i64 i22), (40, .bool (!((y27.Entity).toList == ((rd b_ i22).Entity).toList)))] (ac rfl (ac (hE2167 24 (by decide)) an)) ?_
                    refine r_pure (.int .i64 i22) rfl ?_ (wn_t rfl rfl (by decide) rfl hb521)
                    exact r_nil (n_lp ⟨_, rfl, undef, rfl, H2170⟩)
                  · intro η41 wd2177 Δ2178 hE2173 hR2174 hA2175 H2176
                    have H2176 : Hp w0 ((Δ2178 ++ Γ)) wd2177 := H2176
                    refine sp_op [(40, .bool (!((y27.Entity).toList == ((rd b_ i22).Entity).toList))), (46, .slice A9 b_.length c10), (47, .int .i64 i22)] (ac (hE2173 24 (by decide)) (ac (hE2173 30 (by decide)) (ac (hE2173 31 (by decide)) an))) ?_
                    have hA2179 := (hv12 _ (H2176).tl).adO hj45
                    refine r_ix IX26 rfl rfl hA2179 h043 h144 ?_ (wn_t rfl rfl (by decide) rfl hb521)
                    exact r_nil (n_lp ⟨_, rfl, undef, rfl, H2176⟩)
                  · intro η41 wd2184 Δ2185 hE2180 hR2181 hA2182 H2183
                    refine sp_op [(40, .bool (!((y27.Entity).toList == ((rd b_ i22).Entity).toList))), (48, .pointer (some ((oA A9).add (Int.toNat i22 * 6))))] (ac (hE2180 24 (by decide)) (ac (hE2180 32 (by decide)) an)) ?_
                    refine r_fa FA37_2 (((oA A9).add (Int.toNat i22 * 6)).add 2) rfl rfl ?_ (wn_t rfl rfl (by decide) rfl hb521)
                    exact r_nil (n_lp ⟨_, rfl, undef, rfl, H2183⟩)
                  · intro η41 wd2190 Δ2191 hE2186 hR2187 hA2188 H2189
                    have H2189 : Hp w0 ((Δ2191 ++ Γ)) wd2190 := H2189
                    refine sp_op [(40, .bool (!((y27.Entity).toList == ((rd b_ i22).Entity).toList))), (49, .pointer (some (((oA A9).add (Int.toNat i22 * 6)).add 2)))] (ac (hE2186 24 (by decide)) (ac (hE2186 33 (by decide)) an)) ?_
                    have hA2192 := (hv12 _ (H2189).tl).adO hj45
                    refine r_ld1 (.int .i64 ((rd b_ i22).Period)) LD3 rfl ((hv12 _ (H2189).tl).cA hA2192 hj45 2 _ rfl) ?_ (wn_t rfl rfl (by decide) rfl hb521)
                    exact r_nil (n_lp ⟨_, rfl, undef, rfl, H2189⟩)
                  · intro η41 wd2197 Δ2198 hE2193 hR2194 hA2195 H2196
                    refine sp_op [(40, .bool (!((y27.Entity).toList == ((rd b_ i22).Entity).toList))), (45, .int .i64 y27.Period), (50, .int .i64 ((rd b_ i22).Period))] (ac (hE2193 24 (by decide)) (ac (hE2193 29 (by decide)) (ac (hE2193 34 (by decide)) an))) ?_
                    refine r_pure (.bool (y27.Period != (rd b_ i22).Period)) rfl ?_ (wn_t rfl rfl (by decide) rfl hb521)
                    exact r_nil (n_lp ⟨_, rfl, undef, rfl, H2196⟩)
                  · intro η41 wd2203 Δ2204 hE2199 hR2200 hA2201 H2202
                    refine sp_op [(40, .bool (!((y27.Entity).toList == ((rd b_ i22).Entity).toList))), (51, .bool (y27.Period != (rd b_ i22).Period))] (ac (hE2199 24 (by decide)) (ac (hE2199 35 (by decide)) an)) ?_
                    refine r_pick_f (.bool (y27.Period != (rd b_ i22).Period)) hb521 rfl rfl ?_
                    exact r_nil (n_lp ⟨_, rfl, undef, rfl, H2202⟩)
                  · intro η41 wd2209 Δ2210 hE2205 hR2206 hA2207 H2208
                    refine sp_op [(52, .bool (y27.Period != (rd b_ i22).Period))] (ac (hE2205 36 (by decide)) an) ?_
                    refine r_pure (.bool (y27.Period != (rd b_ i22).Period)) rfl ?_
                    exact r_nil (n_lp ⟨_, rfl, undef, rfl, H2208⟩)
                  · intro η41 wd2215 Δ2216 hE2211 hR2212 hA2213 H2214
                    refine sp_op [(0, .slice A1 a_.length c2), (53, .bool (y27.Period != (rd b_ i22).Period))] (ac rfl (ac (hE2211 37 (by decide)) an)) ?_
                    refine r_pure (.slice A1 a_.length c2) rfl ?_ (wn_t rfl rfl (by decide) rfl hb999)
                    exact r_nil (n_lp ⟨_, rfl, undef, rfl, H2214⟩)
                  · intro η41 wd2221 Δ2222 hE2217 hR2218 hA2219 H2220
                    refine sp_op [(5, .int .i64 i22), (53, .bool (y27.Period != (rd b_ i22).Period))] (ac rfl (ac (hE2217 37 (by decide)) an)) ?_
                    refine r_pure (.int .i64 i22) rfl ?_ (wn_t rfl rfl (by decide) rfl hb999)
                    exact r_nil (n_lp ⟨_, rfl, undef, rfl, H2220⟩)
                  · intro η41 wd2227 Δ2228 hE2223 hR2224 hA2225 H2226
                    have H2226 : Hp w0 ((Δ2228 ++ Γ)) wd2227 := H2226
                    refine sp_op [(53, .bool (y27.Period != (rd b_ i22).Period)), (54, .slice A1 a_.length c2), (55, .int .i64 i22)] (ac (hE2223 37 (by decide)) (ac (hE2223 38 (by decide)) (ac (hE2223 39 (by decide)) an))) ?_
                    have hA2229 := (hv4 _ (H2226).tl).adO hj35
                    refine r_ix IX26 rfl rfl hA2229 h033 h134 ?_ (wn_t rfl rfl (by decide) rfl hb999)
                    exact r_nil (n_lp ⟨_, rfl, undef, rfl, H2226⟩)
                  · intro η41 wd2234 Δ2235 hE2230 hR2231 hA2232 H2233
                    refine sp_op [(53, .bool (y27.Period != (rd b_ i22).Period)), (56, .pointer (some ((oA A1).add (Int.toNat i22 * 6))))] (ac (hE2230 37 (by decide)) (ac (hE2230 40 (by decide)) an)) ?_
                    refine r_fa FA37_3 (((oA A1).add (Int.toNat i22 * 6)).add 3) rfl rfl ?_ (wn_t rfl rfl (by decide) rfl hb999)
                    exact r_nil (n_lp ⟨_, rfl, undef, rfl, H2233⟩)
                  · intro η41 wd2240 Δ2241 hE2236 hR2237 hA2238 H2239
                    have H2239 : Hp w0 ((Δ2241 ++ Γ)) wd2240 := H2239
                    refine sp_op [(53, .bool (y27.Period != (rd b_ i22).Period)), (57, .pointer (some (((oA A1).add (Int.toNat i22 * 6)).add 3)))] (ac (hE2236 37 (by decide)) (ac (hE2236 41 (by decide)) an)) ?_
                    have hA2242 := (hv4 _ (H2239).tl).adO hj35
                    refine r_ld1 (.int .i64 y27.Kind) LD3 rfl ((hv4 _ (H2239).tl).cA hA2242 hj35 3 _ rfl) ?_ (wn_t rfl rfl (by decide) rfl hb999)
                    exact r_nil (n_lp ⟨_, rfl, undef, rfl, H2239⟩)
                  · intro η41 wd2247 Δ2248 hE2243 hR2244 hA2245 H2246
                    refine sp_op [(1, .slice A9 b_.length c10), (53, .bool (y27.Period != (rd b_ i22).Period))] (ac rfl (ac (hE2243 37 (by decide)) an)) ?_
                    refine r_pure (.slice A9 b_.length c10) rfl ?_ (wn_t rfl rfl (by decide) rfl hb999)
                    exact r_nil (n_lp ⟨_, rfl, undef, rfl, H2246⟩)
                  · intro η41 wd2253 Δ2254 hE2249 hR2250 hA2251 H2252
                    refine sp_op [(5, .int .i64 i22), (53, .bool (y27.Period != (rd b_ i22).Period))] (ac rfl (ac (hE2249 37 (by decide)) an)) ?_
                    refine r_pure (.int .i64 i22) rfl ?_ (wn_t rfl rfl (by decide) rfl hb999)
                    exact r_nil (n_lp ⟨_, rfl, undef, rfl, H2252⟩)
                  · intro η41 wd2259 Δ2260 hE2255 hR2256 hA2257 H2258
                    have H2258 : Hp w0 ((Δ2260 ++ Γ)) wd2259 := H2258
                    refine sp_op [(53, .bool (y27.Period != (rd b_ i22).Period)), (59, .slice A9 b_.length c10), (60, .int .i64 i22)] (ac (hE2255 37 (by decide)) (ac (hE2255 43 (by decide)) (ac (hE2255 44 (by decide)) an))) ?_
                    have hA2261 := (hv12 _ (H2258).tl).adO hj45
                    refine r_ix IX26 rfl rfl hA2261 h043 h144 ?_ (wn_t rfl rfl (by decide) rfl hb999)
                    exact r_nil (n_lp ⟨_, rfl, undef, rfl, H2258⟩)
                  · intro η41 wd2266 Δ2267 hE2262 hR2263 hA2264 H2265
                    refine sp_op [(53, .bool (y27.Period != (rd b_ i22).Period)), (61, .pointer (some ((oA A9).add (Int.toNat i22 * 6))))] (ac (hE2262 37 (by decide)) (ac (hE2262 45 (by decide)) an)) ?_
                    refine r_fa FA37_3 (((oA A9).add (Int.toNat i22 * 6)).add 3) rfl rfl ?_ (wn_t rfl rfl (by decide) rfl hb999)
                    exact r_nil (n_lp ⟨_, rfl, undef, rfl, H2265⟩)
                  · intro η41 wd2272 Δ2273 hE2268 hR2269 hA2270 H2271
                    have H2271 : Hp w0 ((Δ2273 ++ Γ)) wd2272 := H2271
                    refine sp_op [(53, .bool (y27.Period != (rd b_ i22).Period)), (62, .pointer (some (((oA A9).add (Int.toNat i22 * 6)).add 3)))] (ac (hE2268 37 (by decide)) (ac (hE2268 46 (by decide)) an)) ?_
                    have hA2274 := (hv12 _ (H2271).tl).adO hj45
                    refine r_ld1 (.int .i64 ((rd b_ i22).Kind)) LD3 rfl ((hv12 _ (H2271).tl).cA hA2274 hj45 3 _ rfl) ?_ (wn_t rfl rfl (by decide) rfl hb999)
                    exact r_nil (n_lp ⟨_, rfl, undef, rfl, H2271⟩)
                  · intro η41 wd2279 Δ2280 hE2275 hR2276 hA2277 H2278
                    refine sp_op [(53, .bool (y27.Period != (rd b_ i22).Period)), (58, .int .i64 y27.Kind), (63, .int .i64 ((rd b_ i22).Kind))] (ac (hE2275 37 (by decide)) (ac (hE2275 42 (by decide)) (ac (hE2275 47 (by decide)) an))) ?_
                    refine r_pure (.bool (y27.Kind != (rd b_ i22).Kind)) rfl ?_ (wn_t rfl rfl (by decide) rfl hb999)
                    exact r_nil (n_lp ⟨_, rfl, undef, rfl, H2278⟩)
                  · intro η41 wd2285 Δ2286 hE2281 hR2282 hA2283 H2284
                    refine sp_op [(53, .bool (y27.Period != (rd b_ i22).Period)), (64, .bool (y27.Kind != (rd b_ i22).Kind))] (ac (hE2281 37 (by decide)) (ac (hE2281 48 (by decide)) an)) ?_
                    refine r_pick_f (.bool (y27.Kind != (rd b_ i22).Kind)) hb999 rfl rfl ?_
                    exact r_nil (n_lp ⟨_, rfl, undef, rfl, H2284⟩)
                  · intro η41 wd2291 Δ2292 hE2287 hR2288 hA2289 H2290
                    refine sp_op [(65, .bool (y27.Kind != (rd b_ i22).Kind))] (ac (hE2287 49 (by decide)) an) ?_
                    refine r_pure (.bool (y27.Kind != (rd b_ i22).Kind)) rfl ?_
                    exact r_nil (n_lp ⟨_, rfl, undef, rfl, H2290⟩)
                  · intro η41 wd2297 Δ2298 hE2293 hR2294 hA2295 H2296
                    refine sp_op [(0, .slice A1 a_.length c2), (66, .bool (y27.Kind != (rd b_ i22).Kind))] (ac rfl (ac (hE2293 50 (by decide)) an)) ?_
                    refine r_pure (.slice A1 a_.length c2) rfl ?_ (wn_t rfl rfl (by decide) rfl hb1481)
                    exact r_nil (n_lp ⟨_, rfl, undef, rfl, H2296⟩)
                  · intro η41 wd2303 Δ2304 hE2299 hR2300 hA2301 H2302
                    refine sp_op [(5, .int .i64 i22), (66, .bool (y27.Kind != (rd b_ i22).Kind))] (ac rfl (ac (hE2299 50 (by decide)) an)) ?_
                    refine r_pure (.int .i64 i22) rfl ?_ (wn_t rfl rfl (by decide) rfl hb1481)
                    exact r_nil (n_lp ⟨_, rfl, undef, rfl, H2302⟩)
                  · intro η41 wd2309 Δ2310 hE2305 hR2306 hA2307 H2308
                    have H2308 : Hp w0 ((Δ2310 ++ Γ)) wd2309 := H2308
                    refine sp_op [(66, .bool (y27.Kind != (rd b_ i22).Kind)), (67, .slice A1 a_.length c2), (68, .int .i64 i22)] (ac (hE2305 50 (by decide)) (ac (hE2305 51 (by decide)) (ac (hE2305 52 (by decide)) an))) ?_
                    have hA2311 := (hv4 _ (H2308).tl).adO hj35
                    refine r_ix IX26 rfl rfl hA2311 h033 h134 ?_ (wn_t rfl rfl (by decide) rfl hb1481)
                    exact r_nil (n_lp ⟨_, rfl, undef, rfl, H2308⟩)
                  · intro η41 wd2316 Δ2317 hE2312 hR2313 hA2314 H2315
                    refine sp_op [(66, .bool (y27.Kind != (rd b_ i22).Kind)), (69, .pointer (some ((oA A1).add (Int.toNat i22 * 6))))] (ac (hE2312 50 (by decide)) (ac (hE2312 53 (by decide)) an)) ?_
                    refine r_fa FA37_4 (((oA A1).add (Int.toNat i22 * 6)).add 4) rfl rfl ?_ (wn_t rfl rfl (by decide) rfl hb1481)
                    exact r_nil (n_lp ⟨_, rfl, undef, rfl, H2315⟩)
                  · intro η41 wd2322 Δ2323 hE2318 hR2319 hA2320 H2321
                    have H2321 : Hp w0 ((Δ2323 ++ Γ)) wd2322 := H2321
                    refine sp_op [(66, .bool (y27.Kind != (rd b_ i22).Kind)), (70, .pointer (some (((oA A1).add (Int.toNat i22 * 6)).add 4)))] (ac (hE2318 50 (by decide)) (ac (hE2318 54 (by decide)) an)) ?_
                    have hA2324 := (hv4 _ (H2321).tl).adO hj35
                    refine r_ld1 (.int .i64 y27.Of) LD3 rfl ((hv4 _ (H2321).tl).cA hA2324 hj35 4 _ rfl) ?_ (wn_t rfl rfl (by decide) rfl hb1481)
                    exact r_nil (n_lp ⟨_, rfl, undef, rfl, H2321⟩)
                  · intro η41 wd2329 Δ2330 hE2325 hR2326 hA2327 H2328
                    refine sp_op [(1, .slice A9 b_.length c10), (66, .bool (y27.Kind != (rd b_ i22).Kind))] (ac rfl (ac (hE2325 50 (by decide)) an)) ?_
                    refine r_pure (.slice A9 b_.length c10) rfl ?_ (wn_t rfl rfl (by decide) rfl hb1481)
                    exact r_nil (n_lp ⟨_, rfl, undef, rfl, H2328⟩)
                  · intro η41 wd2335 Δ2336 hE2331 hR2332 hA2333 H2334
                    refine sp_op [(5, .int .i64 i22), (66, .bool (y27.Kind != (rd b_ i22).Kind))] (ac rfl (ac (hE2331 50 (by decide)) an)) ?_
                    refine r_pure (.int .i64 i22) rfl ?_ (wn_t rfl rfl (by decide) rfl hb1481)
                    exact r_nil (n_lp ⟨_, rfl, undef, rfl, H2334⟩)
                  · intro η41 wd2341 Δ2342 hE2337 hR2338 hA2339 H2340
                    have H2340 : Hp w0 ((Δ2342 ++ Γ)) wd2341 := H2340
                    refine sp_op [(66, .bool (y27.Kind != (rd b_ i22).Kind)), (72, .slice A9 b_.length c10), (73, .int .i64 i22)] (ac (hE2337 50 (by decide)) (ac (hE2337 56 (by decide)) (ac (hE2337 57 (by decide)) an))) ?_
                    have hA2343 := (hv12 _ (H2340).tl).adO hj45
                    refine r_ix IX26 rfl rfl hA2343 h043 h144 ?_ (wn_t rfl rfl (by decide) rfl hb1481)
                    exact r_nil (n_lp ⟨_, rfl, undef, rfl, H2340⟩)
                  · intro η41 wd2348 Δ2349 hE2344 hR2345 hA2346 H2347
                    refine sp_op [(66, .bool (y27.Kind != (rd b_ i22).Kind)), (74, .pointer (some ((oA A9).add (Int.toNat i22 * 6))))] (ac (hE2344 50 (by decide)) (ac (hE2344 58 (by decide)) an)) ?_
                    refine r_fa FA37_4 (((oA A9).add (Int.toNat i22 * 6)).add 4) rfl rfl ?_ (wn_t rfl rfl (by decide) rfl hb1481)
                    exact r_nil (n_lp ⟨_, rfl, undef, rfl, H2347⟩)
                  · intro η41 wd2354 Δ2355 hE2350 hR2351 hA2352 H2353
                    have H2353 : Hp w0 ((Δ2355 ++ Γ)) wd2354 := H2353
                    refine sp_op [(66, .bool (y27.Kind != (rd b_ i22).Kind)), (75, .pointer (some (((oA A9).add (Int.toNat i22 * 6)).add 4)))] (ac (hE2350 50 (by decide)) (ac (hE2350 59 (by decide)) an)) ?_
                    have hA2356 := (hv12 _ (H2353).tl).adO hj45
                    refine r_ld1 (.int .i64 ((rd b_ i22).Of)) LD3 rfl ((hv12 _ (H2353).tl).cA hA2356 hj45 4 _ rfl) ?_ (wn_t rfl rfl (by decide) rfl hb1481)
                    exact r_nil (n_lp ⟨_, rfl, undef, rfl, H2353⟩)
                  · intro η41 wd2361 Δ2362 hE2357 hR2358 hA2359 H2360
                    refine sp_op [(66, .bool (y27.Kind != (rd b_ i22).Kind)), (71, .int .i64 y27.Of), (76, .int .i64 ((rd b_ i22).Of))] (ac (hE2357 50 (by decide)) (ac (hE2357 55 (by decide)) (ac (hE2357 60 (by decide)) an))) ?_
                    refine r_pure (.bool (y27.Of != (rd b_ i22).Of)) rfl ?_ (wn_t rfl rfl (by decide) rfl hb1481)
                    exact r_nil (n_lp ⟨_, rfl, undef, rfl, H2360⟩)
                  · intro η41 wd2367 Δ2368 hE2363 hR2364 hA2365 H2366
                    refine sp_op [(66, .bool (y27.Kind != (rd b_ i22).Kind)), (77, .bool (y27.Of != (rd b_ i22).Of))] (ac (hE2363 50 (by decide)) (ac (hE2363 61 (by decide)) an)) ?_
                    refine r_pick_f (.bool (y27.Of != (rd b_ i22).Of)) hb1481 rfl rfl ?_
                    exact r_nil (n_lp ⟨_, rfl, undef, rfl, H2366⟩)
                  · intro η41 wd2373 Δ2374 hE2369 hR2370 hA2371 H2372
                    refine sp_op [(78, .bool (y27.Of != (rd b_ i22).Of))] (ac (hE2369 62 (by decide)) an) ?_
                    refine r_pure (.bool (y27.Of != (rd b_ i22).Of)) rfl ?_
                    exact r_nil (n_lp ⟨_, rfl, undef, rfl, H2372⟩)
                  · intro η41 wd2379 Δ2380 hE2375 hR2376 hA2377 H2378
                    refine sp_op [(79, .bool (y27.Of != (rd b_ i22).Of))] (ac (hE2375 63 (by decide)) an) ?_
                    refine r_not (wn_f rfl rfl (by decide) rfl hb1967) ?_
                    exact r_nil (n_lp ⟨_, rfl, undef, rfl, H2378⟩)
                  · intro η41 wd2385 Δ2386 hE2381 hR2382 hA2383 H2384
                    refine sp_op [(79, .bool (y27.Of != (rd b_ i22).Of))] (ac (hE2381 63 (by decide)) an) ?_
                    refine r_not (wn_f rfl rfl (by decide) rfl hb1967) ?_
                    exact r_nil (n_lp ⟨_, rfl, undef, rfl, H2384⟩)
                  · intro η41 wd2391 Δ2392 hE2387 hR2388 hA2389 H2390
                    refine sp_op [(79, .bool (y27.Of != (rd b_ i22).Of))] (ac (hE2387 63 (by decide)) an) ?_
                    refine r_not (wn_f rfl rfl (by decide) rfl hb1967) ?_
                    exact r_nil (n_lp ⟨_, rfl, undef, rfl, H2390⟩)
                  · intro η41 wd2397 Δ2398 hE2393 hR2394 hA2395 H2396
                    refine sp_op [(79, .bool (y27.Of != (rd b_ i22).Of))] (ac (hE2393 63 (by decide)) an) ?_
                    refine r_not (wn_f rfl rfl (by decide) rfl hb1967) ?_
                    exact r_nil (n_lp ⟨_, rfl, undef, rfl, H2396⟩)
                  · intro η41 wd2403 Δ2404 hE2399 hR2400 hA2401 H2402
                    refine sp_op [(79, .bool (y27.Of != (rd b_ i22).Of))] (ac (hE2399 63 (by decide)) an) ?_
                    refine r_not (wn_f rfl rfl (by decide) rfl hb1967) ?_
                    exact r_nil (n_lp ⟨_, rfl, undef, rfl, H2402⟩)
                  · intro η41 wd2409 Δ2410 hE2405 hR2406 hA2407 H2408
                    refine sp_op [(79, .bool (y27.Of != (rd b_ i22).Of))] (ac (hE2405 63 (by decide)) an) ?_
                    refine r_not (wn_f rfl rfl (by decide) rfl hb1967) ?_
                    exact r_nil (n_lp ⟨_, rfl, undef, rfl, H2408⟩)
                  · intro η41 wd2415 Δ2416 hE2411 hR2412 hA2413 H2414
                    refine sp_op [(79, .bool (y27.Of != (rd b_ i22).Of))] (ac (hE2411 63 (by decide)) an) ?_
                    refine r_not (wn_f rfl rfl (by decide) rfl hb1967) ?_
                    exact r_nil (n_lp ⟨_, rfl, undef, rfl, H2414⟩)
                  · intro η41 wd2421 Δ2422 hE2417 hR2418 hA2419 H2420
                    refine sp_op [(79, .bool (y27.Of != (rd b_ i22).Of))] (ac (hE2417 63 (by decide)) an) ?_
                    refine r_not (wn_f rfl rfl (by decide) rfl hb1967) ?_
                    exact r_nil (n_lp ⟨_, rfl, undef, rfl, H2420⟩)
                  · intro η41 wd2427 Δ2428 hE2423 hR2424 hA2425 H2426
                    refine sp_op [(79, .bool (y27.Of != (rd b_ i22).Of))] (ac (hE2423 63 (by decide)) an) ?_
                    refine r_not (wn_f rfl rfl (by decide) rfl hb1967) ?_
                    exact r_nil (n_lp ⟨_, rfl, undef, rfl, H2426⟩)
                  · intro η41 wd2433 Δ2434 hE2429 hR2430 hA2431 H2432
                    refine sp_op [(79, .bool (y27.Of != (rd b_ i22).Of))] (ac (hE2429 63 (by decide)) an) ?_
                    refine r_not (wn_f rfl rfl (by decide) rfl hb1967) ?_
                    exact r_nil (n_lp ⟨_, rfl, undef, rfl, H2432⟩)
                  · intro η41 wd2439 Δ2440 hE2435 hR2436 hA2437 H2438
                    refine sp_op [(79, .bool (y27.Of != (rd b_ i22).Of))] (ac (hE2435 63 (by decide)) an) ?_
                    refine r_not (wn_f rfl rfl (by decide) rfl hb1967) ?_
                    exact r_nil (n_lp ⟨_, rfl, undef, rfl, H2438⟩)
                  · intro η41 wd2445 Δ2446 hE2441 hR2442 hA2443 H2444
                    refine sp_op [(79, .bool (y27.Of != (rd b_ i22).Of))] (ac (hE2441 63 (by decide)) an) ?_
                    refine r_not (wn_f rfl rfl (by decide) rfl hb1967) ?_
                    exact r_nil (n_lp ⟨_, rfl, undef, rfl, H2444⟩)
                  · intro η41 wd2451 Δ2452 hE2447 hR2448 hA2449 H2450
                    refine sp_op [(79, .bool (y27.Of != (rd b_ i22).Of)), (91, undef)] (ac (hE2447 63 (by decide)) (ac (hE2447 75 (by decide)) an)) ?_
                    refine r_pick_t (.bool true) hb1967 rfl rfl ?_
                    exact r_nil (n_lp ⟨_, rfl, undef, rfl, H2450⟩)
                  · intro η41 wd2454 hV2455 H2453
                    have H2456 : Hp w0 (Γ) wd2454 := H2453
                    refine n_frame ((0, .slice A1 a_.length c2) :: (1, .slice A9 b_.length c10) :: (12, .int .i64 (a_.length : Int)) :: (13, .int .i64 i22) :: (28, .slice A1 a_.length c2) :: (29, .int .i64 i22) :: (30, .pointer (some ((oA A1).add (Int.toNat i22 * 6)))) :: (31, .pointer (some (((oA A1).add (Int.toNat i22 * 6)).add 1))) :: (32, .string y27.Entity) :: (33, .slice A9 b_.length c10) :: (34, .int .i64 i22) :: (35, .pointer (some ((oA A9).add (Int.toNat i22 * 6)))) :: (36, .pointer (some (((oA A9).add (Int.toNat i22 * 6)).add 1))) :: (37, .string ((rd b_ i22).Entity)) :: (38, .bool (!((y27.Entity).toList == ((rd b_ i22).Entity).toList))) :: (41, .slice A1 a_.length c2) :: (42, .int .i64 i22) :: (43, .pointer (some ((oA A1).add (Int.toNat i22 * 6)))) :: (44, .pointer (some (((oA A1).add (Int.toNat i22 * 6)).add 2))) :: (45, .int .i64 y27.Period) :: (46, .slice A9 b_.length c10) :: (47, .int .i64 i22) :: (48, .pointer (some ((oA A9).add (Int.toNat i22 * 6)))) :: (49, .pointer (some (((oA A9).add (Int.toNat i22 * 6)).add 2))) :: (50, .int .i64 ((rd b_ i22).Period)) :: (51, .bool (y27.Period != (rd b_ i22).Period)) :: (54, .slice A1 a_.length c2) :: (55, .int .i64 i22) :: (56, .pointer (some ((oA A1).add (Int.toNat i22 * 6)))) :: (57, .pointer (some (((oA A1).add (Int.toNat i22 * 6)).add 3))) :: (58, .int .i64 y27.Kind) :: (59, .slice A9 b_.length c10) :: (60, .int .i64 i22) :: (61, .pointer (some ((oA A9).add (Int.toNat i22 * 6)))) :: (62, .pointer (some (((oA A9).add (Int.toNat i22 * 6)).add 3))) :: (63, .int .i64 ((rd b_ i22).Kind)) :: (64, .bool (y27.Kind != (rd b_ i22).Kind)) :: (67, .slice A1 a_.length c2) :: (68, .int .i64 i22) :: (69, .pointer (some ((oA A1).add (Int.toNat i22 * 6)))) :: (70, .pointer (some (((oA A1).add (Int.toNat i22 * 6)).add 4))) :: (71, .int .i64 y27.Of) :: (72, .slice A9 b_.length c10) :: (73, .int .i64 i22) :: (74, .pointer (some ((oA A9).add (Int.toNat i22 * 6)))) :: (75, .pointer (some (((oA A9).add (Int.toNat i22 * 6)).add 4))) :: (76, .int .i64 ((rd b_ i22).Of)) :: (77, .bool (y27.Of != (rd b_ i22).Of)) :: (92, .bool true) :: []) (ac rfl (ac rfl (ac rfl (ac rfl (ac (hV2455 12 rfl) (ac (hV2455 13 rfl) (ac (hV2455 14 rfl) (ac (hV2455 15 rfl) (ac (hV2455 16 rfl) (ac (hV2455 17 rfl) (ac (hV2455 18 rfl) (ac (hV2455 19 rfl) (ac (hV2455 20 rfl) (ac (hV2455 21 rfl) (ac (hV2455 22 rfl) (ac (hV2455 25 rfl) (ac (hV2455 26 rfl) (ac (hV2455 27 rfl) (ac (hV2455 28 rfl) (ac (hV2455 29 rfl) (ac (hV2455 30 rfl) (ac (hV2455 31 rfl) (ac (hV2455 32 rfl) (ac (hV2455 33 rfl) (ac (hV2455 34 rfl) (ac (hV2455 35 rfl) (ac (hV2455 38 rfl) (ac (hV2455 39 rfl) (ac (hV2455 40 rfl) (ac (hV2455 41 rfl) (ac (hV2455 42 rfl) (ac (hV2455 43 rfl) (ac (hV2455 44 rfl) (ac (hV2455 45 rfl) (ac (hV2455 46 rfl) (ac (hV2455 47 rfl) (ac (hV2455 48 rfl) (ac (hV2455 51 rfl) (ac (hV2455 52 rfl) (ac (hV2455 53 rfl) (ac (hV2455 54 rfl) (ac (hV2455 55 rfl) (ac (hV2455 56 rfl) (ac (hV2455 57 rfl) (ac (hV2455 58 rfl) (ac (hV2455 59 rfl) (ac (hV2455 60 rfl) (ac (hV2455 61 rfl) (ac (hV2455 76 rfl) an))))))))))))))))))))))))))))))))))))))))))))))))) ?_
                    refine n_cut ⟨true, upk (ac rfl (ac rfl (ac rfl (ac rfl (ac rfl an))))), H2456, hm⟩
                · obtain ⟨y2457, hy2458, hm⟩ := bind_some hm
                  refine Flow.run' RA11_6 RW11_6 ((fun η41 v => v.1 = .slice A1 a_.length c2) :: (fun η41 v => v.1 = .int .i64 i22) :: (fun η41 v => v.1 = .pointer (some ((oA A1).add (Int.toNat i22 * 6)))) :: (fun η41 v => v.1 = .pointer (some (((oA A1).add (Int.toNat i22 * 6)).add 0))) :: (fun η41 v => v.1 = .int .i64 y27.Seq) :: (fun η41 v => v.1 = .slice A9 b_.length c10) :: (fun η41 v => v.1 = .int .i64 i22) :: (fun η41 v => v.1 = .pointer (some ((oA A9).add (Int.toNat i22 * 6)))) :: (fun η41 v => v.1 = .pointer (some (((oA A9).add (Int.toNat i22 * 6)).add 0))) :: (fun η41 v => v.1 = .int .i64 ((rd b_ i22).Seq)) :: (fun η41 v => v.1 = .bool (y27.Seq != (rd b_ i22).Seq)) :: (fun η41 v => v.1 = .bool (y27.Seq != (rd b_ i22).Seq)) :: (fun η41 v => v.1 = .slice A1 a_.length c2) :: (fun η41 v => v.1 = .int .i64 i22) :: (fun η41 v => v.1 = .pointer (some ((oA A1).add (Int.toNat i22 * 6)))) :: (fun η41 v => v.1 = .pointer (some (((oA A1).add (Int.toNat i22 * 6)).add 1))) :: (fun η41 v => v.1 = .string y27.Entity) :: (fun η41 v => v.1 = .slice A9 b_.length c10) :: (fun η41 v => v.1 = .int .i64 i22) :: (fun η41 v => v.1 = .pointer (some ((oA A9).add (Int.toNat i22 * 6)))) :: (fun η41 v => v.1 = .pointer (some (((oA A9).add (Int.toNat i22 * 6)).add 1))) :: (fun η41 v => v.1 = .string ((rd b_ i22).Entity)) :: (fun η41 v => v.1 = .bool (!((y27.Entity).toList == ((rd b_ i22).Entity).toList))) :: (fun η41 v => v.1 = .bool (!((y27.Entity).toList == ((rd b_ i22).Entity).toList))) :: (fun η41 v => v.1 = .bool (!((y27.Entity).toList == ((rd b_ i22).Entity).toList))) :: (fun η41 v => v.1 = .slice A1 a_.length c2) :: (fun η41 v => v.1 = .int .i64 i22) :: (fun η41 v => v.1 = .pointer (some ((oA A1).add (Int.toNat i22 * 6)))) :: (fun η41 v => v.1 = .pointer (some (((oA A1).add (Int.toNat i22 * 6)).add 2))) :: (fun η41 v => v.1 = .int .i64 y27.Period) :: (fun η41 v => v.1 = .slice A9 b_.length c10) :: (fun η41 v => v.1 = .int .i64 i22) :: (fun η41 v => v.1 = .pointer (some ((oA A9).add (Int.toNat i22 * 6)))) :: (fun η41 v => v.1 = .pointer (some (((oA A9).add (Int.toNat i22 * 6)).add 2))) :: (fun η41 v => v.1 = .int .i64 ((rd b_ i22).Period)) :: (fun η41 v => v.1 = .bool (y27.Period != (rd b_ i22).Period)) :: (fun η41 v => v.1 = .bool (y27.Period != (rd b_ i22).Period)) :: (fun η41 v => v.1 = .bool (y27.Period != (rd b_ i22).Period)) :: (fun η41 v => v.1 = .slice A1 a_.length c2) :: (fun η41 v => v.1 = .int .i64 i22) :: (fun η41 v => v.1 = .pointer (some ((oA A1).add (Int.toNat i22 * 6)))) :: (fun η41 v => v.1 = .pointer (some (((oA A1).add (Int.toNat i22 * 6)).add 3))) :: (fun η41 v => v.1 = .int .i64 y27.Kind) :: (fun η41 v => v.1 = .slice A9 b_.length c10) :: (fun η41 v => v.1 = .int .i64 i22) :: (fun η41 v => v.1 = .pointer (some ((oA A9).add (Int.toNat i22 * 6)))) :: (fun η41 v => v.1 = .pointer (some (((oA A9).add (Int.toNat i22 * 6)).add 3))) :: (fun η41 v => v.1 = .int .i64 ((rd b_ i22).Kind)) :: (fun η41 v => v.1 = .bool (y27.Kind != (rd b_ i22).Kind)) :: (fun η41 v => v.1 = .bool (y27.Kind != (rd b_ i22).Kind)) :: (fun η41 v => v.1 = .bool (y27.Kind != (rd b_ i22).Kind)) :: (fun η41 v => v.1 = .slice A1 a_.length c2) :: (fun η41 v => v.1 = .int .i64 i22) :: (fun η41 v => v.1 = .pointer (some ((oA A1).add (Int.toNat i22 * 6)))) :: (fun η41 v => v.1 = .pointer (some (((oA A1).add (Int.toNat i22 * 6)).add 4))) :: (fun η41 v => v.1 = .int .i64 y27.Of) :: (fun η41 v => v.1 = .slice A9 b_.length c10) :: (fun η41 v => v.1 = .int .i64 i22) :: (fun η41 v => v.1 = .pointer (some ((oA A9).add (Int.toNat i22 * 6)))) :: (fun η41 v => v.1 = .pointer (some (((oA A9).add (Int.toNat i22 * 6)).add 4))) :: (fun η41 v => v.1 = .int .i64 ((rd b_ i22).Of)) :: (fun η41 v => v.1 = .bool (y27.Of != (rd b_ i22).Of)) :: (fun η41 v => v.1 = .bool (y27.Of != (rd b_ i22).Of)) :: (fun η41 v => v.1 = .bool (y27.Of != (rd b_ i22).Of)) :: (fun η41 v => v.1 = .slice A1 a_.length c2) :: (fun η41 v => v.1 = .int .i64 i22) :: (fun η41 v => v.1 = .pointer (some ((oA A1).add (Int.toNat i22 * 6)))) :: (fun η41 v => v.1 = .pointer (some (((oA A1).add (Int.toNat i22 * 6)).add 5))) :: (fun η41 v => v.1 = .slice ((ads7 (Int.toNat i22)).1) y27.Lines.length ((ads7 (Int.toNat i22)).2)) :: (fun η41 v => v.1 = .slice A9 b_.length c10) :: (fun η41 v => v.1 = .int .i64 i22) :: (fun η41 v => v.1 = .pointer (some ((oA A9).add (Int.toNat i22 * 6)))) :: (fun η41 v => v.1 = .pointer (some (((oA A9).add (Int.toNat i22 * 6)).add 5))) :: (fun η41 v => v.1 = .slice ((ads15 (Int.toNat i22)).1) (((rd b_ i22).Lines).length) ((ads15 (Int.toNat i22)).2)) :: (fun η41 v => v.1 = .bool y2457) :: (fun η41 v => v.1 = .bool (!y2457)) :: (fun η41 v => v.1 = .bool (!y2457)) :: []) [] rfl (by kernel_rfl) (by kernel_rfl) H18 ⟨?_, ?_, ?_, ?_, ?_, ?_, ?_, ?_, ?_, ?_, ?_, ?_, ?_, ?_, ?_, ?_, ?_, ?_, ?_, ?_, ?_, ?_, ?_, ?_, ?_, ?_, ?_, ?_, ?_, ?_, ?_, ?_, ?_, ?_, ?_, ?_, ?_, ?_, ?_, ?_, ?_, ?_, ?_, ?_, ?_, ?_, ?_, ?_, ?_, ?_, ?_, ?_, ?_, ?_, ?_, ?_, ?_, ?_, ?_, ?_, ?_, ?_, ?_, ?_, ?_, ?_, ?_, ?_, ?_, ?_, ?_, ?_, ?_, ?_, ?_, ?_, ?_, trivial⟩ ?_
                  · intro η41 wd2467 Δ2468 hE2463 hR2464 hA2465 H2466
                    refine sp_op [(0, .slice A1 a_.length c2)] (ac rfl an) ?_
                    refine r_pure (.slice A1 a_.length c2) rfl ?_
                    exact r_nil (n_lp ⟨_, rfl, undef, rfl, H2466⟩)
                  · intro η41 wd2473 Δ2474 hE2469 hR2470 hA2471 H2472
                    refine sp_op [(5, .int .i64 i22)] (ac rfl an) ?_
                    refine r_pure (.int .i64 i22) rfl ?_
                    exact r_nil (n_lp ⟨_, rfl, undef, rfl, H2472⟩)
                  · intro η41 wd2479 Δ2480 hE2475 hR2476 hA2477 H2478
                    have H2478 : Hp w0 ((Δ2480 ++ Γ)) wd2479 := H2478
                    refine sp_op [(16, .slice A1 a_.length c2), (17, .int .i64 i22)] (ac (hE2475 0 (by decide)) (ac (hE2475 1 (by decide)) an)) ?_
                    have hA2481 := (hv4 _ (H2478).tl).adO hj35
                    refine r_ix IX26 rfl rfl hA2481 h033 h134 ?_
                    exact r_nil (n_lp ⟨_, rfl, undef, rfl, H2478⟩)
                  · intro η41 wd2486 Δ2487 hE2482 hR2483 hA2484 H2485
                    refine sp_op [(18, .pointer (some ((oA A1).add (Int.toNat i22 * 6))))] (ac (hE2482 2 (by decide)) an) ?_
                    refine r_fa FA37_0 (((oA A1).add (Int.toNat i22 * 6)).add 0) rfl rfl ?_
                    exact r_nil (n_lp ⟨_, rfl, undef, rfl, H2485⟩)
                  · intro η41 wd2492 Δ2493 hE2488 hR2489 hA2490 H2491
                    have H2491 : Hp w0 ((Δ2493 ++ Γ)) wd2492 := H2491
                    refine sp_op [(19, .pointer (some (((oA A1).add (Int.toNat i22 * 6)).add 0)))] (ac (hE2488 3 (by decide)) an) ?_
                    have hA2494 := (hv4 _ (H2491).tl).adO hj35
                    refine r_ld1 (.int .i64 y27.Seq) LD3 rfl ((hv4 _ (H2491).tl).cA hA2494 hj35 0 _ rfl) ?_
                    exact r_nil (n_lp ⟨_, rfl, undef, rfl, H2491⟩)
                  · intro η41 wd2499 Δ2500 hE2495 hR2496 hA2497 H2498
                    refine sp_op [(1, .slice A9 b_.length c10)] (ac rfl an) ?_
                    refine r_pure (.slice A9 b_.length c10) rfl ?_
                    exact r_nil (n_lp ⟨_, rfl, undef, rfl, H2498⟩)
                  · intro η41 wd2505 Δ2506 hE2501 hR2502 hA2503 H2504
                    refine sp_op [(5, .int .i64 i22)] (ac rfl an) ?_
                    refine r_pure (.int .i64 i22) rfl ?_
                    exact r_nil (n_lp ⟨_, rfl, undef, rfl, H2504⟩)
                  · intro η41 wd2511 Δ2512 hE2507 hR2508 hA2509 H2510
                    have H2510 : Hp w0 ((Δ2512 ++ Γ)) wd2511 := H2510
                    refine sp_op [(21, .slice A9 b_.length c10), (22, .int .i64 i22)] (ac (hE2507 5 (by decide)) (ac (hE2507 6 (by decide)) an)) ?_
                    have hA2516 := (hv12 _ (H2510).tl).adO hj45
                    refine r_ix IX26 rfl rfl hA2516 h043 h144 ?_
                    exact r_nil (n_lp ⟨_, rfl, undef, rfl, H2510⟩)
                  · intro η41 wd2521 Δ2522 hE2517 hR2518 hA2519 H2520
                    refine sp_op [(23, .pointer (some ((oA A9).add (Int.toNat i22 * 6))))] (ac (hE2517 7 (by decide)) an) ?_
                    refine r_fa FA37_0 (((oA A9).add (Int.toNat i22 * 6)).add 0) rfl rfl ?_
                    exact r_nil (n_lp ⟨_, rfl, undef, rfl, H2520⟩)
                  · intro η41 wd2527 Δ2528 hE2523 hR2524 hA2525 H2526
                    have H2526 : Hp w0 ((Δ2528 ++ Γ)) wd2527 := H2526
                    refine sp_op [(24, .pointer (some (((oA A9).add (Int.toNat i22 * 6)).add 0)))] (ac (hE2523 8 (by decide)) an) ?_
                    have hA2529 := (hv12 _ (H2526).tl).adO hj45
                    refine r_ld1 (.int .i64 ((rd b_ i22).Seq)) LD3 rfl ((hv12 _ (H2526).tl).cA hA2529 hj45 0 _ rfl) ?_
                    exact r_nil (n_lp ⟨_, rfl, undef, rfl, H2526⟩)
                  · intro η41 wd2534 Δ2535 hE2530 hR2531 hA2532 H2533
                    refine sp_op [(20, .int .i64 y27.Seq), (25, .int .i64 ((rd b_ i22).Seq))] (ac (hE2530 4 (by decide)) (ac (hE2530 9 (by decide)) an)) ?_
                    refine r_pure (.bool (y27.Seq != (rd b_ i22).Seq)) rfl ?_
                    exact r_nil (n_lp ⟨_, rfl, undef, rfl, H2533⟩)
                  · intro η41 wd2540 Δ2541 hE2536 hR2537 hA2538 H2539
                    refine sp_op [(26, .bool (y27.Seq != (rd b_ i22).Seq))] (ac (hE2536 10 (by decide)) an) ?_
                    refine r_pure (.bool (y27.Seq != (rd b_ i22).Seq)) rfl ?_
                    exact r_nil (n_lp ⟨_, rfl, undef, rfl, H2539⟩)
                  · intro η41 wd2546 Δ2547 hE2542 hR2543 hA2544 H2545
                    refine sp_op [(0, .slice A1 a_.length c2), (27, .bool (y27.Seq != (rd b_ i22).Seq))] (ac rfl (ac (hE2542 11 (by decide)) an)) ?_
                    refine r_pure (.slice A1 a_.length c2) rfl ?_ (wn_t rfl rfl (by decide) rfl hb47)
                    exact r_nil (n_lp ⟨_, rfl, undef, rfl, H2545⟩)
                  · intro η41 wd2552 Δ2553 hE2548 hR2549 hA2550 H2551
                    refine sp_op [(5, .int .i64 i22), (27, .bool (y27.Seq != (rd b_ i22).Seq))] (ac rfl (ac (hE2548 11 (by decide)) an)) ?_
                    refine r_pure (.int .i64 i22) rfl ?_ (wn_t rfl rfl (by decide) rfl hb47)
                    exact r_nil (n_lp ⟨_, rfl, undef, rfl, H2551⟩)
                  · intro η41 wd2558 Δ2559 hE2554 hR2555 hA2556 H2557
                    have H2557 : Hp w0 ((Δ2559 ++ Γ)) wd2558 := H2557
                    refine sp_op [(27, .bool (y27.Seq != (rd b_ i22).Seq)), (28, .slice A1 a_.length c2), (29, .int .i64 i22)] (ac (hE2554 11 (by decide)) (ac (hE2554 12 (by decide)) (ac (hE2554 13 (by decide)) an))) ?_
                    have hA2560 := (hv4 _ (H2557).tl).adO hj35
                    refine r_ix IX26 rfl rfl hA2560 h033 h134 ?_ (wn_t rfl rfl (by decide) rfl hb47)
                    exact r_nil (n_lp ⟨_, rfl, undef, rfl, H2557⟩)
                  · intro η41 wd2565 Δ2566 hE2561 hR2562 hA2563 H2564
                    refine sp_op [(27, .bool (y27.Seq != (rd b_ i22).Seq)), (30, .pointer (some ((oA A1).add (Int.toNat i22 * 6))))] (ac (hE2561 11 (by decide)) (ac (hE2561 14 (by decide)) an)) ?_
                    refine r_fa FA37_1 (((oA A1).add (Int.toNat i22 * 6)).add 1) rfl rfl ?_ (wn_t rfl rfl (by decide) rfl hb47)
                    exact r_nil (n_lp ⟨_, rfl, undef, rfl, H2564⟩)
                  · intro η41 wd2571 Δ2572 hE2567 hR2568 hA2569 H2570
                    have H2570 : Hp w0 ((Δ2572 ++ Γ)) wd2571 := H2570
                    refine sp_op [(27, .bool (y27.Seq != (rd b_ i22).Seq)), (31, .pointer (some (((oA A1).add (Int.toNat i22 * 6)).add 1)))] (ac (hE2567 11 (by decide)) (ac (hE2567 15 (by decide)) an)) ?_
                    have hA2573 := (hv4 _ (H2570).tl).adO hj35
                    refine r_ld1 (.string y27.Entity) LD9 rfl ((hv4 _ (H2570).tl).cA hA2573 hj35 1 _ rfl) ?_ (wn_t rfl rfl (by decide) rfl hb47)
                    exact r_nil (n_lp ⟨_, rfl, undef, rfl, H2570⟩)
                  · intro η41 wd2578 Δ2579 hE2574 hR2575 hA2576 H2577
                    refine sp_op [(1, .slice A9 b_.length c10), (27, .bool (y27.Seq != (rd b_ i22).Seq))] (ac rfl (ac (hE2574 11 (by decide)) an)) ?_
                    refine r_pure (.slice A9 b_.length c10) rfl ?_ (wn_t rfl rfl (by decide) rfl hb47)
                    exact r_nil (n_lp ⟨_, rfl, undef, rfl, H2577⟩)
                  · intro η41 wd2584 Δ2585 hE2580 hR2581 hA2582 H2583
                    refine sp_op [(5, .int .i64 i22), (27, .bool (y27.Seq != (rd b_ i22).Seq))] (ac rfl (ac (hE2580 11 (by decide)) an)) ?_
                    refine r_pure (.int .i64 i22) rfl ?_ (wn_t rfl rfl (by decide) rfl hb47)
                    exact r_nil (n_lp ⟨_, rfl, undef, rfl, H2583⟩)
                  · intro η41 wd2590 Δ2591 hE2586 hR2587 hA2588 H2589
                    have H2589 : Hp w0 ((Δ2591 ++ Γ)) wd2590 := H2589
                    refine sp_op [(27, .bool (y27.Seq != (rd b_ i22).Seq)), (33, .slice A9 b_.length c10), (34, .int .i64 i22)] (ac (hE2586 11 (by decide)) (ac (hE2586 17 (by decide)) (ac (hE2586 18 (by decide)) an))) ?_
                    have hA2592 := (hv12 _ (H2589).tl).adO hj45
                    refine r_ix IX26 rfl rfl hA2592 h043 h144 ?_ (wn_t rfl rfl (by decide) rfl hb47)
                    exact r_nil (n_lp ⟨_, rfl, undef, rfl, H2589⟩)
                  · intro η41 wd2597 Δ2598 hE2593 hR2594 hA2595 H2596
                    refine sp_op [(27, .bool (y27.Seq != (rd b_ i22).Seq)), (35, .pointer (some ((oA A9).add (Int.toNat i22 * 6))))] (ac (hE2593 11 (by decide)) (ac (hE2593 19 (by decide)) an)) ?_
                    refine r_fa FA37_1 (((oA A9).add (Int.toNat i22 * 6)).add 1) rfl rfl ?_ (wn_t rfl rfl (by decide) rfl hb47)
                    exact r_nil (n_lp ⟨_, rfl, undef, rfl, H2596⟩)
                  · intro η41 wd2603 Δ2604 hE2599 hR2600 hA2601 H2602
                    have H2602 : Hp w0 ((Δ2604 ++ Γ)) wd2603 := H2602
                    refine sp_op [(27, .bool (y27.Seq != (rd b_ i22).Seq)), (36, .pointer (some (((oA A9).add (Int.toNat i22 * 6)).add 1)))] (ac (hE2599 11 (by decide)) (ac (hE2599 20 (by decide)) an)) ?_
                    have hA2605 := (hv12 _ (H2602).tl).adO hj45
                    refine r_ld1 (.string ((rd b_ i22).Entity)) LD9 rfl ((hv12 _ (H2602).tl).cA hA2605 hj45 1 _ rfl) ?_ (wn_t rfl rfl (by decide) rfl hb47)
                    exact r_nil (n_lp ⟨_, rfl, undef, rfl, H2602⟩)
                  · intro η41 wd2610 Δ2611 hE2606 hR2607 hA2608 H2609
                    refine sp_op [(27, .bool (y27.Seq != (rd b_ i22).Seq)), (32, .string y27.Entity), (37, .string ((rd b_ i22).Entity))] (ac (hE2606 11 (by decide)) (ac (hE2606 16 (by decide)) (ac (hE2606 21 (by decide)) an))) ?_
                    refine r_pure (.bool (!((y27.Entity).toList == ((rd b_ i22).Entity).toList))) rfl ?_ (wn_t rfl rfl (by decide) rfl hb47)
                    exact r_nil (n_lp ⟨_, rfl, undef, rfl, H2609⟩)
                  · intro η41 wd2616 Δ2617 hE2612 hR2613 hA2614 H2615
                    refine sp_op [(27, .bool (y27.Seq != (rd b_ i22).Seq)), (38, .bool (!((y27.Entity).toList == ((rd b_ i22).Entity).toList)))] (ac (hE2612 11 (by decide)) (ac (hE2612 22 (by decide)) an)) ?_
                    refine r_pick_f (.bool (!((y27.Entity).toList == ((rd b_ i22).Entity).toList))) hb47 rfl rfl ?_
                    exact r_nil (n_lp ⟨_, rfl, undef, rfl, H2615⟩)
                  · intro η41 wd2622 Δ2623 hE2618 hR2619 hA2620 H2621
                    refine sp_op [(39, .bool (!((y27.Entity).toList == ((rd b_ i22).Entity).toList)))] (ac (hE2618 23 (by decide)) an) ?_
                    refine r_pure (.bool (!((y27.Entity).toList == ((rd b_ i22).Entity).toList))) rfl ?_
                    exact r_nil (n_lp ⟨_, rfl, undef, rfl, H2621⟩)
                  · intro η41 wd2628 Δ2629 hE2624 hR2625 hA2626 H2627
                    refine sp_op [(0, .slice A1 a_.length c2), (40, .bool (!((y27.Entity).toList == ((rd b_ i22).Entity).toList)))] (ac rfl (ac (hE2624 24 (by decide)) an)) ?_
                    refine r_pure (.slice A1 a_.length c2) rfl ?_ (wn_t rfl rfl (by decide) rfl hb521)
                    exact r_nil (n_lp ⟨_, rfl, undef, rfl, H2627⟩)
                  · intro η41 wd2634 Δ2635 hE2630 hR2631 hA2632 H2633
                    refine sp_op [(5, .int .i64 i22), (40, .bool (!((y27.Entity).toList == ((rd b_ i22).Entity).toList)))] (ac rfl (ac (hE2630 24 (by decide)) an)) ?_
                    refine r_pure (.int .i64 i22) rfl ?_ (wn_t rfl rfl (by decide) rfl hb521)
                    exact r_nil (n_lp ⟨_, rfl, undef, rfl, H2633⟩)
                  · intro η41 wd2640 Δ2641 hE2636 hR2637 hA2638 H2639
                    have H2639 : Hp w0 ((Δ2641 ++ Γ)) wd2640 := H2639
                    refine sp_op [(40, .bool (!((y27.Entity).toList == ((rd b_ i22).Entity).toList))), (41, .slice A1 a_.length c2), (42, .int .i64 i22)] (ac (hE2636 24 (by decide)) (ac (hE2636 25 (by decide)) (ac (hE2636 26 (by decide)) an))) ?_
                    have hA2642 := (hv4 _ (H2639).tl).adO hj35
                    refine r_ix IX26 rfl rfl hA2642 h033 h134 ?_ (wn_t rfl rfl (by decide) rfl hb521)
                    exact r_nil (n_lp ⟨_, rfl, undef, rfl, H2639⟩)
                  · intro η41 wd2647 Δ2648 hE2643 hR2644 hA2645 H2646
                    refine sp_op [(40, .bool (!((y27.Entity).toList == ((rd b_ i22).Entity).toList))), (43, .pointer (some ((oA A1).add (Int.toNat i22 * 6))))] (ac (hE2643 24 (by decide)) (ac (hE2643 27 (by decide)) an)) ?_
                    refine r_fa FA37_2 (((oA A1).add (Int.toNat i22 * 6)).add 2) rfl rfl ?_ (wn_t rfl rfl (by decide) rfl hb521)
                    exact r_nil (n_lp ⟨_, rfl, undef, rfl, H2646⟩)
                  · intro η41 wd2653 Δ2654 hE2649 hR2650 hA2651 H2652
                    have H2652 : Hp w0 ((Δ2654 ++ Γ)) wd2653 := H2652
                    refine sp_op [(40, .bool (!((y27.Entity).toList == ((rd b_ i22).Entity).toList))), (44, .pointer (some (((oA A1).add (Int.toNat i22 * 6)).add 2)))] (ac (hE2649 24 (by decide)) (ac (hE2649 28 (by decide)) an)) ?_
                    have hA2655 := (hv4 _ (H2652).tl).adO hj35
                    refine r_ld1 (.int .i64 y27.Period) LD3 rfl ((hv4 _ (H2652).tl).cA hA2655 hj35 2 _ rfl) ?_ (wn_t rfl rfl (by decide) rfl hb521)
                    exact r_nil (n_lp ⟨_, rfl, undef, rfl, H2652⟩)
                  · intro η41 wd2660 Δ2661 hE2656 hR2657 hA2658 H2659
                    refine sp_op [(1, .slice A9 b_.length c10), (40, .bool (!((y27.Entity).toList == ((rd b_ i22).Entity).toList)))] (ac rfl (ac (hE2656 24 (by decide)) an)) ?_
                    refine r_pure (.slice A9 b_.length c10) rfl ?_ (wn_t rfl rfl (by decide) rfl hb521)
                    exact r_nil (n_lp ⟨_, rfl, undef, rfl, H2659⟩)
                  · intro η41 wd2666 Δ2667 hE2662 hR2663 hA2664 H2665
                    refine sp_op [(5, .int .i64 i22), (40, .bool (!((y27.Entity).toList == ((rd b_ i22).Entity).toList)))] (ac rfl (ac (hE2662 24 (by decide)) an)) ?_
                    refine r_pure (.int .i64 i22) rfl ?_ (wn_t rfl rfl (by decide) rfl hb521)
                    exact r_nil (n_lp ⟨_, rfl, undef, rfl, H2665⟩)
                  · intro η41 wd2672 Δ2673 hE2668 hR2669 hA2670 H2671
                    have H2671 : Hp w0 ((Δ2673 ++ Γ)) wd2672 := H2671
                    refine sp_op [(40, .bool (!((y27.Entity).toList == ((rd b_ i22).Entity).toList))), (46, .slice A9 b_.length c10), (47, .int .i64 i22)] (ac (hE2668 24 (by decide)) (ac (hE2668 30 (by decide)) (ac (hE2668 31 (by decide)) an))) ?_
                    have hA2674 := (hv12 _ (H2671).tl).adO hj45
                    refine r_ix IX26 rfl rfl hA2674 h043 h144 ?_ (wn_t rfl rfl (by decide) rfl hb521)
                    exact r_nil (n_lp ⟨_, rfl, undef, rfl, H2671⟩)
                  · intro η41 wd2679 Δ2680 hE2675 hR2676 hA2677 H2678
                    refine sp_op [(40, .bool (!((y27.Entity).toList == ((rd b_ i22).Entity).toList))), (48, .pointer (some ((oA A9).add (Int.toNat i22 * 6))))] (ac (hE2675 24 (by decide)) (ac (hE2675 32 (by decide)) an)) ?_
                    refine r_fa FA37_2 (((oA A9).add (Int.toNat i22 * 6)).add 2) rfl rfl ?_ (wn_t rfl rfl (by decide) rfl hb521)
                    exact r_nil (n_lp ⟨_, rfl, undef, rfl, H2678⟩)
                  · intro η41 wd2685 Δ2686 hE2681 hR2682 hA2683 H2684
                    have H2684 : Hp w0 ((Δ2686 ++ Γ)) wd2685 := H2684
                    refine sp_op [(40, .bool (!((y27.Entity).toList == ((rd b_ i22).Entity).toList))), (49, .pointer (some (((oA A9).add (Int.toNat i22 * 6)).add 2)))] (ac (hE2681 24 (by decide)) (ac (hE2681 33 (by decide)) an)) ?_
                    have hA2687 := (hv12 _ (H2684).tl).adO hj45
                    refine r_ld1 (.int .i64 ((rd b_ i22).Period)) LD3 rfl ((hv12 _ (H2684).tl).cA hA2687 hj45 2 _ rfl) ?_ (wn_t rfl rfl (by decide) rfl hb521)
                    exact r_nil (n_lp ⟨_, rfl, undef, rfl, H2684⟩)
                  · intro η41 wd2692 Δ2693 hE2688 hR2689 hA2690 H2691
                    refine sp_op [(40, .bool (!((y27.Entity).toList == ((rd b_ i22).Entity).toList))), (45, .int .i64 y27.Period), (50, .int .i64 ((rd b_ i22).Period))] (ac (hE2688 24 (by decide)) (ac (hE2688 29 (by decide)) (ac (hE2688 34 (by decide)) an))) ?_
                    refine r_pure (.bool (y27.Period != (rd b_ i22).Period)) rfl ?_ (wn_t rfl rfl (by decide) rfl hb521)
                    exact r_nil (n_lp ⟨_, rfl, undef, rfl, H2691⟩)
                  · intro η41 wd2698 Δ2699 hE2694 hR2695 hA2696 H2697
                    refine sp_op [(40, .bool (!((y27.Entity).toList == ((rd b_ i22).Entity).toList))), (51, .bool (y27.Period != (rd b_ i22).Period))] (ac (hE2694 24 (by decide)) (ac (hE2694 35 (by decide)) an)) ?_
                    refine r_pick_f (.bool (y27.Period != (rd b_ i22).Period)) hb521 rfl rfl ?_
                    exact r_nil (n_lp ⟨_, rfl, undef, rfl, H2697⟩)
                  · intro η41 wd2704 Δ2705 hE2700 hR2701 hA2702 H2703
                    refine sp_op [(52, .bool (y27.Period != (rd b_ i22).Period))] (ac (hE2700 36 (by decide)) an) ?_
                    refine r_pure (.bool (y27.Period != (rd b_ i22).Period)) rfl ?_
                    exact r_nil (n_lp ⟨_, rfl, undef, rfl, H2703⟩)
                  · intro η41 wd2710 Δ2711 hE2706 hR2707 hA2708 H2709
                    refine sp_op [(0, .slice A1 a_.length c2), (53, .bool (y27.Period != (rd b_ i22).Period))] (ac rfl (ac (hE2706 37 (by decide)) an)) ?_
                    refine r_pure (.slice A1 a_.length c2) rfl ?_ (wn_t rfl rfl (by decide) rfl hb999)
                    exact r_nil (n_lp ⟨_, rfl, undef, rfl, H2709⟩)
                  · intro η41 wd2716 Δ2717 hE2712 hR2713 hA2714 H2715
                    refine sp_op [(5, .int .i64 i22), (53, .bool (y27.Period != (rd b_ i22).Period))] (ac rfl (ac (hE2712 37 (by decide)) an)) ?_
                    refine r_pure (.int .i64 i22) rfl ?_ (wn_t rfl rfl (by decide) rfl hb999)
                    exact r_nil (n_lp ⟨_, rfl, undef, rfl, H2715⟩)
                  · intro η41 wd2722 Δ2723 hE2718 hR2719 hA2720 H2721
                    have H2721 : Hp w0 ((Δ2723 ++ Γ)) wd2722 := H2721
                    refine sp_op [(53, .bool (y27.Period != (rd b_ i22).Period)), (54, .slice A1 a_.length c2), (55, .int .i64 i22)] (ac (hE2718 37 (by decide)) (ac (hE2718 38 (by decide)) (ac (hE2718 39 (by decide)) an))) ?_
                    have hA2724 := (hv4 _ (H2721).tl).adO hj35
                    refine r_ix IX26 rfl rfl hA2724 h033 h134 ?_ (wn_t rfl rfl (by decide) rfl hb999)
                    exact r_nil (n_lp ⟨_, rfl, undef, rfl, H2721⟩)
                  · intro η41 wd2729 Δ2730 hE2725 hR2726 hA2727 H2728
                    refine sp_op [(53, .bool (y27.Period != (rd b_ i22).Period)), (56, .pointer (some ((oA A1).add (Int.toNat i22 * 6))))] (ac (hE2725 37 (by decide)) (ac (hE2725 40 (by decide)) an)) ?_
                    refine r_fa FA37_3 (((oA A1).add (Int.toNat i22 * 6)).add 3) rfl rfl ?_ (wn_t rfl rfl (by decide) rfl hb999)
                    exact r_nil (n_lp ⟨_, rfl, undef, rfl, H2728⟩)
                  · intro η41 wd2735 Δ2736 hE2731 hR2732 hA2733 H2734
                    have H2734 : Hp w0 ((Δ2736 ++ Γ)) wd2735 := H2734
                    refine sp_op [(53, .bool (y27.Period != (rd b_ i22).Period)), (57, .pointer (some (((oA A1).add (Int.toNat i22 * 6)).add 3)))] (ac (hE2731 37 (by decide)) (ac (hE2731 41 (by decide)) an)) ?_
                    have hA2737 := (hv4 _ (H2734).tl).adO hj35
                    refine r_ld1 (.int .i64 y27.Kind) LD3 rfl ((hv4 _ (H2734).tl).cA hA2737 hj35 3 _ rfl) ?_ (wn_t rfl rfl (by decide) rfl hb999)
                    exact r_nil (n_lp ⟨_, rfl, undef, rfl, H2734⟩)
                  · intro η41 wd2742 Δ2743 hE2738 hR2739 hA2740 H2741
                    refine sp_op [(1, .slice A9 b_.length c10), (53, .bool (y27.Period != (rd b_ i22).Period))] (ac rfl (ac (hE2738 37 (by decide)) an)) ?_
                    refine r_pure (.slice A9 b_.length c10) rfl ?_ (wn_t rfl rfl (by decide) rfl hb999)
                    exact r_nil (n_lp ⟨_, rfl, undef, rfl, H2741⟩)
                  · intro η41 wd2748 Δ2749 hE2744 hR2745 hA2746 H2747
                    refine sp_op [(5, .int .i64 i22), (53, .bool (y27.Period != (rd b_ i22).Period))] (ac rfl (ac (hE2744 37 (by decide)) an)) ?_
                    refine r_pure (.int .i64 i22) rfl ?_ (wn_t rfl rfl (by decide) rfl hb999)
                    exact r_nil (n_lp ⟨_, rfl, undef, rfl, H2747⟩)
                  · intro η41 wd2754 Δ2755 hE2750 hR2751 hA2752 H2753
                    have H2753 : Hp w0 ((Δ2755 ++ Γ)) wd2754 := H2753
                    refine sp_op [(53, .bool (y27.Period != (rd b_ i22).Period)), (59, .slice A9 b_.length c10), (60, .int .i64 i22)] (ac (hE2750 37 (by decide)) (ac (hE2750 43 (by decide)) (ac (hE2750 44 (by decide)) an))) ?_
                    have hA2756 := (hv12 _ (H2753).tl).adO hj45
                    refine r_ix IX26 rfl rfl hA2756 h043 h144 ?_ (wn_t rfl rfl (by decide) rfl hb999)
                    exact r_nil (n_lp ⟨_, rfl, undef, rfl, H2753⟩)
                  · intro η41 wd2761 Δ2762 hE2757 hR2758 hA2759 H2760
                    refine sp_op [(53, .bool (y27.Period != (rd b_ i22).Period)), (61, .pointer (some ((oA A9).add (Int.toNat i22 * 6))))] (ac (hE2757 37 (by decide)) (ac (hE2757 45 (by decide)) an)) ?_
                    refine r_fa FA37_3 (((oA A9).add (Int.toNat i22 * 6)).add 3) rfl rfl ?_ (wn_t rfl rfl (by decide) rfl hb999)
                    exact r_nil (n_lp ⟨_, rfl, undef, rfl, H2760⟩)
                  · intro η41 wd2767 Δ2768 hE2763 hR2764 hA2765 H2766
                    have H2766 : Hp w0 ((Δ2768 ++ Γ)) wd2767 := H2766
                    refine sp_op [(53, .bool (y27.Period != (rd b_ i22).Period)), (62, .pointer (some (((oA A9).add (Int.toNat i22 * 6)).add 3)))] (ac (hE2763 37 (by decide)) (ac (hE2763 46 (by decide)) an)) ?_
                    have hA2769 := (hv12 _ (H2766).tl).adO hj45
                    refine r_ld1 (.int .i64 ((rd b_ i22).Kind)) LD3 rfl ((hv12 _ (H2766).tl).cA hA2769 hj45 3 _ rfl) ?_ (wn_t rfl rfl (by decide) rfl hb999)
                    exact r_nil (n_lp ⟨_, rfl, undef, rfl, H2766⟩)
                  · intro η41 wd2774 Δ2775 hE2770 hR2771 hA2772 H2773
                    refine sp_op [(53, .bool (y27.Period != (rd b_ i22).Period)), (58, .int .i64 y27.Kind), (63, .int .i64 ((rd b_ i22).Kind))] (ac (hE2770 37 (by decide)) (ac (hE2770 42 (by decide)) (ac (hE2770 47 (by decide)) an))) ?_
                    refine r_pure (.bool (y27.Kind != (rd b_ i22).Kind)) rfl ?_ (wn_t rfl rfl (by decide) rfl hb999)
                    exact r_nil (n_lp ⟨_, rfl, undef, rfl, H2773⟩)
                  · intro η41 wd2780 Δ2781 hE2776 hR2777 hA2778 H2779
                    refine sp_op [(53, .bool (y27.Period != (rd b_ i22).Period)), (64, .bool (y27.Kind != (rd b_ i22).Kind))] (ac (hE2776 37 (by decide)) (ac (hE2776 48 (by decide)) an)) ?_
                    refine r_pick_f (.bool (y27.Kind != (rd b_ i22).Kind)) hb999 rfl rfl ?_
                    exact r_nil (n_lp ⟨_, rfl, undef, rfl, H2779⟩)
                  · intro η41 wd2786 Δ2787 hE2782 hR2783 hA2784 H2785
                    refine sp_op [(65, .bool (y27.Kind != (rd b_ i22).Kind))] (ac (hE2782 49 (by decide)) an) ?_
                    refine r_pure (.bool (y27.Kind != (rd b_ i22).Kind)) rfl ?_
                    exact r_nil (n_lp ⟨_, rfl, undef, rfl, H2785⟩)
                  · intro η41 wd2792 Δ2793 hE2788 hR2789 hA2790 H2791
                    refine sp_op [(0, .slice A1 a_.length c2), (66, .bool (y27.Kind != (rd b_ i22).Kind))] (ac rfl (ac (hE2788 50 (by decide)) an)) ?_
                    refine r_pure (.slice A1 a_.length c2) rfl ?_ (wn_t rfl rfl (by decide) rfl hb1481)
                    exact r_nil (n_lp ⟨_, rfl, undef, rfl, H2791⟩)
                  · intro η41 wd2798 Δ2799 hE2794 hR2795 hA2796 H2797
                    refine sp_op [(5, .int .i64 i22), (66, .bool (y27.Kind != (rd b_ i22).Kind))] (ac rfl (ac (hE2794 50 (by decide)) an)) ?_
                    refine r_pure (.int .i64 i22) rfl ?_ (wn_t rfl rfl (by decide) rfl hb1481)
                    exact r_nil (n_lp ⟨_, rfl, undef, rfl, H2797⟩)
                  · intro η41 wd2804 Δ2805 hE2800 hR2801 hA2802 H2803
                    have H2803 : Hp w0 ((Δ2805 ++ Γ)) wd2804 := H2803
                    refine sp_op [(66, .bool (y27.Kind != (rd b_ i22).Kind)), (67, .slice A1 a_.length c2), (68, .int .i64 i22)] (ac (hE2800 50 (by decide)) (ac (hE2800 51 (by decide)) (ac (hE2800 52 (by decide)) an))) ?_
                    have hA2806 := (hv4 _ (H2803).tl).adO hj35
                    refine r_ix IX26 rfl rfl hA2806 h033 h134 ?_ (wn_t rfl rfl (by decide) rfl hb1481)
                    exact r_nil (n_lp ⟨_, rfl, undef, rfl, H2803⟩)
                  · intro η41 wd2811 Δ2812 hE2807 hR2808 hA2809 H2810
                    refine sp_op [(66, .bool (y27.Kind != (rd b_ i22).Kind)), (69, .pointer (some ((oA A1).add (Int.toNat i22 * 6))))] (ac (hE2807 50 (by decide)) (ac (hE2807 53 (by decide)) an)) ?_
                    refine r_fa FA37_4 (((oA A1).add (Int.toNat i22 * 6)).add 4) rfl rfl ?_ (wn_t rfl rfl (by decide) rfl hb1481)
                    exact r_nil (n_lp ⟨_, rfl, undef, rfl, H2810⟩)
                  · intro η41 wd2817 Δ2818 hE2813 hR2814 hA2815 H2816
                    have H2816 : Hp w0 ((Δ2818 ++ Γ)) wd2817 := H2816
                    refine sp_op [(66, .bool (y27.Kind != (rd b_ i22).Kind)), (70, .pointer (some (((oA A1).add (Int.toNat i22 * 6)).add 4)))] (ac (hE2813 50 (by decide)) (ac (hE2813 54 (by decide)) an)) ?_
                    have hA2819 := (hv4 _ (H2816).tl).adO hj35
                    refine r_ld1 (.int .i64 y27.Of) LD3 rfl ((hv4 _ (H2816).tl).cA hA2819 hj35 4 _ rfl) ?_ (wn_t rfl rfl (by decide) rfl hb1481)
                    exact r_nil (n_lp ⟨_, rfl, undef, rfl, H2816⟩)
                  · intro η41 wd2824 Δ2825 hE2820 hR2821 hA2822 H2823
                    refine sp_op [(1, .slice A9 b_.length c10), (66, .bool (y27.Kind != (rd b_ i22).Kind))] (ac rfl (ac (hE2820 50 (by decide)) an)) ?_
                    refine r_pure (.slice A9 b_.length c10) rfl ?_ (wn_t rfl rfl (by decide) rfl hb1481)
                    exact r_nil (n_lp ⟨_, rfl, undef, rfl, H2823⟩)
                  · intro η41 wd2830 Δ2831 hE2826 hR2827 hA2828 H2829
                    refine sp_op [(5, .int .i64 i22), (66, .bool (y27.Kind != (rd b_ i22).Kind))] (ac rfl (ac (hE2826 50 (by decide)) an)) ?_
                    refine r_pure (.int .i64 i22) rfl ?_ (wn_t rfl rfl (by decide) rfl hb1481)
                    exact r_nil (n_lp ⟨_, rfl, undef, rfl, H2829⟩)
                  · intro η41 wd2836 Δ2837 hE2832 hR2833 hA2834 H2835
                    have H2835 : Hp w0 ((Δ2837 ++ Γ)) wd2836 := H2835
                    refine sp_op [(66, .bool (y27.Kind != (rd b_ i22).Kind)), (72, .slice A9 b_.length c10), (73, .int .i64 i22)] (ac (hE2832 50 (by decide)) (ac (hE2832 56 (by decide)) (ac (hE2832 57 (by decide)) an))) ?_
                    have hA2838 := (hv12 _ (H2835).tl).adO hj45
                    refine r_ix IX26 rfl rfl hA2838 h043 h144 ?_ (wn_t rfl rfl (by decide) rfl hb1481)
                    exact r_nil (n_lp ⟨_, rfl, undef, rfl, H2835⟩)
                  · intro η41 wd2843 Δ2844 hE2839 hR2840 hA2841 H2842
                    refine sp_op [(66, .bool (y27.Kind != (rd b_ i22).Kind)), (74, .pointer (some ((oA A9).add (Int.toNat i22 * 6))))] (ac (hE2839 50 (by decide)) (ac (hE2839 58 (by decide)) an)) ?_
                    refine r_fa FA37_4 (((oA A9).add (Int.toNat i22 * 6)).add 4) rfl rfl ?_ (wn_t rfl rfl (by decide) rfl hb1481)
                    exact r_nil (n_lp ⟨_, rfl, undef, rfl, H2842⟩)
                  · intro η41 wd2849 Δ2850 hE2845 hR2846 hA2847 H2848
                    have H2848 : Hp w0 ((Δ2850 ++ Γ)) wd2849 := H2848
                    refine sp_op [(66, .bool (y27.Kind != (rd b_ i22).Kind)), (75, .pointer (some (((oA A9).add (Int.toNat i22 * 6)).add 4)))] (ac (hE2845 50 (by decide)) (ac (hE2845 59 (by decide)) an)) ?_
                    have hA2851 := (hv12 _ (H2848).tl).adO hj45
                    refine r_ld1 (.int .i64 ((rd b_ i22).Of)) LD3 rfl ((hv12 _ (H2848).tl).cA hA2851 hj45 4 _ rfl) ?_ (wn_t rfl rfl (by decide) rfl hb1481)
                    exact r_nil (n_lp ⟨_, rfl, undef, rfl, H2848⟩)
                  · intro η41 wd2856 Δ2857 hE2852 hR2853 hA2854 H2855
                    refine sp_op [(66, .bool (y27.Kind != (rd b_ i22).Kind)), (71, .int .i64 y27.Of), (76, .int .i64 ((rd b_ i22).Of))] (ac (hE2852 50 (by decide)) (ac (hE2852 55 (by decide)) (ac (hE2852 60 (by decide)) an))) ?_
                    refine r_pure (.bool (y27.Of != (rd b_ i22).Of)) rfl ?_ (wn_t rfl rfl (by decide) rfl hb1481)
                    exact r_nil (n_lp ⟨_, rfl, undef, rfl, H2855⟩)
                  · intro η41 wd2862 Δ2863 hE2858 hR2859 hA2860 H2861
                    refine sp_op [(66, .bool (y27.Kind != (rd b_ i22).Kind)), (77, .bool (y27.Of != (rd b_ i22).Of))] (ac (hE2858 50 (by decide)) (ac (hE2858 61 (by decide)) an)) ?_
                    refine r_pick_f (.bool (y27.Of != (rd b_ i22).Of)) hb1481 rfl rfl ?_
                    exact r_nil (n_lp ⟨_, rfl, undef, rfl, H2861⟩)
                  · intro η41 wd2868 Δ2869 hE2864 hR2865 hA2866 H2867
                    refine sp_op [(78, .bool (y27.Of != (rd b_ i22).Of))] (ac (hE2864 62 (by decide)) an) ?_
                    refine r_pure (.bool (y27.Of != (rd b_ i22).Of)) rfl ?_
                    exact r_nil (n_lp ⟨_, rfl, undef, rfl, H2867⟩)
                  · intro η41 wd2874 Δ2875 hE2870 hR2871 hA2872 H2873
                    refine sp_op [(0, .slice A1 a_.length c2), (79, .bool (y27.Of != (rd b_ i22).Of))] (ac rfl (ac (hE2870 63 (by decide)) an)) ?_
                    refine r_pure (.slice A1 a_.length c2) rfl ?_ (wn_t rfl rfl (by decide) rfl hb1967)
                    exact r_nil (n_lp ⟨_, rfl, undef, rfl, H2873⟩)
                  · intro η41 wd2880 Δ2881 hE2876 hR2877 hA2878 H2879
                    refine sp_op [(5, .int .i64 i22), (79, .bool (y27.Of != (rd b_ i22).Of))] (ac rfl (ac (hE2876 63 (by decide)) an)) ?_
                    refine r_pure (.int .i64 i22) rfl ?_ (wn_t rfl rfl (by decide) rfl hb1967)
                    exact r_nil (n_lp ⟨_, rfl, undef, rfl, H2879⟩)
                  · intro η41 wd2886 Δ2887 hE2882 hR2883 hA2884 H2885
                    have H2885 : Hp w0 ((Δ2887 ++ Γ)) wd2886 := H2885
                    refine sp_op [(79, .bool (y27.Of != (rd b_ i22).Of)), (80, .slice A1 a_.length c2), (81, .int .i64 i22)] (ac (hE2882 63 (by decide)) (ac (hE2882 64 (by decide)) (ac (hE2882 65 (by decide)) an))) ?_
                    have hA2888 := (hv4 _ (H2885).tl).adO hj35
                    refine r_ix IX26 rfl rfl hA2888 h033 h134 ?_ (wn_t rfl rfl (by decide) rfl hb1967)
                    exact r_nil (n_lp ⟨_, rfl, undef, rfl, H2885⟩)
                  · intro η41 wd2893 Δ2894 hE2889 hR2890 hA2891 H2892
                    refine sp_op [(79, .bool (y27.Of != (rd b_ i22).Of)), (82, .pointer (some ((oA A1).add (Int.toNat i22 * 6))))] (ac (hE2889 63 (by decide)) (ac (hE2889 66 (by decide)) an)) ?_
                    refine r_fa FA37_5 (((oA A1).add (Int.toNat i22 * 6)).add 5) rfl rfl ?_ (wn_t rfl rfl (by decide) rfl hb1967)
                    exact r_nil (n_lp ⟨_, rfl, undef, rfl, H2892⟩)
                  · intro η41 wd2899 Δ2900 hE2895 hR2896 hA2897 H2898
                    have H2898 : Hp w0 ((Δ2900 ++ Γ)) wd2899 := H2898
                    refine sp_op [(79, .bool (y27.Of != (rd b_ i22).Of)), (83, .pointer (some (((oA A1).add (Int.toNat i22 * 6)).add 5)))] (ac (hE2895 63 (by decide)) (ac (hE2895 67 (by decide)) an)) ?_
                    have hA2901 := (hv4 _ (H2898).tl).adO hj35
                    refine r_ld1 (.slice ((ads7 (Int.toNat i22)).1) y27.Lines.length ((ads7 (Int.toNat i22)).2)) LD34 rfl ((hv4 _ (H2898).tl).cA hA2901 hj35 5 _ rfl) ?_ (wn_t rfl rfl (by decide) rfl hb1967)
                    exact r_nil (n_lp ⟨_, rfl, undef, rfl, H2898⟩)
                  · intro η41 wd2906 Δ2907 hE2902 hR2903 hA2904 H2905
                    refine sp_op [(1, .slice A9 b_.length c10), (79, .bool (y27.Of != (rd b_ i22).Of))] (ac rfl (ac (hE2902 63 (by decide)) an)) ?_
                    refine r_pure (.slice A9 b_.length c10) rfl ?_ (wn_t rfl rfl (by decide) rfl hb1967)
                    exact r_nil (n_lp ⟨_, rfl, undef, rfl, H2905⟩)
                  · intro η41 wd2912 Δ2913 hE2908 hR2909 hA2910 H2911
                    refine sp_op [(5, .int .i64 i22), (79, .bool (y27.Of != (rd b_ i22).Of))] (ac rfl (ac (hE2908 63 (by decide)) an)) ?_
                    refine r_pure (.int .i64 i22) rfl ?_ (wn_t rfl rfl (by decide) rfl hb1967)
                    exact r_nil (n_lp ⟨_, rfl, undef, rfl, H2911⟩)
                  · intro η41 wd2918 Δ2919 hE2914 hR2915 hA2916 H2917
                    have H2917 : Hp w0 ((Δ2919 ++ Γ)) wd2918 := H2917
                    refine sp_op [(79, .bool (y27.Of != (rd b_ i22).Of)), (85, .slice A9 b_.length c10), (86, .int .i64 i22)] (ac (hE2914 63 (by decide)) (ac (hE2914 69 (by decide)) (ac (hE2914 70 (by decide)) an))) ?_
                    have hA2920 := (hv12 _ (H2917).tl).adO hj45
                    refine r_ix IX26 rfl rfl hA2920 h043 h144 ?_ (wn_t rfl rfl (by decide) rfl hb1967)
                    exact r_nil (n_lp ⟨_, rfl, undef, rfl, H2917⟩)
                  · intro η41 wd2925 Δ2926 hE2921 hR2922 hA2923 H2924
                    refine sp_op [(79, .bool (y27.Of != (rd b_ i22).Of)), (87, .pointer (some ((oA A9).add (Int.toNat i22 * 6))))] (ac (hE2921 63 (by decide)) (ac (hE2921 71 (by decide)) an)) ?_
                    refine r_fa FA37_5 (((oA A9).add (Int.toNat i22 * 6)).add 5) rfl rfl ?_ (wn_t rfl rfl (by decide) rfl hb1967)
                    exact r_nil (n_lp ⟨_, rfl, undef, rfl, H2924⟩)
                  · intro η41 wd2931 Δ2932 hE2927 hR2928 hA2929 H2930
                    have H2930 : Hp w0 ((Δ2932 ++ Γ)) wd2931 := H2930
                    refine sp_op [(79, .bool (y27.Of != (rd b_ i22).Of)), (88, .pointer (some (((oA A9).add (Int.toNat i22 * 6)).add 5)))] (ac (hE2927 63 (by decide)) (ac (hE2927 72 (by decide)) an)) ?_
                    have hA2933 := (hv12 _ (H2930).tl).adO hj45
                    refine r_ld1 (.slice ((ads15 (Int.toNat i22)).1) (((rd b_ i22).Lines).length) ((ads15 (Int.toNat i22)).2)) LD34 rfl ((hv12 _ (H2930).tl).cA hA2933 hj45 5 _ rfl) ?_ (wn_t rfl rfl (by decide) rfl hb1967)
                    exact r_nil (n_lp ⟨_, rfl, undef, rfl, H2930⟩)
                  · intro η41 wd2938 Δ2939 hE2934 hR2935 hA2936 H2937
                    have H2937 : Hp w0 ((Δ2939 ++ Γ)) wd2938 := H2937
                    refine sp_op [(79, .bool (y27.Of != (rd b_ i22).Of)), (84, .slice ((ads7 (Int.toNat i22)).1) y27.Lines.length ((ads7 (Int.toNat i22)).2)), (89, .slice ((ads15 (Int.toNat i22)).1) (((rd b_ i22).Lines).length) ((ads15 (Int.toNat i22)).2))] (ac (hE2934 63 (by decide)) (ac (hE2934 68 (by decide)) (ac (hE2934 73 (by decide)) an))) ?_
                    refine r_callf Try.call13 (scutagekeep_Same_api_Line_ok y27.Lines ((ads7 (Int.toNat i22)).1) y27.Lines.length ((ads7 (Int.toNat i22)).2) rfl (hin8 _ _ hj35).1 (fun _ H => ((hin8 _ _ hj35).2 _ (H).tl)) ((rd b_ i22).Lines) ((ads15 (Int.toNat i22)).1) (((rd b_ i22).Lines).length) ((ads15 (Int.toNat i22)).2) rfl (hin16 _ _ hj45).1 (fun _ H => ((hin16 _ _ hj45).2 _ (H).tl)) y2457 H2937 hy2458) ?_ (wn_t rfl rfl (by decide) rfl hb1967)
                    rintro e2943 wd2942 ⟨rfl, H2945⟩
                    refine ⟨_, rfl, ?_⟩
                    exact r_nil (n_lp ⟨_, rfl, undef, rfl, H2945⟩)
                  · intro η41 wd2950 Δ2951 hE2946 hR2947 hA2948 H2949
                    refine sp_op [(79, .bool (y27.Of != (rd b_ i22).Of)), (90, .bool y2457)] (ac (hE2946 63 (by decide)) (ac (hE2946 74 (by decide)) an)) ?_
                    refine r_pure (.bool (!y2457)) rfl ?_ (wn_t rfl rfl (by decide) rfl hb1967)
                    exact r_nil (n_lp ⟨_, rfl, undef, rfl, H2949⟩)
                  · intro η41 wd2956 Δ2957 hE2952 hR2953 hA2954 H2955
                    refine sp_op [(79, .bool (y27.Of != (rd b_ i22).Of)), (91, .bool (!y2457))] (ac (hE2952 63 (by decide)) (ac (hE2952 75 (by decide)) an)) ?_
                    refine r_pick_f (.bool (!y2457)) hb1967 rfl rfl ?_
                    exact r_nil (n_lp ⟨_, rfl, undef, rfl, H2955⟩)
                  · intro η41 wd2959 hV2960 H2958
                    have H2961 : Hp w0 (Γ) wd2959 := H2958
                    refine n_frame ((0, .slice A1 a_.length c2) :: (1, .slice A9 b_.length c10) :: (12, .int .i64 (a_.length : Int)) :: (13, .int .i64 i22) :: (28, .slice A1 a_.length c2) :: (29, .int .i64 i22) :: (30, .pointer (some ((oA A1).add (Int.toNat i22 * 6)))) :: (31, .pointer (some (((oA A1).add (Int.toNat i22 * 6)).add 1))) :: (32, .string y27.Entity) :: (33, .slice A9 b_.length c10) :: (34, .int .i64 i22) :: (35, .pointer (some ((oA A9).add (Int.toNat i22 * 6)))) :: (36, .pointer (some (((oA A9).add (Int.toNat i22 * 6)).add 1))) :: (37, .string ((rd b_ i22).Entity)) :: (38, .bool (!((y27.Entity).toList == ((rd b_ i22).Entity).toList))) :: (41, .slice A1 a_.length c2) :: (42, .int .i64 i22) :: (43, .pointer (some ((oA A1).add (Int.toNat i22 * 6)))) :: (44, .pointer (some (((oA A1).add (Int.toNat i22 * 6)).add 2))) :: (45, .int .i64 y27.Period) :: (46, .slice A9 b_.length c10) :: (47, .int .i64 i22) :: (48, .pointer (some ((oA A9).add (Int.toNat i22 * 6)))) :: (49, .pointer (some (((oA A9).add (Int.toNat i22 * 6)).add 2))) :: (50, .int .i64 ((rd b_ i22).Period)) :: (51, .bool (y27.Period != (rd b_ i22).Period)) :: (54, .slice A1 a_.length c2) :: (55, .int .i64 i22) :: (56, .pointer (some ((oA A1).add (Int.toNat i22 * 6)))) :: (57, .pointer (some (((oA A1).add (Int.toNat i22 * 6)).add 3))) :: (58, .int .i64 y27.Kind) :: (59, .slice A9 b_.length c10) :: (60, .int .i64 i22) :: (61, .pointer (some ((oA A9).add (Int.toNat i22 * 6)))) :: (62, .pointer (some (((oA A9).add (Int.toNat i22 * 6)).add 3))) :: (63, .int .i64 ((rd b_ i22).Kind)) :: (64, .bool (y27.Kind != (rd b_ i22).Kind)) :: (67, .slice A1 a_.length c2) :: (68, .int .i64 i22) :: (69, .pointer (some ((oA A1).add (Int.toNat i22 * 6)))) :: (70, .pointer (some (((oA A1).add (Int.toNat i22 * 6)).add 4))) :: (71, .int .i64 y27.Of) :: (72, .slice A9 b_.length c10) :: (73, .int .i64 i22) :: (74, .pointer (some ((oA A9).add (Int.toNat i22 * 6)))) :: (75, .pointer (some (((oA A9).add (Int.toNat i22 * 6)).add 4))) :: (76, .int .i64 ((rd b_ i22).Of)) :: (77, .bool (y27.Of != (rd b_ i22).Of)) :: (80, .slice A1 a_.length c2) :: (81, .int .i64 i22) :: (82, .pointer (some ((oA A1).add (Int.toNat i22 * 6)))) :: (83, .pointer (some (((oA A1).add (Int.toNat i22 * 6)).add 5))) :: (84, .slice ((ads7 (Int.toNat i22)).1) y27.Lines.length ((ads7 (Int.toNat i22)).2)) :: (85, .slice A9 b_.length c10) :: (86, .int .i64 i22) :: (87, .pointer (some ((oA A9).add (Int.toNat i22 * 6)))) :: (88, .pointer (some (((oA A9).add (Int.toNat i22 * 6)).add 5))) :: (89, .slice ((ads15 (Int.toNat i22)).1) (((rd b_ i22).Lines).length) ((ads15 (Int.toNat i22)).2)) :: (90, .bool y2457) :: (91, .bool (!y2457)) :: (92, .bool (!y2457)) :: []) (ac rfl (ac rfl (ac rfl (ac rfl (ac (hV2960 12 rfl) (ac (hV2960 13 rfl) (ac (hV2960 14 rfl) (ac (hV2960 15 rfl) (ac (hV2960 16 rfl) (ac (hV2960 17 rfl) (ac (hV2960 18 rfl) (ac (hV2960 19 rfl) (ac (hV2960 20 rfl) (ac (hV2960 21 rfl) (ac (hV2960 22 rfl) (ac (hV2960 25 rfl) (ac (hV2960 26 rfl) (ac (hV2960 27 rfl) (ac (hV2960 28 rfl) (ac (hV2960 29 rfl) (ac (hV2960 30 rfl) (ac (hV2960 31 rfl) (ac (hV2960 32 rfl) (ac (hV2960 33 rfl) (ac (hV2960 34 rfl) (ac (hV2960 35 rfl) (ac (hV2960 38 rfl) (ac (hV2960 39 rfl) (ac (hV2960 40 rfl) (ac (hV2960 41 rfl) (ac (hV2960 42 rfl) (ac (hV2960 43 rfl) (ac (hV2960 44 rfl) (ac (hV2960 45 rfl) (ac (hV2960 46 rfl) (ac (hV2960 47 rfl) (ac (hV2960 48 rfl) (ac (hV2960 51 rfl) (ac (hV2960 52 rfl) (ac (hV2960 53 rfl) (ac (hV2960 54 rfl) (ac (hV2960 55 rfl) (ac (hV2960 56 rfl) (ac (hV2960 57 rfl) (ac (hV2960 58 rfl) (ac (hV2960 59 rfl) (ac (hV2960 60 rfl) (ac (hV2960 61 rfl) (ac (hV2960 64 rfl) (ac (hV2960 65 rfl) (ac (hV2960 66 rfl) (ac (hV2960 67 rfl) (ac (hV2960 68 rfl) (ac (hV2960 69 rfl) (ac (hV2960 70 rfl) (ac (hV2960 71 rfl) (ac (hV2960 72 rfl) (ac (hV2960 73 rfl) (ac (hV2960 74 rfl) (ac (hV2960 75 rfl) (ac (hV2960 76 rfl) an))))))))))))))))))))))))))))))))))))))))))))))))))))))))))))) ?_
                    refine n_cut ⟨!y2457, upk (ac rfl (ac rfl (ac rfl (ac rfl (ac rfl an))))), H2961, hm⟩
      · rintro ρ w ⟨q38, ⟨base, rfl⟩, H39, hm⟩
        unfold scutagelaw07_Journals.j1 at hm
        rcases ite_some hm with ⟨hb40, hm⟩ | ⟨hb40, hm⟩
        · refine st_condt hb40 rfl ?_
          refine st_seq ?_
          refine st_region ?_
          refine r_pure (.bool false) rfl ?_
          refine r_seq ?_
          have hq_ := Option.some.inj hm
          subst hq_
          have hq_ := Option.some.inj (show some (false : Bool) = some r0_ from hm19)
          subst hq_
          refine st_ret1 rfl rfl (Nat.le_of_ble_eq_true rfl) rfl ?_
          exact ⟨rfl, H39⟩
        · refine st_condf hb40 rfl ?_
          refine st_skip ?_
          refine n_bl ?_
          refine n_sq ?_
          refine st_region ?_
          refine r_pure (.int .i64 (w64 (i22 + 1))) rfl ?_
          refine r_pure (.int .i64 (w64 (i22 + 1))) rfl ?_
          refine r_nil ?_
          refine n_round (IH30 _ _ rfl _ _ _ ⟨i22 + 1, dn23 ++ [y27], rfl, range_more hxs24, range_len hi25, upk (ac rfl (ac rfl (ac rfl (ac hnx36 an)))), H39⟩ hm)

set_option maxHeartbeats 2000000 in
theorem chart_Accounts_ok {w0 w : World} {Γ : List (World → Prop)}  (r0_ : List Int) (H : Hp w0 (Γ) w) (hm : chart_Accounts = some r0_) : Calls Try.prog 31 #[] w (fun e w => ∃ (Ax1 : Option Addr) (nx2 cx3 : Nat), e = .returned (.slice Ax1 nx2 cx3) ∧ Hp w0 (Row K3 (.slice Ax1 nx2 cx3) r0_ :: Γ) w) := by
  unfold chart_Accounts at hm
  refine st_enter Try.func31 rfl Try.ntmps31 (Nat.le_of_ble_eq_true rfl) ?_
  refine st_seq ?_
  refine st_region ?_
  refine r_pure (.slice none 0 0) rfl ?_
  refine r_seq ?_
  refine st_seq ?_
  refine st_region ?_
  refine r_pure (.slice none 0 0) rfl ?_
  refine r_seq ?_
  refine st_seq ?_
  refine st_seq ?_
  refine st_region ?_
  obtain ⟨y1, hy2, hm⟩ := bind_some hm
  refine r_callf Try.call39 (chart_names_ok  y1 H hy2) ?_
  rintro e4 wd3 ⟨A7, n8, c9, rfl, H6⟩
  obtain rfl := (H6.g0).leneq
  refine ⟨_, rfl, ?_⟩
  refine r_len Try.underlying32 rfl ?_
  refine r_pure (.int .i64 0) rfl ?_
  refine r_seq ?_
  refine st_block ?_
  have H15 := H6.add (A := Row K3 (.slice none 0 0) []) Row.nil
  have hlim39 := (H15.g1.rd).lim
  obtain ⟨tl22, hl23, hm21⟩ := bind_some hm
  refine st_loopL (chart_Accounts.l1) (fun ys28 s ρ w => ∃ i24 : Int, ∃ xs19 : List Int, ∃ dn25 : List ByteArray, ∃ A16 : Option Addr, ∃ n17 : Nat, ∃ c18 : Nat, (i24, xs19) = s ∧ y1 = dn25 ++ ys28 ∧ i24 = (dn25.length : Int) ∧ (∃ base, ρ = updl base [(1, .slice A16 n17 c18), (4, .int .i64 (y1.length : Int)), (5, .int .i64 i24)]) ∧ Hp w0 (Row K3 (.slice A16 n17 c18) xs19 :: Γ) w) hl23 ⟨0, ([] : List Int), [], none, 0, 0, rfl, rfl, rfl, upk (ac rfl (ac rfl (ac rfl an))), H15.u1.d⟩ ?_
  rintro m ys28 IH32 s ρ w ⟨i24, xs19, dn25, A16, n17, c18, rfl, hxs26, hi27, ⟨base, rfl⟩, H20⟩ hm
  obtain rfl := (H20.g0).leneq
  rcases ys28 with _ | ⟨y29, ys28⟩
  · rw [chart_Accounts.l1] at hm
    have hb33 := range_end hxs26 hi27
    refine st_seq ?_
    refine st_region ?_
    refine r_pure (.bool (decide (i24 < (y1.length : Int)))) rfl ?_
    refine r_seq ?_
    refine st_seq ?_
    refine st_condf hb33 rfl ?_
    have hq_ := Option.some.inj hm
    refine st_exit rfl ?_
    subst hq_
    refine n_sq ?_
    refine st_seq ?_
    refine st_region ?_
    refine r_pure (.slice A16 xs19.length c18) rfl ?_
    refine r_pure (.slice A16 xs19.length c18) rfl ?_
    refine r_seq ?_
    have hq_ := Option.some.inj hm21
    subst hq_
    refine st_ret1 rfl rfl (Nat.le_of_ble_eq_true rfl) rfl ?_
    exact ⟨A16, xs19.length, c18, rfl, H20⟩
  · rw [chart_Accounts.l1] at hm
    have hb34 := range_in hxs26 hi27
    obtain ⟨h035, h136, hj37⟩ := range_ix hxs26 hi27
    have hnx38 := range_next hxs26 hi27 hlim39
    refine st_seq ?_
    refine st_region ?_
    refine r_pure (.bool (decide (i24 < (y1.length : Int)))) rfl ?_
    refine r_seq ?_
    refine st_seq ?_
    refine st_condt hb34 rfl ?_
    refine st_skip ?_
    refine n_sq ?_
    refine st_cut (fun ρ w => ∃ A40 : Option Addr, ∃ n41 : Nat, ∃ c42 : Nat, ∃ xs43 : List Int, (∃ base, ρ = updl base [(1, .slice A40 n41 c42), (4, .int .i64 (y1.length : Int)), (5, .int .i64 i24)]) ∧ Hp w0 (Row K3 (.slice A40 n41 c42) xs43 :: Γ) w ∧ chart_Accounts.j1 (chart_Accounts.l1 ys28) i24 xs43 = some tl22) ?_ ?_
    · refine st_block ?_
      refine st_seq ?_
      refine st_region ?_
      refine r_pure (.int .i64 i24) rfl ?_
      refine r_pure (.int .i64 i24) rfl ?_
      refine r_seq ?_
      refine st_seq ?_
      refine st_region ?_
      refine r_pure (.int .i64 i24) rfl ?_
      obtain ⟨y45, hy46, hm⟩ := bind_some hm
      refine r_callf Try.call40 (chart_is_ok i24 y45 H20 hy46) ?_
      rintro e48 wd47 ⟨rfl, H50⟩
      refine ⟨_, rfl, ?_⟩
      refine r_seq ?_
      rcases ite_some hm with ⟨hb51, hm⟩ | ⟨hb51, hm⟩
      · refine st_condt hb51 rfl ?_
        refine st_region ?_
        refine r_pure (.slice A16 xs19.length c18) rfl ?_
        refine r_pure (.int .i64 i24) rfl ?_
        refine r_buildSlice (K := K3) [i24] EL29 rfl rfl rfl (by decide) (by decide) rfl H50 ?_
        intro b52 wd54 H53
        obtain ⟨hf55, hm⟩ := gd_some hm
        refine r_append (K := K3) (ys := [i24]) AP29 rfl rfl rfl rfl H53.u1 (((H53.u1).g1).src) (fit_le hf55 (by decide)) ?_
        intro A56 c57 wd58 H59
        refine r_pure (.slice A56 ((xs19 ++ [i24]).length) c57) rfl ?_
        refine r_nil ?_
        refine n_bl ?_
        refine n_cut ⟨A56, (xs19 ++ [i24]).length, c57, xs19 ++ [i24], upk (ac rfl (ac rfl (ac rfl an))), H59.u1.d, hm⟩
      · refine st_condf hb51 rfl ?_
        refine st_skip ?_
        refine n_bl ?_
        refine n_cut ⟨A16, xs19.length, c18, xs19, upk (ac rfl (ac rfl (ac rfl an))), H50, hm⟩
    · rintro ρ w ⟨A40, n41, c42, xs43, ⟨base, rfl⟩, H44, hm⟩
      obtain rfl := (H44.g0).leneq
      unfold chart_Accounts.j1 at hm
      refine st_region ?_
      refine r_pure (.int .i64 (w64 (i24 + 1))) rfl ?_
      refine r_pure (.int .i64 (w64 (i24 + 1))) rfl ?_
      refine r_nil ?_
      refine n_round (IH32 _ _ rfl _ _ _ ⟨i24 + 1, xs43, dn25 ++ [y29], A40, xs43.length, c42, rfl, range_more hxs26, range_len hi27, upk (ac rfl (ac rfl (ac hnx38 an))), H44⟩ hm)

set_option maxHeartbeats 2000000 in
theorem store_Store_Trial_ok {w0 w : World} {Γ : List (World → Prop)} (b1 : Nat) (s_ : store_Store) (A2 : Option Addr) (n7 c3 : Nat) (hn6 : n7 = s_.f_l.length) (hc4 : s_.f_l.length ≤ c3) (ads8 : Nat → Option Addr × Nat) (hv5 : ∀ u, Hp w0 Γ u → SlRN (fun j => KN37 (ads8 j)) 6 A2 s_.f_l u) (hin9 : ∀ j x, s_.f_l[j]? = some x → x.Lines.length ≤ (ads8 j).2 ∧ ∀ u, Hp w0 Γ u → SlR K43 (ads8 j).1 x.Lines u) (hv10 : ∀ u, Hp w0 Γ u → Bx b1 52 [.slice A2 n7 c3] u) (entity : ByteArray) (upto : Int) (r0_ : List api_Line) (H : Hp w0 (Γ) w) (hm : store_Store_Trial s_ entity upto = some r0_) : Calls Try.prog 14 #[.pointer (some ⟨b1, 0, none⟩), .string entity, .int .i64 upto] w (fun e w => ∃ (Ax1 : Option Addr) (nx2 cx3 : Nat), e = .returned (.slice Ax1 nx2 cx3) ∧ Hp w0 (Row K43 (.slice Ax1 nx2 cx3) r0_ :: Γ) w) := by
  subst hn6
  unfold store_Store_Trial at hm
  refine st_enter Try.func14 rfl Try.ntmps14 (Nat.le_of_ble_eq_true rfl) ?_
  refine st_seq ?_
  refine st_region ?_
  refine r_pure (.slice none 0 0) rfl ?_
  refine r_seq ?_
  refine st_seq ?_
  refine st_region ?_
  refine r_pure (.slice none 0 0) rfl ?_
  refine r_seq ?_
  refine st_seq ?_
  refine st_seq ?_
  refine st_region ?_
  obtain ⟨y11, hy12, hm⟩ := bind_some hm
  refine r_callf Try.call31 (chart_Accounts_ok  y11 H hy12) ?_
  rintro e14 wd13 ⟨A17, n18, c19, rfl, H16⟩
  obtain rfl := (H16.g0).leneq
  refine ⟨_, rfl, ?_⟩
  refine r_len Try.underlying29 rfl ?_
  refine r_pure (.int .i64 0) rfl ?_
  refine r_seq ?_
  refine st_block ?_
  have H25 := H16.add (A := Row K43 (.slice none 0 0) []) Row.nil
  have hlim49 := (H25.g1.rd).lim
  obtain ⟨tl32, hl33, hm31⟩ := bind_some hm
  refine st_loopL (store_Store_Trial.l1 s_ entity upto) (fun ys38 s ρ w => ∃ i34 : Int, ∃ xs29 : List api_Line, ∃ dn35 : List Int, ∃ A26 : Option Addr, ∃ n27 : Nat, ∃ c28 : Nat, (i34, xs29) = s ∧ y11 = dn35 ++ ys38 ∧ i34 = (dn35.length : Int) ∧ (∃ base, ρ = updl base [(0, .pointer (some ⟨b1, 0, none⟩)), (1, .string entity), (2, .int .i64 upto), (7, .slice A26 n27 c28), (11, .slice A17 y11.length c19), (12, .int .i64 (y11.length : Int)), (13, .int .i64 i34)]) ∧ Hp w0 (Row K43 (.slice A26 n27 c28) xs29 :: Row K3 (.slice A17 y11.length c19) y11 :: Γ) w) hl33 ⟨0, ([] : List api_Line), [], none, 0, 0, rfl, rfl, rfl, upk (ac rfl (ac rfl (ac rfl (ac rfl (ac rfl (ac rfl (ac rfl an))))))), H25.u1.u1⟩ ?_
  rintro m ys38 IH42 s ρ w ⟨i34, xs29, dn35, A26, n27, c28, rfl, hxs36, hi37, ⟨base, rfl⟩, H30⟩ hm
  obtain rfl := (H30.g0).leneq
  rcases ys38 with _ | ⟨y39, ys38⟩
  · rw [store_Store_Trial.l1] at hm
    have hb43 := range_end hxs36 hi37
    refine st_seq ?_
    refine st_region ?_
    refine r_pure (.bool (decide (i34 < (y11.length : Int)))) rfl ?_
    refine r_seq ?_
    refine st_seq ?_
    refine st_condf hb43 rfl ?_
    have hq_ := Option.some.inj hm
    refine st_exit rfl ?_
    subst hq_
    refine n_sq ?_
    refine st_seq ?_
    refine st_region ?_
    refine r_pure (.slice A26 xs29.length c28) rfl ?_
    refine r_pure (.slice A26 xs29.length c28) rfl ?_
    refine r_seq ?_
    have hq_ := Option.some.inj hm31
    subst hq_
    refine st_ret1 rfl rfl (Nat.le_of_ble_eq_true rfl) rfl ?_
    exact ⟨A26, xs29.length, c28, rfl, H30.u1.d⟩
  · rw [store_Store_Trial.l1] at hm
    have hb44 := range_in hxs36 hi37
    obtain ⟨h045, h146, hj47⟩ := range_ix hxs36 hi37
    have hnx48 := range_next hxs36 hi37 hlim49
    refine st_seq ?_
    refine st_region ?_
    refine r_pure (.bool (decide (i34 < (y11.length : Int)))) rfl ?_
    refine r_seq ?_
    refine st_seq ?_
    refine st_condt hb44 rfl ?_
    refine st_skip ?_
    refine n_sq ?_
    refine st_cut (fun ρ w => ∃ A50 : Option Addr, ∃ n51 : Nat, ∃ c52 : Nat, ∃ xs53 : List api_Line, (∃ base, ρ = updl base [(0, .pointer (some ⟨b1, 0, none⟩)), (1, .string entity), (2, .int .i64 upto), (7, .slice A50 n51 c52), (11, .slice A17 y11.length c19), (12, .int .i64 (y11.length : Int)), (13, .int .i64 i34)]) ∧ Hp w0 (Row K43 (.slice A50 n51 c52) xs53 :: Row K3 (.slice A17 y11.length c19) y11 :: Γ) w ∧ store_Store_Trial.j1 (store_Store_Trial.l1 s_ entity upto ys38) i34 xs53 = some tl32) ?_ ?_
    · refine st_block ?_
      refine st_seq ?_
      refine st_region ?_
      have hA55 := (H30.g1.rd).adO hj47
      refine r_ix IX29 rfl rfl hA55 h045 h146 ?_
      refine r_ld1 (.int .i64 y39) LD3 rfl ((H30.g1.rd).c0A hA55 hj47 _ rfl) ?_
      refine r_pure (.int .i64 y39) rfl ?_
      refine r_seq ?_
      refine st_seq ?_
      refine st_region ?_
      refine r_pure (.pointer (some ⟨b1, 0, none⟩)) rfl ?_
      refine r_pure (.string entity) rfl ?_
      refine r_pure (.int .i64 y39) rfl ?_
      refine r_pure (.int .i64 upto) rfl ?_
      obtain ⟨y56, hy57, hm⟩ := bind_some hm
      refine r_callf Try.call16 (store_Store_Balance_ok b1 (⟨s_.f_l⟩ : store_Store) A2 s_.f_l.length c3 rfl hc4 ads8 (fun _ H => (hv5 _ H.d.d)) (fun j x hj => ⟨(hin9 j x hj).1, fun u H => (hin9 j x hj).2 u H.d.d⟩) (fun _ H => (hv10 _ H.d.d)) entity y39 upto y56 H30 hy57) ?_
      rintro e59 wd58 ⟨rfl, H61⟩
      refine ⟨_, rfl, ?_⟩
      refine r_pure (.int .i64 y56) rfl ?_
      refine r_seq ?_
      refine st_seq ?_
      refine st_region ?_
      refine r_pure (.int .i64 y56) rfl ?_
      refine r_pure (.bool (y56 != 0)) rfl ?_
      refine r_seq ?_
      rcases ite_some hm with ⟨hb62, hm⟩ | ⟨hb62, hm⟩
      · refine st_condt hb62 rfl ?_
        refine st_region ?_
        refine r_pure (.slice A26 xs29.length c28) rfl ?_
        refine r_pure (.int .i64 y39) rfl ?_
        refine r_pure (.int .i64 y56) rfl ?_
        refine r_build [.int .i64 y39, .int .i64 y56] FL43 rfl ?_
        refine r_buildSlice (K := K43) [(⟨y39, y56⟩ : api_Line)] EL34 rfl rfl rfl (by decide) (by decide) rfl H61 ?_
        intro b63 wd65 H64
        obtain ⟨hf66, hm⟩ := gd_some hm
        refine r_append (K := K43) (ys := [(⟨y39, y56⟩ : api_Line)]) AP34 rfl rfl rfl rfl H64.u1 (((H64.u1).g1).src) (fit_le hf66 (by decide)) ?_
        intro A67 c68 wd69 H70
        refine r_pure (.slice A67 ((xs29 ++ [(⟨y39, y56⟩ : api_Line)]).length) c68) rfl ?_
        refine r_nil ?_
        refine n_bl ?_
        refine n_cut ⟨A67, (xs29 ++ [(⟨y39, y56⟩ : api_Line)]).length, c68, xs29 ++ [(⟨y39, y56⟩ : api_Line)], upk (ac rfl (ac rfl (ac rfl (ac rfl (ac rfl (ac rfl (ac rfl an))))))), H70.u1.d.u1.u1, hm⟩
      · refine st_condf hb62 rfl ?_
        refine st_skip ?_
        refine n_bl ?_
        refine n_cut ⟨A26, xs29.length, c28, xs29, upk (ac rfl (ac rfl (ac rfl (ac rfl (ac rfl (ac rfl (ac rfl an))))))), H61.u1.u1, hm⟩
    · rintro ρ w ⟨A50, n51, c52, xs53, ⟨base, rfl⟩, H54, hm⟩
      obtain rfl := (H54.g0).leneq
      unfold store_Store_Trial.j1 at hm
      refine st_region ?_
      refine r_pure (.int .i64 (w64 (i34 + 1))) rfl ?_
      refine r_pure (.int .i64 (w64 (i34 + 1))) rfl ?_
      refine r_nil ?_
      refine n_round (IH42 _ _ rfl _ _ _ ⟨i34 + 1, xs53, dn35 ++ [y39], A50, xs53.length, c52, rfl, range_more hxs36, range_len hi37, upk (ac rfl (ac rfl (ac rfl (ac rfl (ac rfl (ac rfl (ac hnx48 an))))))), H54.u1.u1⟩ hm)

set_option maxHeartbeats 2000000 in
theorem scutageref01_Store_Trial_ok {w0 w : World} {Γ : List (World → Prop)} (b1 : Nat) (s_ : scutageref01_Store) (A2 : Option Addr) (n7 c3 : Nat) (hn6 : n7 = s_.f_J.length) (hc4 : s_.f_J.length ≤ c3) (ads8 : Nat → Option Addr × Nat) (hv5 : ∀ u, Hp w0 Γ u → SlRN (fun j => KN37 (ads8 j)) 6 A2 s_.f_J u) (hin9 : ∀ j x, s_.f_J[j]? = some x → x.Lines.length ≤ (ads8 j).2 ∧ ∀ u, Hp w0 Γ u → SlR K43 (ads8 j).1 x.Lines u) (hv10 : ∀ u, Hp w0 Γ u → Bx b1 28 [.slice A2 n7 c3] u) (entity : ByteArray) (upto : Int) (r0_ : List api_Line) (H : Hp w0 (Γ) w) (hm : scutageref01_Store_Trial s_ entity upto = some r0_) : Calls Try.prog 15 #[.pointer (some ⟨b1, 0, none⟩), .string entity, .int .i64 upto] w (fun e w => ∃ (Ax1 : Option Addr) (nx2 cx3 : Nat), e = .returned (.slice Ax1 nx2 cx3) ∧ Hp w0 (Row K43 (.slice Ax1 nx2 cx3) r0_ :: Γ) w) := by
  subst hn6
  unfold scutageref01_Store_Trial at hm
  refine st_enter Try.func15 rfl Try.ntmps15 (Nat.le_of_ble_eq_true rfl) ?_
  refine st_seq ?_
  refine st_region ?_
  refine r_pure (.slice none 0 0) rfl ?_
  refine r_seq ?_
  refine st_seq ?_
  refine st_region ?_
  refine r_pure (.pointer (some ⟨b1, 0, none⟩)) rfl ?_
  refine r_pure (.string entity) rfl ?_
  refine r_pure (.int .i64 upto) rfl ?_
  obtain ⟨y11, hy12, hm⟩ := bind_some hm
  refine r_callf Try.call29 (scutageref01_Store_all_ok b1 (⟨s_.f_J⟩ : scutageref01_Store) A2 s_.f_J.length c3 rfl hc4 ads8 (fun _ H => (hv5 _ H)) (fun j x hj => ⟨(hin9 j x hj).1, fun u H => (hin9 j x hj).2 u H⟩) (fun _ H => (hv10 _ H)) entity upto y11 H hy12) ?_
  rintro e14 wd13 ⟨A17, n18, c19, rfl, H16⟩
  obtain rfl := (H16.g0).leneq
  refine ⟨_, rfl, ?_⟩
  obtain ⟨y20, hy21, hm⟩ := bind_some hm
  refine r_callf Try.call28 (scutageref01_Merge_ok y11 A17 y11.length c19 rfl (((H16).g0).cap) (fun _ H => (H.g0.rd)) y20 H16 hy21) ?_
  rintro e23 wd22 ⟨A26, n27, c28, rfl, H25⟩
  obtain rfl := (H25.g0).leneq
  refine ⟨_, rfl, ?_⟩
  refine r_pure (.slice A26 y20.length c28) rfl ?_
  refine r_seq ?_
  have hq_ := Option.some.inj hm
  subst hq_
  refine st_ret1 rfl rfl (Nat.le_of_ble_eq_true rfl) rfl ?_
  exact ⟨A26, y20.length, c28, rfl, H25.u1.d⟩


end Go.Proofs.Ytdhekpodgemneaa
