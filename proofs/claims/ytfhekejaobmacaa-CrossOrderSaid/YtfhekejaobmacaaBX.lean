/- The Go functions come to their models: printed by gen.py. -/
import Derived.Test.YtfhekejaobmacaaBX0
set_option linter.unusedVariables false
set_option linter.unusedSimpArgs false
set_option maxRecDepth 100000
namespace Go.Proofs.Ytfhekejaobmacaa
open Go Go.RowKit
attribute [local irreducible] W R N L Hp Row SlR Bx MpP MpE MpW

set_option maxHeartbeats 2000000 in
theorem scutagelaw24_CrossOrder_ok {w0 w : World} {Γ : List (World → Prop)} (l_ : List scutagelaw24_Act) (A1 : Option Addr) (n6 c2 : Nat) (hn5 : n6 = l_.length) (hc3 : l_.length ≤ c2) (hv4 : ∀ u, Hp w0 Γ u → SlR K28 A1 l_ u) (r0_ : Bool) (H : Hp w0 (Γ) w) (hm : scutagelaw24_CrossOrder l_ = some r0_) : Calls Try.prog 3 #[.slice A1 n6 c2] w (fun e w => e = .returned (.bool r0_) ∧ Hp w0 (Γ) w) := by
  subst hn5
  unfold scutagelaw24_CrossOrder at hm
  refine st_enter Try.func3 rfl Try.ntmps3 (Nat.le_of_ble_eq_true rfl) ?_
  refine st_seq ?_
  refine st_region ?_
  refine r_pure (.bool false) rfl ?_
  refine r_seq ?_
  refine st_seq ?_
  refine st_region ?_
  obtain ⟨y7, hy8, hm⟩ := bind_some hm
  refine r_callf Try.call5 (cross_New_ok  y7 H hy8) ?_
  rintro e10 wd9 ⟨b13, A14, n15, c16, rfl, H12⟩
  obtain rfl := (H12.g1).leneq
  refine ⟨_, rfl, ?_⟩
  obtain ⟨y17, hy18, hm⟩ := bind_some hm
  refine r_callf Try.call5 (cross_New_ok  y17 H12 hy18) ?_
  rintro e20 wd19 ⟨b23, A24, n25, c26, rfl, H22⟩
  obtain rfl := (H22.g1).leneq
  refine ⟨_, rfl, ?_⟩
  refine r_pure (.pointer (some ⟨b13, 0, none⟩)) rfl ?_
  refine r_pure (.pointer (some ⟨b23, 0, none⟩)) rfl ?_
  refine r_seq ?_
  refine st_seq ?_
  refine st_seq ?_
  refine st_region ?_
  refine r_pure (.pointer (some ⟨b13, 0, none⟩)) rfl ?_
  refine r_eqn Try.underlying23 rfl rfl ?_
  refine r_pure (.bool false) rfl ?_
  refine r_pure (.pointer (some ⟨b23, 0, none⟩)) rfl ?_ (wn_t rfl rfl (by decide) rfl rfl)
  refine r_eqn Try.underlying23 rfl rfl ?_ (wn_t rfl rfl (by decide) rfl rfl)
  refine r_pick_f (.bool false) rfl rfl rfl ?_
  refine r_seq ?_
  refine st_condf rfl rfl ?_
  refine st_skip ?_
  refine n_sq ?_
  refine st_seq ?_
  refine st_region ?_
  refine r_makeMapP MT25 H22 ?_
  intro b27 wd29 H28
  refine r_pure (.map (some b27)) rfl ?_
  refine r_seq ?_
  refine st_seq ?_
  refine st_region ?_
  refine r_pure (.slice A1 l_.length c2) rfl ?_
  refine r_len Try.underlying22 rfl ?_
  refine r_min rfl rfl ?_
  refine r_pure (.int .i64 (mn (l_.length : Int) 8)) rfl ?_
  refine r_seq ?_
  refine st_seq ?_
  refine st_seq ?_
  refine st_region ?_
  refine r_pure (.int .i64 0) rfl ?_
  refine r_seq ?_
  refine st_block ?_
  obtain ⟨tl52, hl53, hm51⟩ := bind_some hm
  refine st_loopF (scutagelaw24_CrossOrder.l1 l_) (fun s ρ w => ∃ xs43 : List cross_Row, ∃ xs47 : List cross_Row, ∃ mm48 : List ((ByteArray × ByteArray) × Int), ∃ v49 : Int, ∃ A40 : Option Addr, ∃ n41 : Nat, ∃ c42 : Nat, ∃ A44 : Option Addr, ∃ n45 : Nat, ∃ c46 : Nat, (xs43, xs47, mm48, v49) = s ∧ (∃ base, ρ = updl base [(0, .slice A1 l_.length c2), (3, .pointer (some ⟨b13, 0, none⟩)), (4, .pointer (some ⟨b23, 0, none⟩)), (5, .map (some b27)), (6, .int .i64 (mn (l_.length : Int) 8)), (7, .int .i64 v49)]) ∧ Hp w0 (Row K38 (.slice A40 n41 c42) xs43 :: Bx b13 53 [.slice A40 n41 c42] :: Row K38 (.slice A44 n45 c46) xs47 :: Bx b23 53 [.slice A44 n45 c46] :: MpP ME25 b27 mm48 :: Γ) w) hl53 (fun _ => rfl) ⟨y7.f_l, y17.f_l, ([] : List ((ByteArray × ByteArray) × Int)), 0, A14, y7.f_l.length, c16, A24, y17.f_l.length, c26, rfl, upk (ac rfl (ac rfl (ac rfl (ac rfl (ac rfl (ac rfl an)))))), H28.u1.u2.u3.u4⟩ ?_
  rintro fuel59 IH61 s ρ w ⟨xs43, xs47, mm48, v49, A40, n41, c42, A44, n45, c46, rfl, ⟨base, rfl⟩, H50⟩ hm
  obtain rfl := (H50.g0).leneq
  obtain rfl := (H50.g2).leneq
  rw [scutagelaw24_CrossOrder.l1] at hm
  refine st_seq ?_
  refine st_seq ?_
  refine st_region ?_
  refine r_pure (.int .i64 v49) rfl ?_
  refine r_pure (.int .i64 (mn (l_.length : Int) 8)) rfl ?_
  refine r_pure (.bool (decide (v49 < mn (l_.length : Int) 8))) rfl ?_
  refine r_seq ?_
  rcases ite_some hm with ⟨hb62, hm⟩ | ⟨hb62, hm⟩
  · refine st_condt hb62 rfl ?_
    refine st_skip ?_
    refine n_sq ?_
    refine st_seq ?_
    refine st_block ?_
    refine st_seq ?_
    refine st_region ?_
    refine r_pure (.pointer (some ⟨b13, 0, none⟩)) rfl ?_
    refine r_pure (.pointer (some ⟨b23, 0, none⟩)) rfl ?_
    refine r_buildSlice (K := (Kr 23 1 (by decide))) [(⟨[.pointer (some ⟨b13, 0, none⟩)], rfl, rfl⟩ : Raw 1), (⟨[.pointer (some ⟨b23, 0, none⟩)], rfl, rfl⟩ : Raw 1)] EL26 rfl rfl rfl (by decide) (by decide) rfl H50 ?_
    intro b63 wd65 H64
    refine r_len Try.underlying26 rfl ?_
    refine r_pure (.int .i64 0) rfl ?_
    refine r_seq ?_
    refine st_block ?_
    refine st_loop 3 ?_
    refine l_round ?_
    refine st_seq ?_
    refine st_region ?_
    refine r_pure (.bool (decide (0 < 2))) rfl ?_
    refine r_seq ?_
    refine st_seq ?_
    refine st_condt (by decide) rfl ?_
    refine st_skip ?_
    refine n_sq ?_
    refine st_seq ?_
    refine st_block ?_
    refine st_seq ?_
    refine st_region ?_
    refine r_pure (.int .i64 0) rfl ?_
    refine r_ix IX26 rfl rfl rfl (by decide) (by decide) ?_
    refine r_ld1 (.pointer (some ⟨b13, 0, none⟩)) LD23 rfl ((H64.g0.rd).c0A rfl (show ([(⟨[.pointer (some ⟨b13, 0, none⟩)], rfl, rfl⟩ : Raw 1), (⟨[.pointer (some ⟨b23, 0, none⟩)], rfl, rfl⟩ : Raw 1)])[Int.toNat 0]? = some _ from rfl) _ rfl) ?_
    refine r_pure (.int .i64 0) rfl ?_
    refine r_pure (.pointer (some ⟨b13, 0, none⟩)) rfl ?_
    refine r_seq ?_
    refine st_seq ?_
    refine st_region ?_
    refine r_pure (.slice A1 l_.length c2) rfl ?_
    refine r_pure (.int .i64 v49) rfl ?_
    obtain ⟨⟨h066, h167⟩, hm⟩ := gd_some hm
    have hj68 := rd_get h066 h167
    have hA69 := (hv4 _ H64.d.d.d.d.d.d).adO hj68
    refine r_ix IX22 rfl rfl hA69 h066 h167 ?_
    refine r_ldA [.int .i64 ((rd l_ v49).Seller), .int .i64 ((rd l_ v49).Buyer), .int .i64 ((rd l_ v49).f_N)] LD28 rfl rfl ((hv4 _ H64.d.d.d.d.d.d).csA hA69 hj68) ?_
    refine r_alloc [.int .i64 0, .int .i64 0, .int .i64 0] Try.zeroValue28 H64 rfl ?_
    intro b70 wd72 H71
    refine r_stA [.int .i64 ((rd l_ v49).Seller), .int .i64 ((rd l_ v49).Buyer), .int .i64 ((rd l_ v49).f_N)] LD28 rfl rfl rfl rfl H71 (Nat.le_of_ble_eq_true rfl) rfl ?_
    intro wd74 H73
    refine r_seq ?_
    refine st_seq ?_
    refine st_seq ?_
    refine st_region ?_
    refine r_pure (.int .i64 0) rfl ?_
    refine r_pure (.bool (0 == 1)) rfl ?_
    refine r_seq ?_
    refine st_condf (by decide) rfl ?_
    refine st_skip ?_
    refine n_sq ?_
    refine st_seq ?_
    obtain ⟨y79, hy80, hm⟩ := bind_some hm
    obtain ⟨⟨h085, h186⟩, hm⟩ := gd_some hm
    have hj87 := rd_get h085 h186
    obtain ⟨y91, hy92, hm⟩ := bind_some hm
    obtain ⟨⟨h097, h198⟩, hm⟩ := gd_some hm
    have hj99 := rd_get h097 h198
    refine Flow.run' RA3_15 RW3_15 [(fun η75 v => v.1 = .slice (some ⟨(oA (vA (v.1))).block, 0, none⟩) 3 3), (fun η75 v => v.1 = .pointer (some ⟨b70, 0, none⟩)), (fun η75 v => v.1 = .int .i64 ((rd l_ v49).Seller)), (fun η75 v => v.1 = .int .i64 y79), (fun η75 v => v.1 = .pointer (some ((⟨(oA (vA ((η75 0).1))).block, 0, none⟩ : Addr).add (Int.toNat y79 * 1)))), (fun η75 v => v.1 = .string (rd [(⟨#[112]⟩ : ByteArray), (⟨#[113]⟩ : ByteArray), (⟨#[114]⟩ : ByteArray)] y79)), (fun η75 v => v.1 = .slice (some ⟨(oA (vA (v.1))).block, 0, none⟩) 2 2), (fun η75 v => v.1 = .pointer (some ⟨b70, 1, none⟩)), (fun η75 v => v.1 = .int .i64 ((rd l_ v49).Buyer)), (fun η75 v => v.1 = .int .i64 y91), (fun η75 v => v.1 = .pointer (some ((⟨(oA (vA ((η75 6).1))).block, 0, none⟩ : Addr).add (Int.toNat y91 * 1)))), (fun η75 v => v.1 = .string (rd [(⟨#[117]⟩ : ByteArray), (⟨#[118]⟩ : ByteArray)] y91)), (fun η75 v => v.1 = .string (rd [(⟨#[112]⟩ : ByteArray), (⟨#[113]⟩ : ByteArray), (⟨#[114]⟩ : ByteArray)] y79)), (fun η75 v => v.1 = .string (rd [(⟨#[117]⟩ : ByteArray), (⟨#[118]⟩ : ByteArray)] y91))] [⟨(some 0), none, fun η75 => Row K9 (.slice (some ⟨(oA (vA ((η75 0).1))).block, 0, none⟩) 3 3) [(⟨#[112]⟩ : ByteArray), (⟨#[113]⟩ : ByteArray), (⟨#[114]⟩ : ByteArray)]⟩, ⟨(some 6), none, fun η75 => Row K9 (.slice (some ⟨(oA (vA ((η75 6).1))).block, 0, none⟩) 2 2) [(⟨#[117]⟩ : ByteArray), (⟨#[118]⟩ : ByteArray)]⟩] rfl (by kernel_rfl) (by kernel_rfl) H73 ⟨?_, ?_, ?_, ?_, ?_, ?_, ?_, ?_, ?_, ?_, ?_, ?_, ?_, ?_, trivial⟩ ?_
    · intro η75 wd104 Δ105 hE100 hR101 hA102 H103
      have H103 : Hp w0 ((Δ105 ++ (Bx b70 28 [.int .i64 ((rd l_ v49).Seller), .int .i64 ((rd l_ v49).Buyer), .int .i64 ((rd l_ v49).f_N)] :: Row (Kr 23 1 (by decide)) (.slice (some ⟨b63, 0, none⟩) 2 2) [(⟨[.pointer (some ⟨b13, 0, none⟩)], rfl, rfl⟩ : Raw 1), (⟨[.pointer (some ⟨b23, 0, none⟩)], rfl, rfl⟩ : Raw 1)] :: Row K38 (.slice A40 xs43.length c42) xs43 :: Bx b13 53 [.slice A40 xs43.length c42] :: Row K38 (.slice A44 xs47.length c46) xs47 :: Bx b23 53 [.slice A44 xs47.length c46] :: MpP ME25 b27 mm48 :: Γ))) wd104 := H103
      refine sp_op [] an ?_
      refine r_buildSliceF (K := K9) [(⟨#[112]⟩ : ByteArray), (⟨#[113]⟩ : ByteArray), (⟨#[114]⟩ : ByteArray)] EL29 rfl rfl rfl (by decide) (by decide) ⟨rfl, rfl, ⟨rfl, rfl, ⟨rfl, rfl, trivial⟩⟩⟩ H103 ?_
      intro b106 wd108 H107
      exact r_nil (n_lp ⟨_, rfl, (.tuple #[.slice (some ⟨b106, 0, none⟩) 3 3]), rfl, H107⟩)
    · intro η75 wd113 Δ114 hE109 hR110 hA111 H112
      refine sp_op [(10, .pointer (some ⟨b70, 0, none⟩))] (ac rfl an) ?_
      refine r_fa FA28_0 ⟨b70, 0, none⟩ rfl rfl ?_
      exact r_nil (n_lp ⟨_, rfl, undef, rfl, H112⟩)
    · intro η75 wd119 Δ120 hE115 hR116 hA117 H118
      have H118 : Hp w0 ((Δ120 ++ (Bx b70 28 [.int .i64 ((rd l_ v49).Seller), .int .i64 ((rd l_ v49).Buyer), .int .i64 ((rd l_ v49).f_N)] :: Row (Kr 23 1 (by decide)) (.slice (some ⟨b63, 0, none⟩) 2 2) [(⟨[.pointer (some ⟨b13, 0, none⟩)], rfl, rfl⟩ : Raw 1), (⟨[.pointer (some ⟨b23, 0, none⟩)], rfl, rfl⟩ : Raw 1)] :: Row K38 (.slice A40 xs43.length c42) xs43 :: Bx b13 53 [.slice A40 xs43.length c42] :: Row K38 (.slice A44 xs47.length c46) xs47 :: Bx b23 53 [.slice A44 xs47.length c46] :: MpP ME25 b27 mm48 :: Γ))) wd119 := H118
      refine sp_op [(61, .pointer (some ⟨b70, 0, none⟩))] (ac (hE115 1 (by decide)) an) ?_
      refine r_ld1 (.int .i64 ((rd l_ v49).Seller)) LD3 rfl (((H118).tl.g0).cell _ rfl) ?_
      exact r_nil (n_lp ⟨_, rfl, undef, rfl, H118⟩)
    · intro η75 wd125 Δ126 hE121 hR122 hA123 H124
      have H124 : Hp w0 ((Δ126 ++ (Bx b70 28 [.int .i64 ((rd l_ v49).Seller), .int .i64 ((rd l_ v49).Buyer), .int .i64 ((rd l_ v49).f_N)] :: Row (Kr 23 1 (by decide)) (.slice (some ⟨b63, 0, none⟩) 2 2) [(⟨[.pointer (some ⟨b13, 0, none⟩)], rfl, rfl⟩ : Raw 1), (⟨[.pointer (some ⟨b23, 0, none⟩)], rfl, rfl⟩ : Raw 1)] :: Row K38 (.slice A40 xs43.length c42) xs43 :: Bx b13 53 [.slice A40 xs43.length c42] :: Row K38 (.slice A44 xs47.length c46) xs47 :: Bx b23 53 [.slice A44 xs47.length c46] :: MpP ME25 b27 mm48 :: Γ))) wd125 := H124
      refine sp_op [(62, .int .i64 ((rd l_ v49).Seller))] (ac (hE121 2 (by decide)) an) ?_
      refine r_callf Try.call6 (scutagekeep_Within_ok ((rd l_ v49).Seller) 3 y79 H124 hy80) ?_
      rintro e130 wd129 ⟨rfl, H132⟩
      refine ⟨_, rfl, ?_⟩
      exact r_nil (n_lp ⟨_, rfl, undef, rfl, H132⟩)
    · intro η75 wd137 Δ138 hE133 hR134 hA135 H136
      have H136 : Hp w0 ((Δ138 ++ (Bx b70 28 [.int .i64 ((rd l_ v49).Seller), .int .i64 ((rd l_ v49).Buyer), .int .i64 ((rd l_ v49).f_N)] :: Row (Kr 23 1 (by decide)) (.slice (some ⟨b63, 0, none⟩) 2 2) [(⟨[.pointer (some ⟨b13, 0, none⟩)], rfl, rfl⟩ : Raw 1), (⟨[.pointer (some ⟨b23, 0, none⟩)], rfl, rfl⟩ : Raw 1)] :: Row K38 (.slice A40 xs43.length c42) xs43 :: Bx b13 53 [.slice A40 xs43.length c42] :: Row K38 (.slice A44 xs47.length c46) xs47 :: Bx b23 53 [.slice A44 xs47.length c46] :: MpP ME25 b27 mm48 :: Γ))) wd137 := H136
      refine sp_op [(60, .slice (some ⟨(oA (vA ((η75 0).1))).block, 0, none⟩) 3 3), (63, .int .i64 y79)] (ac (hE133 0 (by decide)) (ac (hE133 3 (by decide)) an)) ?_
      refine r_ix IX29 rfl rfl rfl h085 (by have h1_ := ((show (Row K9 (.slice (some ⟨(oA (vA ((η75 0).1))).block, 0, none⟩) 3 3) [(⟨#[112]⟩ : ByteArray), (⟨#[113]⟩ : ByteArray), (⟨#[114]⟩ : ByteArray)]) _ from (H136).memr (hR134 _ (List.mem_of_getElem? (i := 0) rfl) rfl))).leneq; have h2_ := h186; rw [← h1_] at h2_; exact h2_) ?_
      exact r_nil (n_lp ⟨_, rfl, undef, rfl, H136⟩)
    · intro η75 wd146 Δ147 hE142 hR143 hA144 H145
      have H145 : Hp w0 ((Δ147 ++ (Bx b70 28 [.int .i64 ((rd l_ v49).Seller), .int .i64 ((rd l_ v49).Buyer), .int .i64 ((rd l_ v49).f_N)] :: Row (Kr 23 1 (by decide)) (.slice (some ⟨b63, 0, none⟩) 2 2) [(⟨[.pointer (some ⟨b13, 0, none⟩)], rfl, rfl⟩ : Raw 1), (⟨[.pointer (some ⟨b23, 0, none⟩)], rfl, rfl⟩ : Raw 1)] :: Row K38 (.slice A40 xs43.length c42) xs43 :: Bx b13 53 [.slice A40 xs43.length c42] :: Row K38 (.slice A44 xs47.length c46) xs47 :: Bx b23 53 [.slice A44 xs47.length c46] :: MpP ME25 b27 mm48 :: Γ))) wd146 := H145
      refine sp_op [(64, .pointer (some ((⟨(oA (vA ((η75 0).1))).block, 0, none⟩ : Addr).add (Int.toNat y79 * 1))))] (ac (hE142 4 (by decide)) an) ?_
      refine r_ld1 (.string (rd [(⟨#[112]⟩ : ByteArray), (⟨#[113]⟩ : ByteArray), (⟨#[114]⟩ : ByteArray)] y79)) LD9 rfl (((show (Row K9 (.slice (some ⟨(oA (vA ((η75 0).1))).block, 0, none⟩) 3 3) [(⟨#[112]⟩ : ByteArray), (⟨#[113]⟩ : ByteArray), (⟨#[114]⟩ : ByteArray)]) _ from (H145).memr (hR143 _ (List.mem_of_getElem? (i := 0) rfl) rfl)).rd).c0A rfl hj87 _ rfl) ?_
      exact r_nil (n_lp ⟨_, rfl, undef, rfl, H145⟩)
    · intro η75 wd152 Δ153 hE148 hR149 hA150 H151
      have H151 : Hp w0 ((Δ153 ++ (Bx b70 28 [.int .i64 ((rd l_ v49).Seller), .int .i64 ((rd l_ v49).Buyer), .int .i64 ((rd l_ v49).f_N)] :: Row (Kr 23 1 (by decide)) (.slice (some ⟨b63, 0, none⟩) 2 2) [(⟨[.pointer (some ⟨b13, 0, none⟩)], rfl, rfl⟩ : Raw 1), (⟨[.pointer (some ⟨b23, 0, none⟩)], rfl, rfl⟩ : Raw 1)] :: Row K38 (.slice A40 xs43.length c42) xs43 :: Bx b13 53 [.slice A40 xs43.length c42] :: Row K38 (.slice A44 xs47.length c46) xs47 :: Bx b23 53 [.slice A44 xs47.length c46] :: MpP ME25 b27 mm48 :: Γ))) wd152 := H151
      refine sp_op [] an ?_
      refine r_buildSlice (K := K9) [(⟨#[117]⟩ : ByteArray), (⟨#[118]⟩ : ByteArray)] EL29 rfl rfl rfl (by decide) (by decide) rfl H151 ?_
      intro b154 wd156 H155
      exact r_nil (n_lp ⟨_, rfl, (.tuple #[.slice (some ⟨b154, 0, none⟩) 2 2]), rfl, H155⟩)
    · intro η75 wd161 Δ162 hE157 hR158 hA159 H160
      refine sp_op [(10, .pointer (some ⟨b70, 0, none⟩))] (ac rfl an) ?_
      refine r_fa FA28_1 ⟨b70, 1, none⟩ rfl rfl ?_
      exact r_nil (n_lp ⟨_, rfl, undef, rfl, H160⟩)
    · intro η75 wd167 Δ168 hE163 hR164 hA165 H166
      have H166 : Hp w0 ((Δ168 ++ (Bx b70 28 [.int .i64 ((rd l_ v49).Seller), .int .i64 ((rd l_ v49).Buyer), .int .i64 ((rd l_ v49).f_N)] :: Row (Kr 23 1 (by decide)) (.slice (some ⟨b63, 0, none⟩) 2 2) [(⟨[.pointer (some ⟨b13, 0, none⟩)], rfl, rfl⟩ : Raw 1), (⟨[.pointer (some ⟨b23, 0, none⟩)], rfl, rfl⟩ : Raw 1)] :: Row K38 (.slice A40 xs43.length c42) xs43 :: Bx b13 53 [.slice A40 xs43.length c42] :: Row K38 (.slice A44 xs47.length c46) xs47 :: Bx b23 53 [.slice A44 xs47.length c46] :: MpP ME25 b27 mm48 :: Γ))) wd167 := H166
      refine sp_op [(67, .pointer (some ⟨b70, 1, none⟩))] (ac (hE163 7 (by decide)) an) ?_
      refine r_ld1 (.int .i64 ((rd l_ v49).Buyer)) LD3 rfl (((H166).tl.g0).cell _ rfl) ?_
      exact r_nil (n_lp ⟨_, rfl, undef, rfl, H166⟩)
    · intro η75 wd173 Δ174 hE169 hR170 hA171 H172
      have H172 : Hp w0 ((Δ174 ++ (Bx b70 28 [.int .i64 ((rd l_ v49).Seller), .int .i64 ((rd l_ v49).Buyer), .int .i64 ((rd l_ v49).f_N)] :: Row (Kr 23 1 (by decide)) (.slice (some ⟨b63, 0, none⟩) 2 2) [(⟨[.pointer (some ⟨b13, 0, none⟩)], rfl, rfl⟩ : Raw 1), (⟨[.pointer (some ⟨b23, 0, none⟩)], rfl, rfl⟩ : Raw 1)] :: Row K38 (.slice A40 xs43.length c42) xs43 :: Bx b13 53 [.slice A40 xs43.length c42] :: Row K38 (.slice A44 xs47.length c46) xs47 :: Bx b23 53 [.slice A44 xs47.length c46] :: MpP ME25 b27 mm48 :: Γ))) wd173 := H172
      refine sp_op [(68, .int .i64 ((rd l_ v49).Buyer))] (ac (hE169 8 (by decide)) an) ?_
      refine r_callf Try.call6 (scutagekeep_Within_ok ((rd l_ v49).Buyer) 2 y91 H172 hy92) ?_
      rintro e178 wd177 ⟨rfl, H180⟩
      refine ⟨_, rfl, ?_⟩
      exact r_nil (n_lp ⟨_, rfl, undef, rfl, H180⟩)
    · intro η75 wd185 Δ186 hE181 hR182 hA183 H184
      have H184 : Hp w0 ((Δ186 ++ (Bx b70 28 [.int .i64 ((rd l_ v49).Seller), .int .i64 ((rd l_ v49).Buyer), .int .i64 ((rd l_ v49).f_N)] :: Row (Kr 23 1 (by decide)) (.slice (some ⟨b63, 0, none⟩) 2 2) [(⟨[.pointer (some ⟨b13, 0, none⟩)], rfl, rfl⟩ : Raw 1), (⟨[.pointer (some ⟨b23, 0, none⟩)], rfl, rfl⟩ : Raw 1)] :: Row K38 (.slice A40 xs43.length c42) xs43 :: Bx b13 53 [.slice A40 xs43.length c42] :: Row K38 (.slice A44 xs47.length c46) xs47 :: Bx b23 53 [.slice A44 xs47.length c46] :: MpP ME25 b27 mm48 :: Γ))) wd185 := H184
      refine sp_op [(66, .slice (some ⟨(oA (vA ((η75 6).1))).block, 0, none⟩) 2 2), (69, .int .i64 y91)] (ac (hE181 6 (by decide)) (ac (hE181 9 (by decide)) an)) ?_
      refine r_ix IX29 rfl rfl rfl h097 (by have h1_ := ((show (Row K9 (.slice (some ⟨(oA (vA ((η75 6).1))).block, 0, none⟩) 2 2) [(⟨#[117]⟩ : ByteArray), (⟨#[118]⟩ : ByteArray)]) _ from (H184).memr (hR182 _ (List.mem_of_getElem? (i := 1) rfl) rfl))).leneq; have h2_ := h198; rw [← h1_] at h2_; exact h2_) ?_
      exact r_nil (n_lp ⟨_, rfl, undef, rfl, H184⟩)
    · intro η75 wd194 Δ195 hE190 hR191 hA192 H193
      have H193 : Hp w0 ((Δ195 ++ (Bx b70 28 [.int .i64 ((rd l_ v49).Seller), .int .i64 ((rd l_ v49).Buyer), .int .i64 ((rd l_ v49).f_N)] :: Row (Kr 23 1 (by decide)) (.slice (some ⟨b63, 0, none⟩) 2 2) [(⟨[.pointer (some ⟨b13, 0, none⟩)], rfl, rfl⟩ : Raw 1), (⟨[.pointer (some ⟨b23, 0, none⟩)], rfl, rfl⟩ : Raw 1)] :: Row K38 (.slice A40 xs43.length c42) xs43 :: Bx b13 53 [.slice A40 xs43.length c42] :: Row K38 (.slice A44 xs47.length c46) xs47 :: Bx b23 53 [.slice A44 xs47.length c46] :: MpP ME25 b27 mm48 :: Γ))) wd194 := H193
      refine sp_op [(70, .pointer (some ((⟨(oA (vA ((η75 6).1))).block, 0, none⟩ : Addr).add (Int.toNat y91 * 1))))] (ac (hE190 10 (by decide)) an) ?_
      refine r_ld1 (.string (rd [(⟨#[117]⟩ : ByteArray), (⟨#[118]⟩ : ByteArray)] y91)) LD9 rfl (((show (Row K9 (.slice (some ⟨(oA (vA ((η75 6).1))).block, 0, none⟩) 2 2) [(⟨#[117]⟩ : ByteArray), (⟨#[118]⟩ : ByteArray)]) _ from (H193).memr (hR191 _ (List.mem_of_getElem? (i := 1) rfl) rfl)).rd).c0A rfl hj99 _ rfl) ?_
      exact r_nil (n_lp ⟨_, rfl, undef, rfl, H193⟩)
    · intro η75 wd200 Δ201 hE196 hR197 hA198 H199
      refine sp_op [(65, .string (rd [(⟨#[112]⟩ : ByteArray), (⟨#[113]⟩ : ByteArray), (⟨#[114]⟩ : ByteArray)] y79))] (ac (hE196 5 (by decide)) an) ?_
      refine r_pure (.string (rd [(⟨#[112]⟩ : ByteArray), (⟨#[113]⟩ : ByteArray), (⟨#[114]⟩ : ByteArray)] y79)) rfl ?_
      exact r_nil (n_lp ⟨_, rfl, undef, rfl, H199⟩)
    · intro η75 wd206 Δ207 hE202 hR203 hA204 H205
      refine sp_op [(71, .string (rd [(⟨#[117]⟩ : ByteArray), (⟨#[118]⟩ : ByteArray)] y91))] (ac (hE202 11 (by decide)) an) ?_
      refine r_pure (.string (rd [(⟨#[117]⟩ : ByteArray), (⟨#[118]⟩ : ByteArray)] y91)) rfl ?_
      exact r_nil (n_lp ⟨_, rfl, undef, rfl, H205⟩)
    · intro η75 wd209 hV210 H208
      have H211 : Hp w0 (Bx b70 28 [.int .i64 ((rd l_ v49).Seller), .int .i64 ((rd l_ v49).Buyer), .int .i64 ((rd l_ v49).f_N)] :: Row (Kr 23 1 (by decide)) (.slice (some ⟨b63, 0, none⟩) 2 2) [(⟨[.pointer (some ⟨b13, 0, none⟩)], rfl, rfl⟩ : Raw 1), (⟨[.pointer (some ⟨b23, 0, none⟩)], rfl, rfl⟩ : Raw 1)] :: Row K38 (.slice A40 xs43.length c42) xs43 :: Bx b13 53 [.slice A40 xs43.length c42] :: Row K38 (.slice A44 xs47.length c46) xs47 :: Bx b23 53 [.slice A44 xs47.length c46] :: MpP ME25 b27 mm48 :: Γ) wd209 := H208.d.d
      refine n_frame [(0, .slice A1 l_.length c2), (3, .pointer (some ⟨b13, 0, none⟩)), (4, .pointer (some ⟨b23, 0, none⟩)), (5, .map (some b27)), (6, .int .i64 (mn (l_.length : Int) 8)), (7, .int .i64 v49), (8, .int .i64 0), (9, .pointer (some ⟨b13, 0, none⟩)), (10, .pointer (some ⟨b70, 0, none⟩)), (11, .string (rd [(⟨#[112]⟩ : ByteArray), (⟨#[113]⟩ : ByteArray), (⟨#[114]⟩ : ByteArray)] y79)), (12, .string (rd [(⟨#[117]⟩ : ByteArray), (⟨#[118]⟩ : ByteArray)] y91)), (40, .slice (some ⟨b63, 0, none⟩) 2 2), (41, .int .i64 2), (42, .int .i64 0)] (ac rfl (ac rfl (ac rfl (ac rfl (ac rfl (ac rfl (ac rfl (ac rfl (ac rfl (ac (hV210 12 rfl) (ac (hV210 13 rfl) (ac rfl (ac rfl (ac rfl an)))))))))))))) ?_
      refine n_sq ?_
      refine st_seq ?_
      refine st_region ?_
      refine r_fa FA28_2 ⟨b70, 2, none⟩ rfl rfl ?_
      refine r_ld1 (.int .i64 ((rd l_ v49).f_N)) LD3 rfl ((H211.g0).cell _ rfl) ?_
      obtain ⟨y212, hy213, hm⟩ := bind_some hm
      refine r_callf Try.call6 (scutagekeep_Within_ok ((rd l_ v49).f_N) 1000 y212 H211 hy213) ?_
      rintro e215 wd214 ⟨rfl, H217⟩
      refine ⟨_, rfl, ?_⟩
      refine r_pure (.int .i64 y212) rfl ?_
      refine r_seq ?_
      refine st_seq ?_
      refine st_seq ?_
      refine st_region ?_
      refine r_pure (.pointer (some ⟨b13, 0, none⟩)) rfl ?_
      refine r_pure (.string (rd [(⟨#[112]⟩ : ByteArray), (⟨#[113]⟩ : ByteArray), (⟨#[114]⟩ : ByteArray)] y79)) rfl ?_
      refine r_pure (.string (rd [(⟨#[117]⟩ : ByteArray), (⟨#[118]⟩ : ByteArray)] y91)) rfl ?_
      refine r_pure (.int .i64 y212) rfl ?_
      obtain ⟨⟨y218, y219⟩, hy220, hm⟩ := bind_some hm
      refine r_callf Try.call7 (cross_Cross_Add_ok b13 (⟨xs43⟩ : cross_Cross) A40 c42 (rd [(⟨#[112]⟩ : ByteArray), (⟨#[113]⟩ : ByteArray), (⟨#[114]⟩ : ByteArray)] y79) (rd [(⟨#[117]⟩ : ByteArray), (⟨#[118]⟩ : ByteArray)] y91) y212 y218 y219 H217.u2.u3 hy220) ?_
      rintro e222 wd221 ⟨A225, n226, c227, rfl, H224⟩
      obtain rfl := (H224.g1).leneq
      refine ⟨_, rfl, ?_⟩
      refine r_pure (.bool (y218 != 0)) rfl ?_
      refine r_seq ?_
      rcases ite_some hm with ⟨hb228, hm⟩ | ⟨hb228, hm⟩
      · refine st_condt hb228 rfl ?_
        refine st_seq ?_
        refine st_region ?_
        refine r_pure (.bool false) rfl ?_
        refine r_seq ?_
        have hq_ := Option.some.inj hm
        subst hq_
        have hq_ := Option.some.inj (show some (false : Bool) = some r0_ from hm51)
        subst hq_
        refine st_ret1 rfl rfl (Nat.le_of_ble_eq_true rfl) rfl ?_
        exact ⟨rfl, H224.d.d.d.d.d.d.d⟩
      · refine st_condf hb228 rfl ?_
        refine st_skip ?_
        refine n_sq ?_
        refine st_seq ?_
        refine st_region ?_
        refine r_pure (.int .i64 0) rfl ?_
        refine r_pure (.bool (0 == 0)) rfl ?_
        refine r_seq ?_
        refine st_condt (by decide) rfl ?_
        refine Flow.run' RA3_20 RW3_20 [(fun η229 v => v.1 = .map (some b27)), (fun η229 v => v.1 = .string (rd [(⟨#[112]⟩ : ByteArray), (⟨#[113]⟩ : ByteArray), (⟨#[114]⟩ : ByteArray)] y79)), (fun η229 v => v.1 = .string (rd [(⟨#[117]⟩ : ByteArray), (⟨#[118]⟩ : ByteArray)] y91)), (fun η229 v => v.1 = .agg #[.string (rd [(⟨#[112]⟩ : ByteArray), (⟨#[113]⟩ : ByteArray), (⟨#[114]⟩ : ByteArray)] y79), .string (rd [(⟨#[117]⟩ : ByteArray), (⟨#[118]⟩ : ByteArray)] y91)]), (fun η229 v => v.1 = .int .i64 (pgetD (0 : Int) mm48 ((rd [(⟨#[112]⟩ : ByteArray), (⟨#[113]⟩ : ByteArray), (⟨#[114]⟩ : ByteArray)] y79), (rd [(⟨#[117]⟩ : ByteArray), (⟨#[118]⟩ : ByteArray)] y91)))), (fun η229 v => v.1 = .int .i64 y212), (fun η229 v => v.1 = .int .i64 (w64 (pgetD (0 : Int) mm48 ((rd [(⟨#[112]⟩ : ByteArray), (⟨#[113]⟩ : ByteArray), (⟨#[114]⟩ : ByteArray)] y79), (rd [(⟨#[117]⟩ : ByteArray), (⟨#[118]⟩ : ByteArray)] y91)) + y212))), (fun η229 v => v.1 = .tuple #[.int .i64 (pgetD (0 : Int) mm48 ((rd [(⟨#[112]⟩ : ByteArray), (⟨#[113]⟩ : ByteArray), (⟨#[114]⟩ : ByteArray)] y79), (rd [(⟨#[117]⟩ : ByteArray), (⟨#[118]⟩ : ByteArray)] y91))), .int .i64 ((vN (vT 1 (v.1))) : Int)]), (fun η229 v => v.1 = .int .i64 ((vN (vT 1 ((η229 7).1))) : Int)), (fun _ _ => True)] [⟨none, (some 7), fun η229 => MpP ME25 b27 mm48⟩, ⟨(some 7), (some 9), fun η229 => MpE ME25 b27 mm48 ((rd [(⟨#[112]⟩ : ByteArray), (⟨#[113]⟩ : ByteArray), (⟨#[114]⟩ : ByteArray)] y79), (rd [(⟨#[117]⟩ : ByteArray), (⟨#[118]⟩ : ByteArray)] y91)) (vN (vT 1 ((η229 7).1)))⟩, ⟨(some 9), none, fun η229 => MpP ME25 b27 (pput mm48 ((rd [(⟨#[112]⟩ : ByteArray), (⟨#[113]⟩ : ByteArray), (⟨#[114]⟩ : ByteArray)] y79), (rd [(⟨#[117]⟩ : ByteArray), (⟨#[118]⟩ : ByteArray)] y91)) (w64 (pgetD (0 : Int) mm48 ((rd [(⟨#[112]⟩ : ByteArray), (⟨#[113]⟩ : ByteArray), (⟨#[114]⟩ : ByteArray)] y79), (rd [(⟨#[117]⟩ : ByteArray), (⟨#[118]⟩ : ByteArray)] y91)) + y212)))⟩] rfl (by kernel_rfl) (by kernel_rfl) H224.u6 ⟨?_, ?_, ?_, ?_, ?_, ?_, ?_, ?_, ?_, ?_, trivial⟩ ?_
        · intro η229 wd239 Δ240 hE235 hR236 hA237 H238
          refine sp_op [(5, .map (some b27))] (ac rfl an) ?_
          refine r_pure (.map (some b27)) rfl ?_
          exact r_nil (n_lp ⟨_, rfl, undef, rfl, H238⟩)
        · intro η229 wd245 Δ246 hE241 hR242 hA243 H244
          refine sp_op [(11, .string (rd [(⟨#[112]⟩ : ByteArray), (⟨#[113]⟩ : ByteArray), (⟨#[114]⟩ : ByteArray)] y79))] (ac rfl an) ?_
          refine r_pure (.string (rd [(⟨#[112]⟩ : ByteArray), (⟨#[113]⟩ : ByteArray), (⟨#[114]⟩ : ByteArray)] y79)) rfl ?_
          exact r_nil (n_lp ⟨_, rfl, undef, rfl, H244⟩)
        · intro η229 wd251 Δ252 hE247 hR248 hA249 H250
          refine sp_op [(12, .string (rd [(⟨#[117]⟩ : ByteArray), (⟨#[118]⟩ : ByteArray)] y91))] (ac rfl an) ?_
          refine r_pure (.string (rd [(⟨#[117]⟩ : ByteArray), (⟨#[118]⟩ : ByteArray)] y91)) rfl ?_
          exact r_nil (n_lp ⟨_, rfl, undef, rfl, H250⟩)
        · intro η229 wd257 Δ258 hE253 hR254 hA255 H256
          refine sp_op [(84, .string (rd [(⟨#[112]⟩ : ByteArray), (⟨#[113]⟩ : ByteArray), (⟨#[114]⟩ : ByteArray)] y79)), (85, .string (rd [(⟨#[117]⟩ : ByteArray), (⟨#[118]⟩ : ByteArray)] y91))] (ac (hE253 1 (by decide)) (ac (hE253 2 (by decide)) an)) ?_
          refine r_buildA [.string (rd [(⟨#[112]⟩ : ByteArray), (⟨#[113]⟩ : ByteArray), (⟨#[114]⟩ : ByteArray)] y79), .string (rd [(⟨#[117]⟩ : ByteArray), (⟨#[118]⟩ : ByteArray)] y91)] AR33 rfl ?_
          exact r_nil (n_lp ⟨_, rfl, undef, rfl, H256⟩)
        · intro η229 wd263 Δ264 hE259 hR260 hA261 H262
          have H262 : Hp w0 ((Δ264 ++ (Bx b13 53 [.slice A225 y219.f_l.length c227] :: Row K38 (.slice A225 y219.f_l.length c227) y219.f_l :: Bx b70 28 [.int .i64 ((rd l_ v49).Seller), .int .i64 ((rd l_ v49).Buyer), .int .i64 ((rd l_ v49).f_N)] :: Row (Kr 23 1 (by decide)) (.slice (some ⟨b63, 0, none⟩) 2 2) [(⟨[.pointer (some ⟨b13, 0, none⟩)], rfl, rfl⟩ : Raw 1), (⟨[.pointer (some ⟨b23, 0, none⟩)], rfl, rfl⟩ : Raw 1)] :: Row K38 (.slice A44 xs47.length c46) xs47 :: Bx b23 53 [.slice A44 xs47.length c46] :: Γ))) wd263 := H262
          refine sp_op [(83, .map (some b27)), (86, .agg #[.string (rd [(⟨#[112]⟩ : ByteArray), (⟨#[113]⟩ : ByteArray), (⟨#[114]⟩ : ByteArray)] y79), .string (rd [(⟨#[117]⟩ : ByteArray), (⟨#[118]⟩ : ByteArray)] y91)])] (ac (hE259 0 (by decide)) (ac (hE259 3 (by decide)) an)) ?_
          refine r_lookP (E := ME25) ((rd [(⟨#[112]⟩ : ByteArray), (⟨#[113]⟩ : ByteArray), (⟨#[114]⟩ : ByteArray)] y79), (rd [(⟨#[117]⟩ : ByteArray), (⟨#[118]⟩ : ByteArray)] y91)) (.int .i64 (pgetD (0 : Int) mm48 ((rd [(⟨#[112]⟩ : ByteArray), (⟨#[113]⟩ : ByteArray), (⟨#[114]⟩ : ByteArray)] y79), (rd [(⟨#[117]⟩ : ByteArray), (⟨#[118]⟩ : ByteArray)] y91)))) rfl rfl rfl ((hA261 _ (List.mem_of_getElem? (i := 0) rfl) _ (List.mem_of_getElem? (i := 1) rfl) rfl).elim (fun h_ => MpP.lk MT25 (show (MpP ME25 b27 mm48) _ from (H262).memr h_)) (fun h_ => MpE.lk MT25 (show (MpE ME25 b27 mm48 ((rd [(⟨#[112]⟩ : ByteArray), (⟨#[113]⟩ : ByteArray), (⟨#[114]⟩ : ByteArray)] y79), (rd [(⟨#[117]⟩ : ByteArray), (⟨#[118]⟩ : ByteArray)] y91)) (vN (vT 1 ((η229 7).1)))) _ from (H262).memr h_))) ?_
          exact r_nil (n_lp ⟨_, rfl, undef, rfl, H262⟩)
        · intro η229 wd269 Δ270 hE265 hR266 hA267 H268
          refine sp_op [(13, .int .i64 y212)] (ac rfl an) ?_
          refine r_pure (.int .i64 y212) rfl ?_
          exact r_nil (n_lp ⟨_, rfl, undef, rfl, H268⟩)
        · intro η229 wd275 Δ276 hE271 hR272 hA273 H274
          refine sp_op [(87, .int .i64 (pgetD (0 : Int) mm48 ((rd [(⟨#[112]⟩ : ByteArray), (⟨#[113]⟩ : ByteArray), (⟨#[114]⟩ : ByteArray)] y79), (rd [(⟨#[117]⟩ : ByteArray), (⟨#[118]⟩ : ByteArray)] y91)))), (88, .int .i64 y212)] (ac (hE271 4 (by decide)) (ac (hE271 5 (by decide)) an)) ?_
          refine r_pure (.int .i64 (w64 (pgetD (0 : Int) mm48 ((rd [(⟨#[112]⟩ : ByteArray), (⟨#[113]⟩ : ByteArray), (⟨#[114]⟩ : ByteArray)] y79), (rd [(⟨#[117]⟩ : ByteArray), (⟨#[118]⟩ : ByteArray)] y91)) + y212))) rfl ?_
          exact r_nil (n_lp ⟨_, rfl, undef, rfl, H274⟩)
        · intro η229 wd281 Δ282 hE277 hR278 hA279 H280
          have H280 : Hp w0 (MpP ME25 b27 mm48 :: (Δ282 ++ (Bx b13 53 [.slice A225 y219.f_l.length c227] :: Row K38 (.slice A225 y219.f_l.length c227) y219.f_l :: Bx b70 28 [.int .i64 ((rd l_ v49).Seller), .int .i64 ((rd l_ v49).Buyer), .int .i64 ((rd l_ v49).f_N)] :: Row (Kr 23 1 (by decide)) (.slice (some ⟨b63, 0, none⟩) 2 2) [(⟨[.pointer (some ⟨b13, 0, none⟩)], rfl, rfl⟩ : Raw 1), (⟨[.pointer (some ⟨b23, 0, none⟩)], rfl, rfl⟩ : Raw 1)] :: Row K38 (.slice A44 xs47.length c46) xs47 :: Bx b23 53 [.slice A44 xs47.length c46] :: Γ))) wd281 := H280
          refine sp_op [(83, .map (some b27)), (86, .agg #[.string (rd [(⟨#[112]⟩ : ByteArray), (⟨#[113]⟩ : ByteArray), (⟨#[114]⟩ : ByteArray)] y79), .string (rd [(⟨#[117]⟩ : ByteArray), (⟨#[118]⟩ : ByteArray)] y91)])] (ac (hE277 0 (by decide)) (ac (hE277 3 (by decide)) an)) ?_
          refine r_mapEntry ((rd [(⟨#[112]⟩ : ByteArray), (⟨#[113]⟩ : ByteArray), (⟨#[114]⟩ : ByteArray)] y79), (rd [(⟨#[117]⟩ : ByteArray), (⟨#[118]⟩ : ByteArray)] y91)) MT25 rfl rfl H280 ?_
          intro s283 wd285 H284
          exact r_nil (n_lp ⟨_, rfl, (.tuple #[.pointer (some ⟨b27, 0, none⟩)]), rfl, H284⟩)
        · intro η229 wd290 Δ291 hE286 hR287 hA288 H289
          refine sp_op [(90, .tuple #[.int .i64 (pgetD (0 : Int) mm48 ((rd [(⟨#[112]⟩ : ByteArray), (⟨#[113]⟩ : ByteArray), (⟨#[114]⟩ : ByteArray)] y79), (rd [(⟨#[117]⟩ : ByteArray), (⟨#[118]⟩ : ByteArray)] y91))), .int .i64 ((vN (vT 1 ((η229 7).1))) : Int)])] (ac (hE286 7 (by decide)) an) ?_
          refine r_pure (.int .i64 ((vN (vT 1 ((η229 7).1))) : Int)) rfl ?_
          exact r_nil (n_lp ⟨_, rfl, undef, rfl, H289⟩)
        · intro η229 wd296 Δ297 hE292 hR293 hA294 H295
          have H295 : Hp w0 (MpE ME25 b27 mm48 ((rd [(⟨#[112]⟩ : ByteArray), (⟨#[113]⟩ : ByteArray), (⟨#[114]⟩ : ByteArray)] y79), (rd [(⟨#[117]⟩ : ByteArray), (⟨#[118]⟩ : ByteArray)] y91)) (vN (vT 1 ((η229 7).1))) :: (Δ297 ++ (Bx b13 53 [.slice A225 y219.f_l.length c227] :: Row K38 (.slice A225 y219.f_l.length c227) y219.f_l :: Bx b70 28 [.int .i64 ((rd l_ v49).Seller), .int .i64 ((rd l_ v49).Buyer), .int .i64 ((rd l_ v49).f_N)] :: Row (Kr 23 1 (by decide)) (.slice (some ⟨b63, 0, none⟩) 2 2) [(⟨[.pointer (some ⟨b13, 0, none⟩)], rfl, rfl⟩ : Raw 1), (⟨[.pointer (some ⟨b23, 0, none⟩)], rfl, rfl⟩ : Raw 1)] :: Row K38 (.slice A44 xs47.length c46) xs47 :: Bx b23 53 [.slice A44 xs47.length c46] :: Γ))) wd296 := H295
          refine sp_op [(83, .map (some b27)), (89, .int .i64 (w64 (pgetD (0 : Int) mm48 ((rd [(⟨#[112]⟩ : ByteArray), (⟨#[113]⟩ : ByteArray), (⟨#[114]⟩ : ByteArray)] y79), (rd [(⟨#[117]⟩ : ByteArray), (⟨#[118]⟩ : ByteArray)] y91)) + y212))), (91, .int .i64 ((vN (vT 1 ((η229 7).1))) : Int))] (ac (hE292 0 (by decide)) (ac (hE292 6 (by decide)) (ac (hE292 8 (by decide)) an))) ?_
          refine r_entryStore (w64 (pgetD (0 : Int) mm48 ((rd [(⟨#[112]⟩ : ByteArray), (⟨#[113]⟩ : ByteArray), (⟨#[114]⟩ : ByteArray)] y79), (rd [(⟨#[117]⟩ : ByteArray), (⟨#[118]⟩ : ByteArray)] y91)) + y212)) MT25 rfl rfl rfl H295 ?_
          intro wd299 H298
          exact r_nil (n_lp ⟨_, rfl, (.tuple #[.pointer (some ⟨b27, 0, none⟩)]), trivial, H298⟩)
        · intro η229 wd301 hV302 H300
          have H303 : Hp w0 (MpP ME25 b27 (pput mm48 ((rd [(⟨#[112]⟩ : ByteArray), (⟨#[113]⟩ : ByteArray), (⟨#[114]⟩ : ByteArray)] y79), (rd [(⟨#[117]⟩ : ByteArray), (⟨#[118]⟩ : ByteArray)] y91)) (w64 (pgetD (0 : Int) mm48 ((rd [(⟨#[112]⟩ : ByteArray), (⟨#[113]⟩ : ByteArray), (⟨#[114]⟩ : ByteArray)] y79), (rd [(⟨#[117]⟩ : ByteArray), (⟨#[118]⟩ : ByteArray)] y91)) + y212))) :: Bx b13 53 [.slice A225 y219.f_l.length c227] :: Row K38 (.slice A225 y219.f_l.length c227) y219.f_l :: Row (Kr 23 1 (by decide)) (.slice (some ⟨b63, 0, none⟩) 2 2) [(⟨[.pointer (some ⟨b13, 0, none⟩)], rfl, rfl⟩ : Raw 1), (⟨[.pointer (some ⟨b23, 0, none⟩)], rfl, rfl⟩ : Raw 1)] :: Row K38 (.slice A44 xs47.length c46) xs47 :: Bx b23 53 [.slice A44 xs47.length c46] :: Γ) wd301 := H300.u3.d
          refine n_frame [(0, .slice A1 l_.length c2), (3, .pointer (some ⟨b13, 0, none⟩)), (4, .pointer (some ⟨b23, 0, none⟩)), (5, .map (some b27)), (6, .int .i64 (mn (l_.length : Int) 8)), (7, .int .i64 v49), (40, .slice (some ⟨b63, 0, none⟩) 2 2), (41, .int .i64 2), (42, .int .i64 0)] (ac rfl (ac rfl (ac rfl (ac rfl (ac rfl (ac rfl (ac rfl (ac rfl (ac rfl an))))))))) ?_
          refine n_bl ?_
          refine n_sq ?_
          refine st_region ?_
          refine r_pure (.int .i64 1) rfl ?_
          refine r_pure (.int .i64 1) rfl ?_
          refine r_nil ?_
          refine n_round ?_
          refine l_round ?_
          refine st_seq ?_
          refine st_region ?_
          refine r_pure (.bool (decide (1 < 2))) rfl ?_
          refine r_seq ?_
          refine st_seq ?_
          refine st_condt (by decide) rfl ?_
          refine st_skip ?_
          refine n_sq ?_
          refine st_seq ?_
          refine st_block ?_
          refine st_seq ?_
          refine st_region ?_
          refine r_pure (.int .i64 1) rfl ?_
          refine r_ix IX26 rfl rfl rfl (by decide) (by decide) ?_
          refine r_ld1 (.pointer (some ⟨b23, 0, none⟩)) LD23 rfl ((H303.g3.rd).c0A rfl (show ([(⟨[.pointer (some ⟨b13, 0, none⟩)], rfl, rfl⟩ : Raw 1), (⟨[.pointer (some ⟨b23, 0, none⟩)], rfl, rfl⟩ : Raw 1)])[Int.toNat 1]? = some _ from rfl) _ rfl) ?_
          refine r_pure (.int .i64 1) rfl ?_
          refine r_pure (.pointer (some ⟨b23, 0, none⟩)) rfl ?_
          refine r_seq ?_
          refine st_seq ?_
          refine st_region ?_
          refine r_pure (.slice A1 l_.length c2) rfl ?_
          refine r_pure (.int .i64 v49) rfl ?_
          refine r_ix IX22 rfl rfl hA69 h066 h167 ?_
          refine r_ldA [.int .i64 ((rd l_ v49).Seller), .int .i64 ((rd l_ v49).Buyer), .int .i64 ((rd l_ v49).f_N)] LD28 rfl rfl ((hv4 _ H303.d.d.d.d.d.d).csA hA69 hj68) ?_
          refine r_alloc [.int .i64 0, .int .i64 0, .int .i64 0] Try.zeroValue28 H303 rfl ?_
          intro b304 wd306 H305
          refine r_stA [.int .i64 ((rd l_ v49).Seller), .int .i64 ((rd l_ v49).Buyer), .int .i64 ((rd l_ v49).f_N)] LD28 rfl rfl rfl rfl H305 (Nat.le_of_ble_eq_true rfl) rfl ?_
          intro wd308 H307
          refine r_seq ?_
          refine st_seq ?_
          refine st_seq ?_
          refine st_region ?_
          refine r_pure (.int .i64 1) rfl ?_
          refine r_pure (.bool (1 == 1)) rfl ?_
          refine r_seq ?_
          refine st_condt (by decide) rfl ?_
          refine st_region ?_
          refine r_pure (.slice A1 l_.length c2) rfl ?_
          refine r_pure (.int .i64 (mn (l_.length : Int) 8)) rfl ?_
          refine r_pure (.int .i64 (w64 (mn (l_.length : Int) 8 - 1))) rfl ?_
          refine r_pure (.int .i64 v49) rfl ?_
          refine r_pure (.int .i64 (w64 (w64 (mn (l_.length : Int) 8 - 1) - v49))) rfl ?_
          obtain ⟨⟨h0309, h1310⟩, hm⟩ := gd_some hm
          have hj311 := rd_get h0309 h1310
          refine r_ix IX22 rfl rfl hA69 h0309 h1310 ?_
          refine r_ldA [.int .i64 ((rd l_ (w64 (w64 (mn (l_.length : Int) 8 - 1) - v49))).Seller), .int .i64 ((rd l_ (w64 (w64 (mn (l_.length : Int) 8 - 1) - v49))).Buyer), .int .i64 ((rd l_ (w64 (w64 (mn (l_.length : Int) 8 - 1) - v49))).f_N)] LD28 rfl rfl ((hv4 _ H307.d.d.d.d.d.d.d).csA hA69 hj311) ?_
          refine r_stA [.int .i64 ((rd l_ (w64 (w64 (mn (l_.length : Int) 8 - 1) - v49))).Seller), .int .i64 ((rd l_ (w64 (w64 (mn (l_.length : Int) 8 - 1) - v49))).Buyer), .int .i64 ((rd l_ (w64 (w64 (mn (l_.length : Int) 8 - 1) - v49))).f_N)] LD28 rfl rfl rfl rfl H307 (Nat.le_of_ble_eq_true rfl) rfl ?_
          intro wd313 H312
          refine r_seq ?_
          refine st_seq ?_
          obtain ⟨y318, hy319, hm⟩ := bind_some hm
          obtain ⟨⟨h0324, h1325⟩, hm⟩ := gd_some hm
          have hj326 := rd_get h0324 h1325
          obtain ⟨y330, hy331, hm⟩ := bind_some hm
          obtain ⟨⟨h0336, h1337⟩, hm⟩ := gd_some hm
          have hj338 := rd_get h0336 h1337
          refine Flow.run' RA3_15 RW3_15 [(fun η314 v => v.1 = .slice (some ⟨(oA (vA (v.1))).block, 0, none⟩) 3 3), (fun η314 v => v.1 = .pointer (some ⟨b304, 0, none⟩)), (fun η314 v => v.1 = .int .i64 ((rd l_ (w64 (w64 (mn (l_.length : Int) 8 - 1) - v49))).Seller)), (fun η314 v => v.1 = .int .i64 y318), (fun η314 v => v.1 = .pointer (some ((⟨(oA (vA ((η314 0).1))).block, 0, none⟩ : Addr).add (Int.toNat y318 * 1)))), (fun η314 v => v.1 = .string (rd [(⟨#[112]⟩ : ByteArray), (⟨#[113]⟩ : ByteArray), (⟨#[114]⟩ : ByteArray)] y318)), (fun η314 v => v.1 = .slice (some ⟨(oA (vA (v.1))).block, 0, none⟩) 2 2), (fun η314 v => v.1 = .pointer (some ⟨b304, 1, none⟩)), (fun η314 v => v.1 = .int .i64 ((rd l_ (w64 (w64 (mn (l_.length : Int) 8 - 1) - v49))).Buyer)), (fun η314 v => v.1 = .int .i64 y330), (fun η314 v => v.1 = .pointer (some ((⟨(oA (vA ((η314 6).1))).block, 0, none⟩ : Addr).add (Int.toNat y330 * 1)))), (fun η314 v => v.1 = .string (rd [(⟨#[117]⟩ : ByteArray), (⟨#[118]⟩ : ByteArray)] y330)), (fun η314 v => v.1 = .string (rd [(⟨#[112]⟩ : ByteArray), (⟨#[113]⟩ : ByteArray), (⟨#[114]⟩ : ByteArray)] y318)), (fun η314 v => v.1 = .string (rd [(⟨#[117]⟩ : ByteArray), (⟨#[118]⟩ : ByteArray)] y330))] [⟨(some 0), none, fun η314 => Row K9 (.slice (some ⟨(oA (vA ((η314 0).1))).block, 0, none⟩) 3 3) [(⟨#[112]⟩ : ByteArray), (⟨#[113]⟩ : ByteArray), (⟨#[114]⟩ : ByteArray)]⟩, ⟨(some 6), none, fun η314 => Row K9 (.slice (some ⟨(oA (vA ((η314 6).1))).block, 0, none⟩) 2 2) [(⟨#[117]⟩ : ByteArray), (⟨#[118]⟩ : ByteArray)]⟩] rfl (by kernel_rfl) (by kernel_rfl) H312 ⟨?_, ?_, ?_, ?_, ?_, ?_, ?_, ?_, ?_, ?_, ?_, ?_, ?_, ?_, trivial⟩ ?_
          · intro η314 wd343 Δ344 hE339 hR340 hA341 H342
            have H342 : Hp w0 ((Δ344 ++ (Bx b304 28 [.int .i64 ((rd l_ (w64 (w64 (mn (l_.length : Int) 8 - 1) - v49))).Seller), .int .i64 ((rd l_ (w64 (w64 (mn (l_.length : Int) 8 - 1) - v49))).Buyer), .int .i64 ((rd l_ (w64 (w64 (mn (l_.length : Int) 8 - 1) - v49))).f_N)] :: MpP ME25 b27 (pput mm48 ((rd [(⟨#[112]⟩ : ByteArray), (⟨#[113]⟩ : ByteArray), (⟨#[114]⟩ : ByteArray)] y79), (rd [(⟨#[117]⟩ : ByteArray), (⟨#[118]⟩ : ByteArray)] y91)) (w64 (pgetD (0 : Int) mm48 ((rd [(⟨#[112]⟩ : ByteArray), (⟨#[113]⟩ : ByteArray), (⟨#[114]⟩ : ByteArray)] y79), (rd [(⟨#[117]⟩ : ByteArray), (⟨#[118]⟩ : ByteArray)] y91)) + y212))) :: Bx b13 53 [.slice A225 y219.f_l.length c227] :: Row K38 (.slice A225 y219.f_l.length c227) y219.f_l :: Row (Kr 23 1 (by decide)) (.slice (some ⟨b63, 0, none⟩) 2 2) [(⟨[.pointer (some ⟨b13, 0, none⟩)], rfl, rfl⟩ : Raw 1), (⟨[.pointer (some ⟨b23, 0, none⟩)], rfl, rfl⟩ : Raw 1)] :: Row K38 (.slice A44 xs47.length c46) xs47 :: Bx b23 53 [.slice A44 xs47.length c46] :: Γ))) wd343 := H342
            refine sp_op [] an ?_
            refine r_buildSliceF (K := K9) [(⟨#[112]⟩ : ByteArray), (⟨#[113]⟩ : ByteArray), (⟨#[114]⟩ : ByteArray)] EL29 rfl rfl rfl (by decide) (by decide) ⟨rfl, rfl, ⟨rfl, rfl, ⟨rfl, rfl, trivial⟩⟩⟩ H342 ?_
            intro b345 wd347 H346
            exact r_nil (n_lp ⟨_, rfl, (.tuple #[.slice (some ⟨b345, 0, none⟩) 3 3]), rfl, H346⟩)
          · intro η314 wd352 Δ353 hE348 hR349 hA350 H351
            refine sp_op [(10, .pointer (some ⟨b304, 0, none⟩))] (ac rfl an) ?_
            refine r_fa FA28_0 ⟨b304, 0, none⟩ rfl rfl ?_
            exact r_nil (n_lp ⟨_, rfl, undef, rfl, H351⟩)
          · intro η314 wd358 Δ359 hE354 hR355 hA356 H357
            have H357 : Hp w0 ((Δ359 ++ (Bx b304 28 [.int .i64 ((rd l_ (w64 (w64 (mn (l_.length : Int) 8 - 1) - v49))).Seller), .int .i64 ((rd l_ (w64 (w64 (mn (l_.length : Int) 8 - 1) - v49))).Buyer), .int .i64 ((rd l_ (w64 (w64 (mn (l_.length : Int) 8 - 1) - v49))).f_N)] :: MpP ME25 b27 (pput mm48 ((rd [(⟨#[112]⟩ : ByteArray), (⟨#[113]⟩ : ByteArray), (⟨#[114]⟩ : ByteArray)] y79), (rd [(⟨#[117]⟩ : ByteArray), (⟨#[118]⟩ : ByteArray)] y91)) (w64 (pgetD (0 : Int) mm48 ((rd [(⟨#[112]⟩ : ByteArray), (⟨#[113]⟩ : ByteArray), (⟨#[114]⟩ : ByteArray)] y79), (rd [(⟨#[117]⟩ : ByteArray), (⟨#[118]⟩ : ByteArray)] y91)) + y212))) :: Bx b13 53 [.slice A225 y219.f_l.length c227] :: Row K38 (.slice A225 y219.f_l.length c227) y219.f_l :: Row (Kr 23 1 (by decide)) (.slice (some ⟨b63, 0, none⟩) 2 2) [(⟨[.pointer (some ⟨b13, 0, none⟩)], rfl, rfl⟩ : Raw 1), (⟨[.pointer (some ⟨b23, 0, none⟩)], rfl, rfl⟩ : Raw 1)] :: Row K38 (.slice A44 xs47.length c46) xs47 :: Bx b23 53 [.slice A44 xs47.length c46] :: Γ))) wd358 := H357
            refine sp_op [(61, .pointer (some ⟨b304, 0, none⟩))] (ac (hE354 1 (by decide)) an) ?_
            refine r_ld1 (.int .i64 ((rd l_ (w64 (w64 (mn (l_.length : Int) 8 - 1) - v49))).Seller)) LD3 rfl (((H357).tl.g0).cell _ rfl) ?_
            exact r_nil (n_lp ⟨_, rfl, undef, rfl, H357⟩)
          · intro η314 wd364 Δ365 hE360 hR361 hA362 H363
            have H363 : Hp w0 ((Δ365 ++ (Bx b304 28 [.int .i64 ((rd l_ (w64 (w64 (mn (l_.length : Int) 8 - 1) - v49))).Seller), .int .i64 ((rd l_ (w64 (w64 (mn (l_.length : Int) 8 - 1) - v49))).Buyer), .int .i64 ((rd l_ (w64 (w64 (mn (l_.length : Int) 8 - 1) - v49))).f_N)] :: MpP ME25 b27 (pput mm48 ((rd [(⟨#[112]⟩ : ByteArray), (⟨#[113]⟩ : ByteArray), (⟨#[114]⟩ : ByteArray)] y79), (rd [(⟨#[117]⟩ : ByteArray), (⟨#[118]⟩ : ByteArray)] y91)) (w64 (pgetD (0 : Int) mm48 ((rd [(⟨#[112]⟩ : ByteArray), (⟨#[113]⟩ : ByteArray), (⟨#[114]⟩ : ByteArray)] y79), (rd [(⟨#[117]⟩ : ByteArray), (⟨#[118]⟩ : ByteArray)] y91)) + y212))) :: Bx b13 53 [.slice A225 y219.f_l.length c227] :: Row K38 (.slice A225 y219.f_l.length c227) y219.f_l :: Row (Kr 23 1 (by decide)) (.slice (some ⟨b63, 0, none⟩) 2 2) [(⟨[.pointer (some ⟨b13, 0, none⟩)], rfl, rfl⟩ : Raw 1), (⟨[.pointer (some ⟨b23, 0, none⟩)], rfl, rfl⟩ : Raw 1)] :: Row K38 (.slice A44 xs47.length c46) xs47 :: Bx b23 53 [.slice A44 xs47.length c46] :: Γ))) wd364 := H363
            refine sp_op [(62, .int .i64 ((rd l_ (w64 (w64 (mn (l_.length : Int) 8 - 1) - v49))).Seller))] (ac (hE360 2 (by decide)) an) ?_
            refine r_callf Try.call6 (scutagekeep_Within_ok ((rd l_ (w64 (w64 (mn (l_.length : Int) 8 - 1) - v49))).Seller) 3 y318 H363 hy319) ?_
            rintro e369 wd368 ⟨rfl, H371⟩
            refine ⟨_, rfl, ?_⟩
            exact r_nil (n_lp ⟨_, rfl, undef, rfl, H371⟩)
          · intro η314 wd376 Δ377 hE372 hR373 hA374 H375
            have H375 : Hp w0 ((Δ377 ++ (Bx b304 28 [.int .i64 ((rd l_ (w64 (w64 (mn (l_.length : Int) 8 - 1) - v49))).Seller), .int .i64 ((rd l_ (w64 (w64 (mn (l_.length : Int) 8 - 1) - v49))).Buyer), .int .i64 ((rd l_ (w64 (w64 (mn (l_.length : Int) 8 - 1) - v49))).f_N)] :: MpP ME25 b27 (pput mm48 ((rd [(⟨#[112]⟩ : ByteArray), (⟨#[113]⟩ : ByteArray), (⟨#[114]⟩ : ByteArray)] y79), (rd [(⟨#[117]⟩ : ByteArray), (⟨#[118]⟩ : ByteArray)] y91)) (w64 (pgetD (0 : Int) mm48 ((rd [(⟨#[112]⟩ : ByteArray), (⟨#[113]⟩ : ByteArray), (⟨#[114]⟩ : ByteArray)] y79), (rd [(⟨#[117]⟩ : ByteArray), (⟨#[118]⟩ : ByteArray)] y91)) + y212))) :: Bx b13 53 [.slice A225 y219.f_l.length c227] :: Row K38 (.slice A225 y219.f_l.length c227) y219.f_l :: Row (Kr 23 1 (by decide)) (.slice (some ⟨b63, 0, none⟩) 2 2) [(⟨[.pointer (some ⟨b13, 0, none⟩)], rfl, rfl⟩ : Raw 1), (⟨[.pointer (some ⟨b23, 0, none⟩)], rfl, rfl⟩ : Raw 1)] :: Row K38 (.slice A44 xs47.length c46) xs47 :: Bx b23 53 [.slice A44 xs47.length c46] :: Γ))) wd376 := H375
            refine sp_op [(60, .slice (some ⟨(oA (vA ((η314 0).1))).block, 0, none⟩) 3 3), (63, .int .i64 y318)] (ac (hE372 0 (by decide)) (ac (hE372 3 (by decide)) an)) ?_
            refine r_ix IX29 rfl rfl rfl h0324 (by have h1_ := ((show (Row K9 (.slice (some ⟨(oA (vA ((η314 0).1))).block, 0, none⟩) 3 3) [(⟨#[112]⟩ : ByteArray), (⟨#[113]⟩ : ByteArray), (⟨#[114]⟩ : ByteArray)]) _ from (H375).memr (hR373 _ (List.mem_of_getElem? (i := 0) rfl) rfl))).leneq; have h2_ := h1325; rw [← h1_] at h2_; exact h2_) ?_
            exact r_nil (n_lp ⟨_, rfl, undef, rfl, H375⟩)
          · intro η314 wd385 Δ386 hE381 hR382 hA383 H384
            have H384 : Hp w0 ((Δ386 ++ (Bx b304 28 [.int .i64 ((rd l_ (w64 (w64 (mn (l_.length : Int) 8 - 1) - v49))).Seller), .int .i64 ((rd l_ (w64 (w64 (mn (l_.length : Int) 8 - 1) - v49))).Buyer), .int .i64 ((rd l_ (w64 (w64 (mn (l_.length : Int) 8 - 1) - v49))).f_N)] :: MpP ME25 b27 (pput mm48 ((rd [(⟨#[112]⟩ : ByteArray), (⟨#[113]⟩ : ByteArray), (⟨#[114]⟩ : ByteArray)] y79), (rd [(⟨#[117]⟩ : ByteArray), (⟨#[118]⟩ : ByteArray)] y91)) (w64 (pgetD (0 : Int) mm48 ((rd [(⟨#[112]⟩ : ByteArray), (⟨#[113]⟩ : ByteArray), (⟨#[114]⟩ : ByteArray)] y79), (rd [(⟨#[117]⟩ : ByteArray), (⟨#[118]⟩ : ByteArray)] y91)) + y212))) :: Bx b13 53 [.slice A225 y219.f_l.length c227] :: Row K38 (.slice A225 y219.f_l.length c227) y219.f_l :: Row (Kr 23 1 (by decide)) (.slice (some ⟨b63, 0, none⟩) 2 2) [(⟨[.pointer (some ⟨b13, 0, none⟩)], rfl, rfl⟩ : Raw 1), (⟨[.pointer (some ⟨b23, 0, none⟩)], rfl, rfl⟩ : Raw 1)] :: Row K38 (.slice A44 xs47.length c46) xs47 :: Bx b23 53 [.slice A44 xs47.length c46] :: Γ))) wd385 := H384
            refine sp_op [(64, .pointer (some ((⟨(oA (vA ((η314 0).1))).block, 0, none⟩ : Addr).add (Int.toNat y318 * 1))))] (ac (hE381 4 (by decide)) an) ?_
            refine r_ld1 (.string (rd [(⟨#[112]⟩ : ByteArray), (⟨#[113]⟩ : ByteArray), (⟨#[114]⟩ : ByteArray)] y318)) LD9 rfl (((show (Row K9 (.slice (some ⟨(oA (vA ((η314 0).1))).block, 0, none⟩) 3 3) [(⟨#[112]⟩ : ByteArray), (⟨#[113]⟩ : ByteArray), (⟨#[114]⟩ : ByteArray)]) _ from (H384).memr (hR382 _ (List.mem_of_getElem? (i := 0) rfl) rfl)).rd).c0A rfl hj326 _ rfl) ?_
            exact r_nil (n_lp ⟨_, rfl, undef, rfl, H384⟩)
          · intro η314 wd391 Δ392 hE387 hR388 hA389 H390
            have H390 : Hp w0 ((Δ392 ++ (Bx b304 28 [.int .i64 ((rd l_ (w64 (w64 (mn (l_.length : Int) 8 - 1) - v49))).Seller), .int .i64 ((rd l_ (w64 (w64 (mn (l_.length : Int) 8 - 1) - v49))).Buyer), .int .i64 ((rd l_ (w64 (w64 (mn (l_.length : Int) 8 - 1) - v49))).f_N)] :: MpP ME25 b27 (pput mm48 ((rd [(⟨#[112]⟩ : ByteArray), (⟨#[113]⟩ : ByteArray), (⟨#[114]⟩ : ByteArray)] y79), (rd [(⟨#[117]⟩ : ByteArray), (⟨#[118]⟩ : ByteArray)] y91)) (w64 (pgetD (0 : Int) mm48 ((rd [(⟨#[112]⟩ : ByteArray), (⟨#[113]⟩ : ByteArray), (⟨#[114]⟩ : ByteArray)] y79), (rd [(⟨#[117]⟩ : ByteArray), (⟨#[118]⟩ : ByteArray)] y91)) + y212))) :: Bx b13 53 [.slice A225 y219.f_l.length c227] :: Row K38 (.slice A225 y219.f_l.length c227) y219.f_l :: Row (Kr 23 1 (by decide)) (.slice (some ⟨b63, 0, none⟩) 2 2) [(⟨[.pointer (some ⟨b13, 0, none⟩)], rfl, rfl⟩ : Raw 1), (⟨[.pointer (some ⟨b23, 0, none⟩)], rfl, rfl⟩ : Raw 1)] :: Row K38 (.slice A44 xs47.length c46) xs47 :: Bx b23 53 [.slice A44 xs47.length c46] :: Γ))) wd391 := H390
            refine sp_op [] an ?_
            refine r_buildSlice (K := K9) [(⟨#[117]⟩ : ByteArray), (⟨#[118]⟩ : ByteArray)] EL29 rfl rfl rfl (by decide) (by decide) rfl H390 ?_
            intro b393 wd395 H394
            exact r_nil (n_lp ⟨_, rfl, (.tuple #[.slice (some ⟨b393, 0, none⟩) 2 2]), rfl, H394⟩)
          · intro η314 wd400 Δ401 hE396 hR397 hA398 H399
            refine sp_op [(10, .pointer (some ⟨b304, 0, none⟩))] (ac rfl an) ?_
            refine r_fa FA28_1 ⟨b304, 1, none⟩ rfl rfl ?_
            exact r_nil (n_lp ⟨_, rfl, undef, rfl, H399⟩)
          · intro η314 wd406 Δ407 hE402 hR403 hA404 H405
            have H405 : Hp w0 ((Δ407 ++ (Bx b304 28 [.int .i64 ((rd l_ (w64 (w64 (mn (l_.length : Int) 8 - 1) - v49))).Seller), .int .i64 ((rd l_ (w64 (w64 (mn (l_.length : Int) 8 - 1) - v49))).Buyer), .int .i64 ((rd l_ (w64 (w64 (mn (l_.length : Int) 8 - 1) - v49))).f_N)] :: MpP ME25 b27 (pput mm48 ((rd [(⟨#[112]⟩ : ByteArray), (⟨#[113]⟩ : ByteArray), (⟨#[114]⟩ : ByteArray)] y79), (rd [(⟨#[117]⟩ : ByteArray), (⟨#[118]⟩ : ByteArray)] y91)) (w64 (pgetD (0 : Int) mm48 ((rd [(⟨#[112]⟩ : ByteArray), (⟨#[113]⟩ : ByteArray), (⟨#[114]⟩ : ByteArray)] y79), (rd [(⟨#[117]⟩ : ByteArray), (⟨#[118]⟩ : ByteArray)] y91)) + y212))) :: Bx b13 53 [.slice A225 y219.f_l.length c227] :: Row K38 (.slice A225 y219.f_l.length c227) y219.f_l :: Row (Kr 23 1 (by decide)) (.slice (some ⟨b63, 0, none⟩) 2 2) [(⟨[.pointer (some ⟨b13, 0, none⟩)], rfl, rfl⟩ : Raw 1), (⟨[.pointer (some ⟨b23, 0, none⟩)], rfl, rfl⟩ : Raw 1)] :: Row K38 (.slice A44 xs47.length c46) xs47 :: Bx b23 53 [.slice A44 xs47.length c46] :: Γ))) wd406 := H405
            refine sp_op [(67, .pointer (some ⟨b304, 1, none⟩))] (ac (hE402 7 (by decide)) an) ?_
            refine r_ld1 (.int .i64 ((rd l_ (w64 (w64 (mn (l_.length : Int) 8 - 1) - v49))).Buyer)) LD3 rfl (((H405).tl.g0).cell _ rfl) ?_
            exact r_nil (n_lp ⟨_, rfl, undef, rfl, H405⟩)
          · intro η314 wd412 Δ413 hE408 hR409 hA410 H411
            have H411 : Hp w0 ((Δ413 ++ (Bx b304 28 [.int .i64 ((rd l_ (w64 (w64 (mn (l_.length : Int) 8 - 1) - v49))).Seller), .int .i64 ((rd l_ (w64 (w64 (mn (l_.length : Int) 8 - 1) - v49))).Buyer), .int .i64 ((rd l_ (w64 (w64 (mn (l_.length : Int) 8 - 1) - v49))).f_N)] :: MpP ME25 b27 (pput mm48 ((rd [(⟨#[112]⟩ : ByteArray), (⟨#[113]⟩ : ByteArray), (⟨#[114]⟩ : ByteArray)] y79), (rd [(⟨#[117]⟩ : ByteArray), (⟨#[118]⟩ : ByteArray)] y91)) (w64 (pgetD (0 : Int) mm48 ((rd [(⟨#[112]⟩ : ByteArray), (⟨#[113]⟩ : ByteArray), (⟨#[114]⟩ : ByteArray)] y79), (rd [(⟨#[117]⟩ : ByteArray), (⟨#[118]⟩ : ByteArray)] y91)) + y212))) :: Bx b13 53 [.slice A225 y219.f_l.length c227] :: Row K38 (.slice A225 y219.f_l.length c227) y219.f_l :: Row (Kr 23 1 (by decide)) (.slice (some ⟨b63, 0, none⟩) 2 2) [(⟨[.pointer (some ⟨b13, 0, none⟩)], rfl, rfl⟩ : Raw 1), (⟨[.pointer (some ⟨b23, 0, none⟩)], rfl, rfl⟩ : Raw 1)] :: Row K38 (.slice A44 xs47.length c46) xs47 :: Bx b23 53 [.slice A44 xs47.length c46] :: Γ))) wd412 := H411
            refine sp_op [(68, .int .i64 ((rd l_ (w64 (w64 (mn (l_.length : Int) 8 - 1) - v49))).Buyer))] (ac (hE408 8 (by decide)) an) ?_
            refine r_callf Try.call6 (scutagekeep_Within_ok ((rd l_ (w64 (w64 (mn (l_.length : Int) 8 - 1) - v49))).Buyer) 2 y330 H411 hy331) ?_
            rintro e417 wd416 ⟨rfl, H419⟩
            refine ⟨_, rfl, ?_⟩
            exact r_nil (n_lp ⟨_, rfl, undef, rfl, H419⟩)
          · intro η314 wd424 Δ425 hE420 hR421 hA422 H423
            have H423 : Hp w0 ((Δ425 ++ (Bx b304 28 [.int .i64 ((rd l_ (w64 (w64 (mn (l_.length : Int) 8 - 1) - v49))).Seller), .int .i64 ((rd l_ (w64 (w64 (mn (l_.length : Int) 8 - 1) - v49))).Buyer), .int .i64 ((rd l_ (w64 (w64 (mn (l_.length : Int) 8 - 1) - v49))).f_N)] :: MpP ME25 b27 (pput mm48 ((rd [(⟨#[112]⟩ : ByteArray), (⟨#[113]⟩ : ByteArray), (⟨#[114]⟩ : ByteArray)] y79), (rd [(⟨#[117]⟩ : ByteArray), (⟨#[118]⟩ : ByteArray)] y91)) (w64 (pgetD (0 : Int) mm48 ((rd [(⟨#[112]⟩ : ByteArray), (⟨#[113]⟩ : ByteArray), (⟨#[114]⟩ : ByteArray)] y79), (rd [(⟨#[117]⟩ : ByteArray), (⟨#[118]⟩ : ByteArray)] y91)) + y212))) :: Bx b13 53 [.slice A225 y219.f_l.length c227] :: Row K38 (.slice A225 y219.f_l.length c227) y219.f_l :: Row (Kr 23 1 (by decide)) (.slice (some ⟨b63, 0, none⟩) 2 2) [(⟨[.pointer (some ⟨b13, 0, none⟩)], rfl, rfl⟩ : Raw 1), (⟨[.pointer (some ⟨b23, 0, none⟩)], rfl, rfl⟩ : Raw 1)] :: Row K38 (.slice A44 xs47.length c46) xs47 :: Bx b23 53 [.slice A44 xs47.length c46] :: Γ))) wd424 := H423
            refine sp_op [(66, .slice (some ⟨(oA (vA ((η314 6).1))).block, 0, none⟩) 2 2), (69, .int .i64 y330)] (ac (hE420 6 (by decide)) (ac (hE420 9 (by decide)) an)) ?_
            refine r_ix IX29 rfl rfl rfl h0336 (by have h1_ := ((show (Row K9 (.slice (some ⟨(oA (vA ((η314 6).1))).block, 0, none⟩) 2 2) [(⟨#[117]⟩ : ByteArray), (⟨#[118]⟩ : ByteArray)]) _ from (H423).memr (hR421 _ (List.mem_of_getElem? (i := 1) rfl) rfl))).leneq; have h2_ := h1337; rw [← h1_] at h2_; exact h2_) ?_
            exact r_nil (n_lp ⟨_, rfl, undef, rfl, H423⟩)
          · intro η314 wd433 Δ434 hE429 hR430 hA431 H432
            have H432 : Hp w0 ((Δ434 ++ (Bx b304 28 [.int .i64 ((rd l_ (w64 (w64 (mn (l_.length : Int) 8 - 1) - v49))).Seller), .int .i64 ((rd l_ (w64 (w64 (mn (l_.length : Int) 8 - 1) - v49))).Buyer), .int .i64 ((rd l_ (w64 (w64 (mn (l_.length : Int) 8 - 1) - v49))).f_N)] :: MpP ME25 b27 (pput mm48 ((rd [(⟨#[112]⟩ : ByteArray), (⟨#[113]⟩ : ByteArray), (⟨#[114]⟩ : ByteArray)] y79), (rd [(⟨#[117]⟩ : ByteArray), (⟨#[118]⟩ : ByteArray)] y91)) (w64 (pgetD (0 : Int) mm48 ((rd [(⟨#[112]⟩ : ByteArray), (⟨#[113]⟩ : ByteArray), (⟨#[114]⟩ : ByteArray)] y79), (rd [(⟨#[117]⟩ : ByteArray), (⟨#[118]⟩ : ByteArray)] y91)) + y212))) :: Bx b13 53 [.slice A225 y219.f_l.length c227] :: Row K38 (.slice A225 y219.f_l.length c227) y219.f_l :: Row (Kr 23 1 (by decide)) (.slice (some ⟨b63, 0, none⟩) 2 2) [(⟨[.pointer (some ⟨b13, 0, none⟩)], rfl, rfl⟩ : Raw 1), (⟨[.pointer (some ⟨b23, 0, none⟩)], rfl, rfl⟩ : Raw 1)] :: Row K38 (.slice A44 xs47.length c46) xs47 :: Bx b23 53 [.slice A44 xs47.length c46] :: Γ))) wd433 := H432
            refine sp_op [(70, .pointer (some ((⟨(oA (vA ((η314 6).1))).block, 0, none⟩ : Addr).add (Int.toNat y330 * 1))))] (ac (hE429 10 (by decide)) an) ?_
            refine r_ld1 (.string (rd [(⟨#[117]⟩ : ByteArray), (⟨#[118]⟩ : ByteArray)] y330)) LD9 rfl (((show (Row K9 (.slice (some ⟨(oA (vA ((η314 6).1))).block, 0, none⟩) 2 2) [(⟨#[117]⟩ : ByteArray), (⟨#[118]⟩ : ByteArray)]) _ from (H432).memr (hR430 _ (List.mem_of_getElem? (i := 1) rfl) rfl)).rd).c0A rfl hj338 _ rfl) ?_
            exact r_nil (n_lp ⟨_, rfl, undef, rfl, H432⟩)
          · intro η314 wd439 Δ440 hE435 hR436 hA437 H438
            refine sp_op [(65, .string (rd [(⟨#[112]⟩ : ByteArray), (⟨#[113]⟩ : ByteArray), (⟨#[114]⟩ : ByteArray)] y318))] (ac (hE435 5 (by decide)) an) ?_
            refine r_pure (.string (rd [(⟨#[112]⟩ : ByteArray), (⟨#[113]⟩ : ByteArray), (⟨#[114]⟩ : ByteArray)] y318)) rfl ?_
            exact r_nil (n_lp ⟨_, rfl, undef, rfl, H438⟩)
          · intro η314 wd445 Δ446 hE441 hR442 hA443 H444
            refine sp_op [(71, .string (rd [(⟨#[117]⟩ : ByteArray), (⟨#[118]⟩ : ByteArray)] y330))] (ac (hE441 11 (by decide)) an) ?_
            refine r_pure (.string (rd [(⟨#[117]⟩ : ByteArray), (⟨#[118]⟩ : ByteArray)] y330)) rfl ?_
            exact r_nil (n_lp ⟨_, rfl, undef, rfl, H444⟩)
          · intro η314 wd448 hV449 H447
            have H450 : Hp w0 (Bx b304 28 [.int .i64 ((rd l_ (w64 (w64 (mn (l_.length : Int) 8 - 1) - v49))).Seller), .int .i64 ((rd l_ (w64 (w64 (mn (l_.length : Int) 8 - 1) - v49))).Buyer), .int .i64 ((rd l_ (w64 (w64 (mn (l_.length : Int) 8 - 1) - v49))).f_N)] :: MpP ME25 b27 (pput mm48 ((rd [(⟨#[112]⟩ : ByteArray), (⟨#[113]⟩ : ByteArray), (⟨#[114]⟩ : ByteArray)] y79), (rd [(⟨#[117]⟩ : ByteArray), (⟨#[118]⟩ : ByteArray)] y91)) (w64 (pgetD (0 : Int) mm48 ((rd [(⟨#[112]⟩ : ByteArray), (⟨#[113]⟩ : ByteArray), (⟨#[114]⟩ : ByteArray)] y79), (rd [(⟨#[117]⟩ : ByteArray), (⟨#[118]⟩ : ByteArray)] y91)) + y212))) :: Bx b13 53 [.slice A225 y219.f_l.length c227] :: Row K38 (.slice A225 y219.f_l.length c227) y219.f_l :: Row (Kr 23 1 (by decide)) (.slice (some ⟨b63, 0, none⟩) 2 2) [(⟨[.pointer (some ⟨b13, 0, none⟩)], rfl, rfl⟩ : Raw 1), (⟨[.pointer (some ⟨b23, 0, none⟩)], rfl, rfl⟩ : Raw 1)] :: Row K38 (.slice A44 xs47.length c46) xs47 :: Bx b23 53 [.slice A44 xs47.length c46] :: Γ) wd448 := H447.d.d
            refine n_frame [(0, .slice A1 l_.length c2), (3, .pointer (some ⟨b13, 0, none⟩)), (4, .pointer (some ⟨b23, 0, none⟩)), (5, .map (some b27)), (6, .int .i64 (mn (l_.length : Int) 8)), (7, .int .i64 v49), (8, .int .i64 1), (9, .pointer (some ⟨b23, 0, none⟩)), (10, .pointer (some ⟨b304, 0, none⟩)), (11, .string (rd [(⟨#[112]⟩ : ByteArray), (⟨#[113]⟩ : ByteArray), (⟨#[114]⟩ : ByteArray)] y318)), (12, .string (rd [(⟨#[117]⟩ : ByteArray), (⟨#[118]⟩ : ByteArray)] y330)), (40, .slice (some ⟨b63, 0, none⟩) 2 2), (41, .int .i64 2), (42, .int .i64 1)] (ac rfl (ac rfl (ac rfl (ac rfl (ac rfl (ac rfl (ac rfl (ac rfl (ac rfl (ac (hV449 12 rfl) (ac (hV449 13 rfl) (ac rfl (ac rfl (ac rfl an)))))))))))))) ?_
            refine n_sq ?_
            refine st_seq ?_
            refine st_region ?_
            refine r_fa FA28_2 ⟨b304, 2, none⟩ rfl rfl ?_
            refine r_ld1 (.int .i64 ((rd l_ (w64 (w64 (mn (l_.length : Int) 8 - 1) - v49))).f_N)) LD3 rfl ((H450.g0).cell _ rfl) ?_
            obtain ⟨y451, hy452, hm⟩ := bind_some hm
            refine r_callf Try.call6 (scutagekeep_Within_ok ((rd l_ (w64 (w64 (mn (l_.length : Int) 8 - 1) - v49))).f_N) 1000 y451 H450 hy452) ?_
            rintro e454 wd453 ⟨rfl, H456⟩
            refine ⟨_, rfl, ?_⟩
            refine r_pure (.int .i64 y451) rfl ?_
            refine r_seq ?_
            refine st_seq ?_
            refine st_seq ?_
            refine st_region ?_
            refine r_pure (.pointer (some ⟨b23, 0, none⟩)) rfl ?_
            refine r_pure (.string (rd [(⟨#[112]⟩ : ByteArray), (⟨#[113]⟩ : ByteArray), (⟨#[114]⟩ : ByteArray)] y318)) rfl ?_
            refine r_pure (.string (rd [(⟨#[117]⟩ : ByteArray), (⟨#[118]⟩ : ByteArray)] y330)) rfl ?_
            refine r_pure (.int .i64 y451) rfl ?_
            obtain ⟨⟨y457, y458⟩, hy459, hm⟩ := bind_some hm
            refine r_callf Try.call7 (cross_Cross_Add_ok b23 (⟨xs47⟩ : cross_Cross) A44 c46 (rd [(⟨#[112]⟩ : ByteArray), (⟨#[113]⟩ : ByteArray), (⟨#[114]⟩ : ByteArray)] y318) (rd [(⟨#[117]⟩ : ByteArray), (⟨#[118]⟩ : ByteArray)] y330) y451 y457 y458 H456.u5.u6 hy459) ?_
            rintro e461 wd460 ⟨A464, n465, c466, rfl, H463⟩
            obtain rfl := (H463.g1).leneq
            refine ⟨_, rfl, ?_⟩
            refine r_pure (.bool (y457 != 0)) rfl ?_
            refine r_seq ?_
            rcases ite_some hm with ⟨hb467, hm⟩ | ⟨hb467, hm⟩
            · refine st_condt hb467 rfl ?_
              refine st_seq ?_
              refine st_region ?_
              refine r_pure (.bool false) rfl ?_
              refine r_seq ?_
              have hq_ := Option.some.inj hm
              subst hq_
              have hq_ := Option.some.inj (show some (false : Bool) = some r0_ from hm51)
              subst hq_
              refine st_ret1 rfl rfl (Nat.le_of_ble_eq_true rfl) rfl ?_
              exact ⟨rfl, H463.d.d.d.d.d.d.d⟩
            · refine st_condf hb467 rfl ?_
              refine st_skip ?_
              refine n_sq ?_
              refine st_seq ?_
              refine st_region ?_
              refine r_pure (.int .i64 1) rfl ?_
              refine r_pure (.bool (1 == 0)) rfl ?_
              refine r_seq ?_
              refine st_condf (by decide) rfl ?_
              refine st_skip ?_
              refine n_bl ?_
              refine n_sq ?_
              refine st_region ?_
              refine r_pure (.int .i64 2) rfl ?_
              refine r_pure (.int .i64 2) rfl ?_
              refine r_nil ?_
              refine n_round ?_
              refine l_round ?_
              refine st_seq ?_
              refine st_region ?_
              refine r_pure (.bool (decide (2 < 2))) rfl ?_
              refine r_seq ?_
              refine st_seq ?_
              refine st_condf (by decide) rfl ?_
              refine st_exit rfl ?_
              refine n_bl ?_
              refine n_sq ?_
              refine st_region ?_
              refine r_pure (.int .i64 v49) rfl ?_
              refine r_pure (.int .i64 (w64 (v49 + 1))) rfl ?_
              refine r_pure (.int .i64 (w64 (v49 + 1))) rfl ?_
              refine r_nil ?_
              refine n_round (IH61 _ _ _ ⟨y219.f_l, y458.f_l, pput mm48 ((rd [(⟨#[112]⟩ : ByteArray), (⟨#[113]⟩ : ByteArray), (⟨#[114]⟩ : ByteArray)] y79), (rd [(⟨#[117]⟩ : ByteArray), (⟨#[118]⟩ : ByteArray)] y91)) (w64 (pgetD (0 : Int) mm48 ((rd [(⟨#[112]⟩ : ByteArray), (⟨#[113]⟩ : ByteArray), (⟨#[114]⟩ : ByteArray)] y79), (rd [(⟨#[117]⟩ : ByteArray), (⟨#[118]⟩ : ByteArray)] y91)) + y212)), w64 (v49 + 1), A225, y219.f_l.length, c227, A464, y458.f_l.length, c466, rfl, upk (ac rfl (ac rfl (ac rfl (ac rfl (ac rfl (ac rfl an)))))), H463.u2.d.u5.d.u2.u1.u2.u3.u4⟩ hm)
  · refine st_condf hb62 rfl ?_
    have hq_ := Option.some.inj hm
    refine st_exit rfl ?_
    subst hq_
    refine n_sq ?_
    refine st_seq ?_
    refine st_region ?_
    refine r_pure (.pointer (some ⟨b13, 0, none⟩)) rfl ?_
    obtain ⟨y468, hy469, hm⟩ := bind_some hm51
    refine r_callf Try.call8 (cross_Cross_Rows_ok b13 (⟨xs43⟩ : cross_Cross) A40 xs43.length c42 rfl (((H50).g0).cap) (fun _ H => (H.g0.rd)) (fun _ H => (H.g1)) y468 H50 hy469) ?_
    rintro e471 wd470 ⟨A474, n475, c476, rfl, H473⟩
    obtain rfl := (H473.g0).leneq
    refine ⟨_, rfl, ?_⟩
    refine r_pure (.slice A474 y468.length c476) rfl ?_
    refine r_seq ?_
    refine st_seq ?_
    refine st_seq ?_
    refine st_region ?_
    refine r_pure (.slice A474 y468.length c476) rfl ?_
    refine r_pure (.pointer (some ⟨b23, 0, none⟩)) rfl ?_
    obtain ⟨y477, hy478, hm⟩ := bind_some hm
    refine r_callf Try.call8 (cross_Cross_Rows_ok b23 (⟨xs47⟩ : cross_Cross) A44 xs47.length c46 rfl (((H473).g3).cap) (fun _ H => (H.g3.rd)) (fun _ H => (H.g4)) y477 H473 hy478) ?_
    rintro e480 wd479 ⟨A483, n484, c485, rfl, H482⟩
    obtain rfl := (H482.g0).leneq
    refine ⟨_, rfl, ?_⟩
    obtain ⟨y486, hy487, hm⟩ := bind_some hm
    refine r_callf Try.call9 (scutagekeep_Same_cross_Row_ok y468 A474 y468.length c476 rfl (((H482).g1).cap) (fun _ H => (H.g1.rd)) y477 A483 y477.length c485 rfl (((H482).g0).cap) (fun _ H => (H.g0.rd)) y486 H482 hy487) ?_
    rintro e489 wd488 ⟨rfl, H491⟩
    refine ⟨_, rfl, ?_⟩
    refine r_pure (.bool (!y486)) rfl ?_
    refine r_seq ?_
    rcases ite_some hm with ⟨hb492, hm⟩ | ⟨hb492, hm⟩
    · refine st_condt hb492 rfl ?_
      refine st_seq ?_
      refine st_region ?_
      refine r_pure (.bool false) rfl ?_
      refine r_seq ?_
      have hq_ := Option.some.inj hm
      subst hq_
      refine st_ret1 rfl rfl (Nat.le_of_ble_eq_true rfl) rfl ?_
      exact ⟨rfl, H491.d.d.d.d.d.d.d⟩
    · refine st_condf hb492 rfl ?_
      refine st_skip ?_
      refine n_sq ?_
      refine st_seq ?_
      refine st_region ?_
      refine r_pure (.int .i64 0) rfl ?_
      refine r_seq ?_
      refine st_seq ?_
      refine st_seq ?_
      refine st_region ?_
      refine r_pure (.map (some b27)) rfl ?_
      refine r_range MT25 rfl H491.u6 ?_
      intro b493 wd495 H494
      refine r_seq ?_
      refine st_block ?_
      obtain ⟨tl502, hl503, hm501⟩ := bind_some hm
      refine st_loopM (scutagelaw24_CrossOrder.l2) (fun ys507 s ρ w => ∃ v499 : Int, ∃ o498 : Option ((ByteArray × ByteArray) × Int), v499 = s ∧ (∃ base, ρ = updl base [(3, .pointer (some ⟨b13, 0, none⟩)), (4, .pointer (some ⟨b23, 0, none⟩)), (5, .map (some b27)), (14, .slice A474 y468.length c476), (15, .int .i64 v499), (101, .pointer (some ⟨b493, 0, none⟩))]) ∧ Hp w0 (Row K38 (.slice A40 xs43.length c42) xs43 :: Bx b13 53 [.slice A40 xs43.length c42] :: Row K38 (.slice A44 xs47.length c46) xs47 :: Bx b23 53 [.slice A44 xs47.length c46] :: MpW ME25 b27 b493 mm48 ys507 o498 :: Row K38 (.slice A474 y468.length c476) y468 :: Γ) w) hl503 ⟨0, (none), rfl, upk (ac rfl (ac rfl (ac rfl (ac rfl (ac rfl (ac rfl an)))))), H494.u1.d.u1.u1.u5.u5.u5.u5⟩ ?_
      rintro m ys507 IH511 s ρ w ⟨v499, o498, rfl, ⟨base, rfl⟩, H500⟩ hm
      rcases ys507 with _ | ⟨y508, ys509⟩
      · rw [scutagelaw24_CrossOrder.l2] at hm
        refine st_seq ?_
        refine st_region ?_
        refine r_next0 rfl H500.u4 ?_
        have H512 : Hp w0 (MpP ME25 b27 mm48 :: _) _ := (H500.u4).imp fun _ h_ => h_.mp
        refine r_pure (.bool false) rfl ?_
        refine r_seq ?_
        refine st_seq ?_
        refine st_condf rfl rfl ?_
        have hq_ := Option.some.inj hm
        refine st_exit rfl ?_
        subst hq_
        refine n_sq ?_
        refine st_seq ?_
        refine st_seq ?_
        refine st_region ?_
        refine r_pure (.slice A474 y468.length c476) rfl ?_
        refine r_len Try.underlying34 rfl ?_
        refine r_pure (.int .i64 0) rfl ?_
        refine r_seq ?_
        refine st_block ?_
        have hlim532 := (H512.g5.rd).lim
        obtain ⟨tl515, hl516, hm514⟩ := bind_some hm501
        refine st_loopL (scutagelaw24_CrossOrder.l3 mm48 y468) (fun ys521 s ρ w => ∃ i517 : Int, ∃ dn518 : List cross_Row, i517 = s ∧ y468 = dn518 ++ ys521 ∧ i517 = (dn518.length : Int) ∧ (∃ base, ρ = updl base [(3, .pointer (some ⟨b13, 0, none⟩)), (4, .pointer (some ⟨b23, 0, none⟩)), (5, .map (some b27)), (14, .slice A474 y468.length c476), (15, .int .i64 v499), (110, .slice A474 y468.length c476), (111, .int .i64 (y468.length : Int)), (112, .int .i64 i517)]) ∧ Hp w0 (Row K38 (.slice A40 xs43.length c42) xs43 :: Bx b13 53 [.slice A40 xs43.length c42] :: Row K38 (.slice A44 xs47.length c46) xs47 :: Bx b23 53 [.slice A44 xs47.length c46] :: MpP ME25 b27 mm48 :: Row K38 (.slice A474 y468.length c476) y468 :: Γ) w) hl516 ⟨0, [], rfl, rfl, rfl, upk (ac rfl (ac rfl (ac rfl (ac rfl (ac rfl (ac rfl (ac rfl (ac rfl an)))))))), H512.u5.u1.u5.u5.u5.u5⟩ ?_
        rintro m ys521 IH525 s ρ w ⟨i517, dn518, rfl, hxs519, hi520, ⟨base, rfl⟩, H513⟩ hm
        rcases ys521 with _ | ⟨y522, ys521⟩
        · rw [scutagelaw24_CrossOrder.l3] at hm
          have hb526 := range_end hxs519 hi520
          refine st_seq ?_
          refine st_region ?_
          refine r_pure (.bool (decide (i517 < (y468.length : Int)))) rfl ?_
          refine r_seq ?_
          refine st_seq ?_
          refine st_condf hb526 rfl ?_
          have hq_ := Option.some.inj hm
          refine st_exit rfl ?_
          subst hq_
          refine n_sq ?_
          refine st_seq ?_
          refine st_seq ?_
          refine st_region ?_
          refine r_pure (.slice A474 y468.length c476) rfl ?_
          refine r_len Try.underlying34 rfl ?_
          refine r_pure (.int .i64 0) rfl ?_
          refine r_seq ?_
          refine st_block ?_
          have hlim554 := (H513.g5.rd).lim
          obtain ⟨tl537, hl538, hm536⟩ := bind_some hm514
          refine st_loopL (scutagelaw24_CrossOrder.l4) (fun ys543 s ρ w => ∃ i539 : Int, ∃ xs534 : List cross_Row, ∃ dn540 : List cross_Row, (i539, xs534) = s ∧ y468 = dn540 ++ ys543 ∧ i539 = (dn540.length : Int) ∧ (∃ base, ρ = updl base [(3, .pointer (some ⟨b13, 0, none⟩)), (4, .pointer (some ⟨b23, 0, none⟩)), (14, .slice A474 y468.length c476), (15, .int .i64 v499), (171, .int .i64 (y468.length : Int)), (172, .int .i64 i539)]) ∧ Hp w0 (Row K38 (.slice A40 xs43.length c42) xs43 :: Bx b13 53 [.slice A40 xs43.length c42] :: Row K38 (.slice A44 xs47.length c46) xs47 :: Bx b23 53 [.slice A44 xs47.length c46] :: Row K38 (.slice A474 y468.length c476) xs534 :: Γ) w) hl538 ⟨0, y468, [], rfl, rfl, rfl, upk (ac rfl (ac rfl (ac rfl (ac rfl (ac rfl (ac rfl an)))))), H513.u4.d.u4.u4.u4.u4.u4⟩ ?_
          rintro m ys543 IH547 s ρ w ⟨i539, xs534, dn540, rfl, hxs541, hi542, ⟨base, rfl⟩, H535⟩ hm
          rcases ys543 with _ | ⟨y544, ys543⟩
          · rw [scutagelaw24_CrossOrder.l4] at hm
            have hb548 := range_end hxs541 hi542
            refine st_seq ?_
            refine st_region ?_
            refine r_pure (.bool (decide (i539 < (y468.length : Int)))) rfl ?_
            refine r_seq ?_
            refine st_seq ?_
            refine st_condf hb548 rfl ?_
            have hq_ := Option.some.inj hm
            refine st_exit rfl ?_
            subst hq_
            refine n_sq ?_
            refine st_cut (fun ρ w => ∃ q555 : Bool, (∃ base, ρ = updl base [(2, .bool q555)]) ∧ Hp w0 (Γ) w ∧ scutagelaw24_CrossOrder.j1 q555 = some r0_) ?_ ?_
            · refine st_region ?_
              refine r_pure (.slice A474 y468.length c476) rfl ?_
              refine r_len Try.underlying34 rfl ?_
              refine r_pure (.int .i64 v499) rfl ?_
              refine r_pure (.bool ((y468.length : Int) == v499)) rfl ?_
              refine r_pure (.bool ((y468.length : Int) == v499)) rfl ?_
              rcases ite_some hm536 with ⟨hb557, hm⟩ | ⟨hb557, hm⟩
              · refine r_pure (.pointer (some ⟨b13, 0, none⟩)) rfl ?_ (wn_t rfl rfl (by decide) rfl hb557)
                obtain ⟨y558, hy559, hm⟩ := bind_some hm
                refine r_callf Try.call8 (cross_Cross_Rows_ok b13 (⟨xs43⟩ : cross_Cross) A40 xs43.length c42 rfl (((H535).g0).cap) (fun _ H => (H.g0.rd)) (fun _ H => (H.g1)) y558 H535 hy559) ?_ (wn_t rfl rfl (by decide) rfl hb557)
                rintro e561 wd560 ⟨A564, n565, c566, rfl, H563⟩
                obtain rfl := (H563.g0).leneq
                refine ⟨_, rfl, ?_⟩
                refine r_pure (.pointer (some ⟨b23, 0, none⟩)) rfl ?_ (wn_t rfl rfl (by decide) rfl hb557)
                obtain ⟨y567, hy568, hm⟩ := bind_some hm
                refine r_callf Try.call8 (cross_Cross_Rows_ok b23 (⟨xs47⟩ : cross_Cross) A44 xs47.length c46 rfl (((H563).g3).cap) (fun _ H => (H.g3.rd)) (fun _ H => (H.g4)) y567 H563 hy568) ?_ (wn_t rfl rfl (by decide) rfl hb557)
                rintro e570 wd569 ⟨A573, n574, c575, rfl, H572⟩
                obtain rfl := (H572.g0).leneq
                refine ⟨_, rfl, ?_⟩
                obtain ⟨y576, hy577, hm⟩ := bind_some hm
                refine r_callf Try.call9 (scutagekeep_Same_cross_Row_ok y558 A564 y558.length c566 rfl (((H572).g1).cap) (fun _ H => (H.g1.rd)) y567 A573 y567.length c575 rfl (((H572).g0).cap) (fun _ H => (H.g0.rd)) y576 H572 hy577) ?_ (wn_t rfl rfl (by decide) rfl hb557)
                rintro e579 wd578 ⟨rfl, H581⟩
                refine ⟨_, rfl, ?_⟩
                refine r_pick_t (.bool y576) hb557 rfl rfl ?_
                refine r_pure (.bool y576) rfl ?_
                rcases ite_some hm with ⟨hb582, hm⟩ | ⟨hb582, hm⟩
                · obtain ⟨y583, hy584, hm⟩ := bind_some hm
                  refine r_callf Try.call10 (scutagelaw24_wakes_ok  y583 H581 hy584) ?_ (wn_t rfl rfl (by decide) rfl hb582)
                  rintro e586 wd585 ⟨rfl, H588⟩
                  refine ⟨_, rfl, ?_⟩
                  refine r_pick_t (.bool y583) hb582 rfl rfl ?_
                  refine r_pure (.bool y583) rfl ?_
                  refine r_nil ?_
                  refine n_cut ⟨y583, upk (ac rfl an), H588.d.d.d.d.d.d.d, hm⟩
                · refine r_not (wn_f rfl rfl (by decide) rfl hb582) ?_
                  refine r_pick_f (.bool false) hb582 rfl rfl ?_
                  refine r_pure (.bool false) rfl ?_
                  refine r_nil ?_
                  refine n_cut ⟨false, upk (ac rfl an), H581.d.d.d.d.d.d.d, hm⟩
              · refine r_not (wn_f rfl rfl (by decide) rfl hb557) ?_
                refine r_not (wn_f rfl rfl (by decide) rfl hb557) ?_
                refine r_not (wn_f rfl rfl (by decide) rfl hb557) ?_
                refine r_not (wn_f rfl rfl (by decide) rfl hb557) ?_
                refine r_not (wn_f rfl rfl (by decide) rfl hb557) ?_
                refine r_pick_f (.bool false) hb557 rfl rfl ?_
                refine r_pure (.bool false) rfl ?_
                refine r_not (wn_f rfl rfl (by decide) rfl rfl) ?_
                refine r_pick_f (.bool false) rfl rfl rfl ?_
                refine r_pure (.bool false) rfl ?_
                refine r_nil ?_
                refine n_cut ⟨false, upk (ac rfl an), H535.d.d.d.d.d, hm⟩
            · rintro ρ w ⟨q555, ⟨base, rfl⟩, H556, hm⟩
              unfold scutagelaw24_CrossOrder.j1 at hm
              have hq_ := Option.some.inj hm
              subst hq_
              refine st_ret1 rfl rfl (Nat.le_of_ble_eq_true rfl) rfl ?_
              exact ⟨rfl, H556⟩
          · rw [scutagelaw24_CrossOrder.l4] at hm
            have hb549 := range_in hxs541 hi542
            obtain ⟨h0550, h1551, hj552⟩ := range_ix hxs541 hi542
            have hnx553 := range_next hxs541 hi542 hlim554
            refine st_seq ?_
            refine st_region ?_
            refine r_pure (.bool (decide (i539 < (y468.length : Int)))) rfl ?_
            refine r_seq ?_
            refine st_seq ?_
            refine st_condt hb549 rfl ?_
            refine st_skip ?_
            refine n_sq ?_
            refine st_seq ?_
            refine st_block ?_
            refine st_seq ?_
            refine st_region ?_
            refine r_pure (.int .i64 i539) rfl ?_
            refine r_pure (.int .i64 i539) rfl ?_
            refine r_seq ?_
            refine st_region ?_
            refine r_pure (.slice A474 y468.length c476) rfl ?_
            refine r_pure (.int .i64 i539) rfl ?_
            obtain ⟨⟨h0589, h1590⟩, hm⟩ := gd_some hm
            have hj591 := rd_get h0589 h1590
            have hA592 := (H535.g4.rd).adO hj591
            refine r_ix IX34 rfl rfl hA592 h0589 (by have h1_ := (H535.g4).leneq; have h2_ := h1590; rw [← h1_] at h2_; exact h2_) ?_
            refine r_fa FA38_2 (((oA A474).add (Int.toNat i539 * 3)).add 2) rfl rfl ?_
            refine r_ld1 (.int .i64 ((rd xs534 i539).Amount)) LD3 rfl ((H535.g4.rd).cA hA592 hj591 2 _ rfl) ?_
            refine r_pure (.int .i64 (w64 ((rd xs534 i539).Amount + 1))) rfl ?_
            refine r_ix IX34 rfl rfl hA592 h0589 (by have h1_ := (H535.g4).leneq; have h2_ := h1590; rw [← h1_] at h2_; exact h2_) ?_
            refine r_fa FA38_2 (((oA A474).add (Int.toNat i539 * 3)).add 2) rfl rfl ?_
            refine r_stx1 (K := K38) ((⟨(rd xs534 i539).Seller, (rd xs534 i539).Buyer, w64 ((rd xs534 i539).Amount + 1)⟩ : cross_Row)) hA592 LD3 rfl rfl rfl H535.u4 hj591 (by decide) rfl ?_
            intro wd594 H593
            refine r_nil ?_
            refine n_bl ?_
            refine n_sq ?_
            refine st_region ?_
            refine r_pure (.int .i64 (w64 (i539 + 1))) rfl ?_
            refine r_pure (.int .i64 (w64 (i539 + 1))) rfl ?_
            refine r_nil ?_
            refine n_round (IH547 _ _ rfl _ _ _ ⟨i539 + 1, xs534.set (Int.toNat i539) (⟨(rd xs534 i539).Seller, (rd xs534 i539).Buyer, w64 ((rd xs534 i539).Amount + 1)⟩ : cross_Row), dn540 ++ [y544], rfl, range_more hxs541, range_len hi542, upk (ac rfl (ac rfl (ac rfl (ac rfl (ac rfl (ac hnx553 an)))))), H593.u4.u4.u4.u4⟩ hm)
        · rw [scutagelaw24_CrossOrder.l3] at hm
          have hb527 := range_in hxs519 hi520
          obtain ⟨h0528, h1529, hj530⟩ := range_ix hxs519 hi520
          have hnx531 := range_next hxs519 hi520 hlim532
          refine st_seq ?_
          refine st_region ?_
          refine r_pure (.bool (decide (i517 < (y468.length : Int)))) rfl ?_
          refine r_seq ?_
          refine st_seq ?_
          refine st_condt hb527 rfl ?_
          refine st_skip ?_
          refine n_sq ?_
          refine st_seq ?_
          refine st_block ?_
          refine st_seq ?_
          refine st_region ?_
          refine r_pure (.int .i64 i517) rfl ?_
          have hA595 := (H513.g5.rd).adO hj530
          refine r_ix IX34 rfl rfl hA595 h0528 h1529 ?_
          refine r_ldA [.string y522.Seller, .string y522.Buyer, .int .i64 y522.Amount] LD38 rfl rfl ((H513.g5.rd).csA hA595 hj530) ?_
          refine r_alloc [.string ⟨#[]⟩, .string ⟨#[]⟩, .int .i64 0] Try.zeroValue38 H513 rfl ?_
          intro b596 wd598 H597
          refine r_pure (.int .i64 i517) rfl ?_
          refine r_stA [.string y522.Seller, .string y522.Buyer, .int .i64 y522.Amount] LD38 rfl rfl rfl rfl H597 (Nat.le_of_ble_eq_true rfl) rfl ?_
          intro wd600 H599
          refine r_seq ?_
          refine st_cut (fun ρ w => ∃ q601 : Bool, (∃ base, ρ = updl base [(3, .pointer (some ⟨b13, 0, none⟩)), (4, .pointer (some ⟨b23, 0, none⟩)), (5, .map (some b27)), (14, .slice A474 y468.length c476), (15, .int .i64 v499), (110, .slice A474 y468.length c476), (111, .int .i64 (y468.length : Int)), (112, .int .i64 i517), (168, .bool q601)]) ∧ Hp w0 (Row K38 (.slice A40 xs43.length c42) xs43 :: Bx b13 53 [.slice A40 xs43.length c42] :: Row K38 (.slice A44 xs47.length c46) xs47 :: Bx b23 53 [.slice A44 xs47.length c46] :: MpP ME25 b27 mm48 :: Row K38 (.slice A474 y468.length c476) y468 :: Γ) w ∧ scutagelaw24_CrossOrder.j2 (scutagelaw24_CrossOrder.l3 mm48 y468 ys521) i517 q601 = some tl515) ?_ ?_
          · rcases ite_some hm with ⟨hb605, hm⟩ | ⟨hb605, hm⟩
            · refine Flow.run' RA3_34 RW3_34 ((fun η604 v => v.1 = .pointer (some ⟨b596, 2, none⟩)) :: (fun η604 v => v.1 = .int .i64 y522.Amount) :: (fun η604 v => v.1 = .bool (y522.Amount == 0)) :: (fun η604 v => v.1 = .bool (y522.Amount == 0)) :: (fun η604 v => v.1 = undef) :: (fun η604 v => v.1 = undef) :: (fun η604 v => v.1 = undef) :: (fun η604 v => v.1 = undef) :: (fun η604 v => v.1 = undef) :: (fun η604 v => v.1 = undef) :: (fun η604 v => v.1 = undef) :: (fun η604 v => v.1 = undef) :: (fun η604 v => v.1 = undef) :: (fun η604 v => v.1 = undef) :: (fun η604 v => v.1 = .bool true) :: (fun η604 v => v.1 = .bool true) :: (fun η604 v => v.1 = undef) :: (fun η604 v => v.1 = undef) :: (fun η604 v => v.1 = undef) :: (fun η604 v => v.1 = undef) :: (fun η604 v => v.1 = undef) :: (fun η604 v => v.1 = undef) :: (fun η604 v => v.1 = undef) :: (fun η604 v => v.1 = undef) :: (fun η604 v => v.1 = undef) :: (fun η604 v => v.1 = undef) :: (fun η604 v => v.1 = undef) :: (fun η604 v => v.1 = undef) :: (fun η604 v => v.1 = undef) :: (fun η604 v => v.1 = undef) :: (fun η604 v => v.1 = undef) :: (fun η604 v => v.1 = undef) :: (fun η604 v => v.1 = undef) :: (fun η604 v => v.1 = undef) :: (fun η604 v => v.1 = undef) :: (fun η604 v => v.1 = undef) :: (fun η604 v => v.1 = undef) :: (fun η604 v => v.1 = undef) :: (fun η604 v => v.1 = undef) :: (fun η604 v => v.1 = undef) :: (fun η604 v => v.1 = undef) :: (fun η604 v => v.1 = undef) :: (fun η604 v => v.1 = undef) :: (fun η604 v => v.1 = undef) :: (fun η604 v => v.1 = undef) :: (fun η604 v => v.1 = undef) :: (fun η604 v => v.1 = undef) :: (fun η604 v => v.1 = undef) :: (fun η604 v => v.1 = undef) :: (fun η604 v => v.1 = undef) :: (fun η604 v => v.1 = undef) :: (fun η604 v => v.1 = .bool true) :: []) [] rfl (by kernel_rfl) (by kernel_rfl) H599 ⟨?_, ?_, ?_, ?_, ?_, ?_, ?_, ?_, ?_, ?_, ?_, ?_, ?_, ?_, ?_, ?_, ?_, ?_, ?_, ?_, ?_, ?_, ?_, ?_, ?_, ?_, ?_, ?_, ?_, ?_, ?_, ?_, ?_, ?_, ?_, ?_, ?_, ?_, ?_, ?_, ?_, ?_, ?_, ?_, ?_, ?_, ?_, ?_, ?_, ?_, ?_, ?_, trivial⟩ ?_
              · intro η604 wd610 Δ611 hE606 hR607 hA608 H609
                refine sp_op [(19, .pointer (some ⟨b596, 0, none⟩))] (ac rfl an) ?_
                refine r_fa FA38_2 ⟨b596, 2, none⟩ rfl rfl ?_
                exact r_nil (n_lp ⟨_, rfl, undef, rfl, H609⟩)
              · intro η604 wd616 Δ617 hE612 hR613 hA614 H615
                have H615 : Hp w0 ((Δ617 ++ (Bx b596 38 [.string y522.Seller, .string y522.Buyer, .int .i64 y522.Amount] :: Row K38 (.slice A40 xs43.length c42) xs43 :: Bx b13 53 [.slice A40 xs43.length c42] :: Row K38 (.slice A44 xs47.length c46) xs47 :: Bx b23 53 [.slice A44 xs47.length c46] :: MpP ME25 b27 mm48 :: Row K38 (.slice A474 y468.length c476) y468 :: Γ))) wd616 := H615
                refine sp_op [(117, .pointer (some ⟨b596, 2, none⟩))] (ac (hE612 0 (by decide)) an) ?_
                refine r_ld1 (.int .i64 y522.Amount) LD3 rfl (((H615).tl.g0).cell _ rfl) ?_
                exact r_nil (n_lp ⟨_, rfl, undef, rfl, H615⟩)
              · intro η604 wd622 Δ623 hE618 hR619 hA620 H621
                refine sp_op [(118, .int .i64 y522.Amount)] (ac (hE618 1 (by decide)) an) ?_
                refine r_pure (.bool (y522.Amount == 0)) rfl ?_
                exact r_nil (n_lp ⟨_, rfl, undef, rfl, H621⟩)
              · intro η604 wd628 Δ629 hE624 hR625 hA626 H627
                refine sp_op [(119, .bool (y522.Amount == 0))] (ac (hE624 2 (by decide)) an) ?_
                refine r_pure (.bool (y522.Amount == 0)) rfl ?_
                exact r_nil (n_lp ⟨_, rfl, undef, rfl, H627⟩)
              · intro η604 wd634 Δ635 hE630 hR631 hA632 H633
                refine sp_op [(120, .bool (y522.Amount == 0))] (ac (hE630 3 (by decide)) an) ?_
                refine r_not (wn_f rfl rfl (by decide) rfl hb605) ?_
                exact r_nil (n_lp ⟨_, rfl, undef, rfl, H633⟩)
              · intro η604 wd640 Δ641 hE636 hR637 hA638 H639
                refine sp_op [(120, .bool (y522.Amount == 0))] (ac (hE636 3 (by decide)) an) ?_
                refine r_not (wn_f rfl rfl (by decide) rfl hb605) ?_
                exact r_nil (n_lp ⟨_, rfl, undef, rfl, H639⟩)
              · intro η604 wd646 Δ647 hE642 hR643 hA644 H645
                refine sp_op [(120, .bool (y522.Amount == 0))] (ac (hE642 3 (by decide)) an) ?_
                refine r_not (wn_f rfl rfl (by decide) rfl hb605) ?_
                exact r_nil (n_lp ⟨_, rfl, undef, rfl, H645⟩)
              · intro η604 wd652 Δ653 hE648 hR649 hA650 H651
                refine sp_op [(120, .bool (y522.Amount == 0))] (ac (hE648 3 (by decide)) an) ?_
                refine r_not (wn_f rfl rfl (by decide) rfl hb605) ?_
                exact r_nil (n_lp ⟨_, rfl, undef, rfl, H651⟩)
              · intro η604 wd658 Δ659 hE654 hR655 hA656 H657
                refine sp_op [(120, .bool (y522.Amount == 0))] (ac (hE654 3 (by decide)) an) ?_
                refine r_not (wn_f rfl rfl (by decide) rfl hb605) ?_
                exact r_nil (n_lp ⟨_, rfl, undef, rfl, H657⟩)
              · intro η604 wd664 Δ665 hE660 hR661 hA662 H663
                refine sp_op [(120, .bool (y522.Amount == 0))] (ac (hE660 3 (by decide)) an) ?_
                refine r_not (wn_f rfl rfl (by decide) rfl hb605) ?_
                exact r_nil (n_lp ⟨_, rfl, undef, rfl, H663⟩)
              · intro η604 wd670 Δ671 hE666 hR667 hA668 H669
                refine sp_op [(120, .bool (y522.Amount == 0))] (ac (hE666 3 (by decide)) an) ?_
                refine r_not (wn_f rfl rfl (by decide) rfl hb605) ?_
                exact r_nil (n_lp ⟨_, rfl, undef, rfl, H669⟩)
              · intro η604 wd676 Δ677 hE672 hR673 hA674 H675
                refine sp_op [(120, .bool (y522.Amount == 0))] (ac (hE672 3 (by decide)) an) ?_
                refine r_not (wn_f rfl rfl (by decide) rfl hb605) ?_
                exact r_nil (n_lp ⟨_, rfl, undef, rfl, H675⟩)
              · intro η604 wd682 Δ683 hE678 hR679 hA680 H681
                refine sp_op [(120, .bool (y522.Amount == 0))] (ac (hE678 3 (by decide)) an) ?_
                refine r_not (wn_f rfl rfl (by decide) rfl hb605) ?_
                exact r_nil (n_lp ⟨_, rfl, undef, rfl, H681⟩)
              · intro η604 wd688 Δ689 hE684 hR685 hA686 H687
                refine sp_op [(120, .bool (y522.Amount == 0))] (ac (hE684 3 (by decide)) an) ?_
                refine r_not (wn_f rfl rfl (by decide) rfl hb605) ?_
                exact r_nil (n_lp ⟨_, rfl, undef, rfl, H687⟩)
              · intro η604 wd694 Δ695 hE690 hR691 hA692 H693
                refine sp_op [(120, .bool (y522.Amount == 0)), (130, undef)] (ac (hE690 3 (by decide)) (ac (hE690 13 (by decide)) an)) ?_
                refine r_pick_t (.bool true) hb605 rfl rfl ?_
                exact r_nil (n_lp ⟨_, rfl, undef, rfl, H693⟩)
              · intro η604 wd700 Δ701 hE696 hR697 hA698 H699
                refine sp_op [(131, .bool true)] (ac (hE696 14 (by decide)) an) ?_
                refine r_pure (.bool true) rfl ?_
                exact r_nil (n_lp ⟨_, rfl, undef, rfl, H699⟩)
              · intro η604 wd706 Δ707 hE702 hR703 hA704 H705
                refine sp_op [(132, .bool true)] (ac (hE702 15 (by decide)) an) ?_
                refine r_not (wn_f rfl rfl (by decide) rfl rfl) ?_
                exact r_nil (n_lp ⟨_, rfl, undef, rfl, H705⟩)
              · intro η604 wd712 Δ713 hE708 hR709 hA710 H711
                refine sp_op [(132, .bool true)] (ac (hE708 15 (by decide)) an) ?_
                refine r_not (wn_f rfl rfl (by decide) rfl rfl) ?_
                exact r_nil (n_lp ⟨_, rfl, undef, rfl, H711⟩)
              · intro η604 wd718 Δ719 hE714 hR715 hA716 H717
                refine sp_op [(132, .bool true)] (ac (hE714 15 (by decide)) an) ?_
                refine r_not (wn_f rfl rfl (by decide) rfl rfl) ?_
                exact r_nil (n_lp ⟨_, rfl, undef, rfl, H717⟩)
              · intro η604 wd724 Δ725 hE720 hR721 hA722 H723
                refine sp_op [(135, undef)] (ac (hE720 18 (by decide)) an) ?_
                refine r_not (wn_u rfl rfl (by decide) rfl rfl) ?_
                exact r_nil (n_lp ⟨_, rfl, undef, rfl, H723⟩)
              · intro η604 wd730 Δ731 hE726 hR727 hA728 H729
                refine sp_op [(135, undef)] (ac (hE726 18 (by decide)) an) ?_
                refine r_not (wn_u rfl rfl (by decide) rfl rfl) ?_
                exact r_nil (n_lp ⟨_, rfl, undef, rfl, H729⟩)
              · intro η604 wd736 Δ737 hE732 hR733 hA734 H735
                refine sp_op [(135, undef)] (ac (hE732 18 (by decide)) an) ?_
                refine r_not (wn_u rfl rfl (by decide) rfl rfl) ?_
                exact r_nil (n_lp ⟨_, rfl, undef, rfl, H735⟩)
              · intro η604 wd742 Δ743 hE738 hR739 hA740 H741
                refine sp_op [(135, undef)] (ac (hE738 18 (by decide)) an) ?_
                refine r_not (wn_u rfl rfl (by decide) rfl rfl) ?_
                exact r_nil (n_lp ⟨_, rfl, undef, rfl, H741⟩)
              · intro η604 wd748 Δ749 hE744 hR745 hA746 H747
                refine sp_op [(135, undef)] (ac (hE744 18 (by decide)) an) ?_
                refine r_not (wn_u rfl rfl (by decide) rfl rfl) ?_
                exact r_nil (n_lp ⟨_, rfl, undef, rfl, H747⟩)
              · intro η604 wd754 Δ755 hE750 hR751 hA752 H753
                refine sp_op [(135, undef)] (ac (hE750 18 (by decide)) an) ?_
                refine r_not (wn_u rfl rfl (by decide) rfl rfl) ?_
                exact r_nil (n_lp ⟨_, rfl, undef, rfl, H753⟩)
              · intro η604 wd760 Δ761 hE756 hR757 hA758 H759
                refine sp_op [(135, undef)] (ac (hE756 18 (by decide)) an) ?_
                refine r_not (wn_u rfl rfl (by decide) rfl rfl) ?_
                exact r_nil (n_lp ⟨_, rfl, undef, rfl, H759⟩)
              · intro η604 wd766 Δ767 hE762 hR763 hA764 H765
                refine sp_op [(135, undef)] (ac (hE762 18 (by decide)) an) ?_
                refine r_not (wn_u rfl rfl (by decide) rfl rfl) ?_
                exact r_nil (n_lp ⟨_, rfl, undef, rfl, H765⟩)
              · intro η604 wd772 Δ773 hE768 hR769 hA770 H771
                refine sp_op [(135, undef)] (ac (hE768 18 (by decide)) an) ?_
                refine r_not (wn_u rfl rfl (by decide) rfl rfl) ?_
                exact r_nil (n_lp ⟨_, rfl, undef, rfl, H771⟩)
              · intro η604 wd778 Δ779 hE774 hR775 hA776 H777
                refine sp_op [(135, undef)] (ac (hE774 18 (by decide)) an) ?_
                refine r_not (wn_u rfl rfl (by decide) rfl rfl) ?_
                exact r_nil (n_lp ⟨_, rfl, undef, rfl, H777⟩)
              · intro η604 wd784 Δ785 hE780 hR781 hA782 H783
                refine sp_op [(145, undef)] (ac (hE780 28 (by decide)) an) ?_
                refine r_not (wn_u rfl rfl (by decide) rfl rfl) ?_
                exact r_nil (n_lp ⟨_, rfl, undef, rfl, H783⟩)
              · intro η604 wd790 Δ791 hE786 hR787 hA788 H789
                refine sp_op [(145, undef)] (ac (hE786 28 (by decide)) an) ?_
                refine r_not (wn_u rfl rfl (by decide) rfl rfl) ?_
                exact r_nil (n_lp ⟨_, rfl, undef, rfl, H789⟩)
              · intro η604 wd796 Δ797 hE792 hR793 hA794 H795
                refine sp_op [(145, undef)] (ac (hE792 28 (by decide)) an) ?_
                refine r_not (wn_u rfl rfl (by decide) rfl rfl) ?_
                exact r_nil (n_lp ⟨_, rfl, undef, rfl, H795⟩)
              · intro η604 wd802 Δ803 hE798 hR799 hA800 H801
                refine sp_op [(145, undef)] (ac (hE798 28 (by decide)) an) ?_
                refine r_not (wn_u rfl rfl (by decide) rfl rfl) ?_
                exact r_nil (n_lp ⟨_, rfl, undef, rfl, H801⟩)
              · intro η604 wd808 Δ809 hE804 hR805 hA806 H807
                refine sp_op [(145, undef)] (ac (hE804 28 (by decide)) an) ?_
                refine r_not (wn_u rfl rfl (by decide) rfl rfl) ?_
                exact r_nil (n_lp ⟨_, rfl, undef, rfl, H807⟩)
              · intro η604 wd814 Δ815 hE810 hR811 hA812 H813
                refine sp_op [(145, undef)] (ac (hE810 28 (by decide)) an) ?_
                refine r_not (wn_u rfl rfl (by decide) rfl rfl) ?_
                exact r_nil (n_lp ⟨_, rfl, undef, rfl, H813⟩)
              · intro η604 wd820 Δ821 hE816 hR817 hA818 H819
                refine sp_op [(145, undef)] (ac (hE816 28 (by decide)) an) ?_
                refine r_not (wn_u rfl rfl (by decide) rfl rfl) ?_
                exact r_nil (n_lp ⟨_, rfl, undef, rfl, H819⟩)
              · intro η604 wd826 Δ827 hE822 hR823 hA824 H825
                refine sp_op [(145, undef)] (ac (hE822 28 (by decide)) an) ?_
                refine r_not (wn_u rfl rfl (by decide) rfl rfl) ?_
                exact r_nil (n_lp ⟨_, rfl, undef, rfl, H825⟩)
              · intro η604 wd832 Δ833 hE828 hR829 hA830 H831
                refine sp_op [(145, undef)] (ac (hE828 28 (by decide)) an) ?_
                refine r_not (wn_u rfl rfl (by decide) rfl rfl) ?_
                exact r_nil (n_lp ⟨_, rfl, undef, rfl, H831⟩)
              · intro η604 wd838 Δ839 hE834 hR835 hA836 H837
                refine sp_op [(145, undef)] (ac (hE834 28 (by decide)) an) ?_
                refine r_not (wn_u rfl rfl (by decide) rfl rfl) ?_
                exact r_nil (n_lp ⟨_, rfl, undef, rfl, H837⟩)
              · intro η604 wd844 Δ845 hE840 hR841 hA842 H843
                refine sp_op [(155, undef)] (ac (hE840 38 (by decide)) an) ?_
                refine r_not (wn_u rfl rfl (by decide) rfl rfl) ?_
                exact r_nil (n_lp ⟨_, rfl, undef, rfl, H843⟩)
              · intro η604 wd850 Δ851 hE846 hR847 hA848 H849
                refine sp_op [(155, undef)] (ac (hE846 38 (by decide)) an) ?_
                refine r_not (wn_u rfl rfl (by decide) rfl rfl) ?_
                exact r_nil (n_lp ⟨_, rfl, undef, rfl, H849⟩)
              · intro η604 wd856 Δ857 hE852 hR853 hA854 H855
                refine sp_op [(155, undef)] (ac (hE852 38 (by decide)) an) ?_
                refine r_not (wn_u rfl rfl (by decide) rfl rfl) ?_
                exact r_nil (n_lp ⟨_, rfl, undef, rfl, H855⟩)
              · intro η604 wd862 Δ863 hE858 hR859 hA860 H861
                refine sp_op [(155, undef)] (ac (hE858 38 (by decide)) an) ?_
                refine r_not (wn_u rfl rfl (by decide) rfl rfl) ?_
                exact r_nil (n_lp ⟨_, rfl, undef, rfl, H861⟩)
              · intro η604 wd868 Δ869 hE864 hR865 hA866 H867
                refine sp_op [(155, undef)] (ac (hE864 38 (by decide)) an) ?_
                refine r_not (wn_u rfl rfl (by decide) rfl rfl) ?_
                exact r_nil (n_lp ⟨_, rfl, undef, rfl, H867⟩)
              · intro η604 wd874 Δ875 hE870 hR871 hA872 H873
                refine sp_op [(155, undef)] (ac (hE870 38 (by decide)) an) ?_
                refine r_not (wn_u rfl rfl (by decide) rfl rfl) ?_
                exact r_nil (n_lp ⟨_, rfl, undef, rfl, H873⟩)
              · intro η604 wd880 Δ881 hE876 hR877 hA878 H879
                refine sp_op [(155, undef)] (ac (hE876 38 (by decide)) an) ?_
                refine r_not (wn_u rfl rfl (by decide) rfl rfl) ?_
                exact r_nil (n_lp ⟨_, rfl, undef, rfl, H879⟩)
              · intro η604 wd886 Δ887 hE882 hR883 hA884 H885
                refine sp_op [(155, undef)] (ac (hE882 38 (by decide)) an) ?_
                refine r_not (wn_u rfl rfl (by decide) rfl rfl) ?_
                exact r_nil (n_lp ⟨_, rfl, undef, rfl, H885⟩)
              · intro η604 wd892 Δ893 hE888 hR889 hA890 H891
                refine sp_op [(155, undef)] (ac (hE888 38 (by decide)) an) ?_
                refine r_not (wn_u rfl rfl (by decide) rfl rfl) ?_
                exact r_nil (n_lp ⟨_, rfl, undef, rfl, H891⟩)
              · intro η604 wd898 Δ899 hE894 hR895 hA896 H897
                refine sp_op [(145, undef)] (ac (hE894 28 (by decide)) an) ?_
                refine r_not (wn_u rfl rfl (by decide) rfl rfl) ?_
                exact r_nil (n_lp ⟨_, rfl, undef, rfl, H897⟩)
              · intro η604 wd904 Δ905 hE900 hR901 hA902 H903
                refine sp_op [(135, undef)] (ac (hE900 18 (by decide)) an) ?_
                refine r_not (wn_u rfl rfl (by decide) rfl rfl) ?_
                exact r_nil (n_lp ⟨_, rfl, undef, rfl, H903⟩)
              · intro η604 wd910 Δ911 hE906 hR907 hA908 H909
                refine sp_op [(132, .bool true)] (ac (hE906 15 (by decide)) an) ?_
                refine r_not (wn_f rfl rfl (by decide) rfl rfl) ?_
                exact r_nil (n_lp ⟨_, rfl, undef, rfl, H909⟩)
              · intro η604 wd916 Δ917 hE912 hR913 hA914 H915
                refine sp_op [(132, .bool true), (167, undef)] (ac (hE912 15 (by decide)) (ac (hE912 50 (by decide)) an)) ?_
                refine r_pick_t (.bool true) rfl rfl rfl ?_
                exact r_nil (n_lp ⟨_, rfl, undef, rfl, H915⟩)
              · intro η604 wd919 hV920 H918
                have H921 : Hp w0 (Row K38 (.slice A40 xs43.length c42) xs43 :: Bx b13 53 [.slice A40 xs43.length c42] :: Row K38 (.slice A44 xs47.length c46) xs47 :: Bx b23 53 [.slice A44 xs47.length c46] :: MpP ME25 b27 mm48 :: Row K38 (.slice A474 y468.length c476) y468 :: Γ) wd919 := H918.d
                refine n_frame [(3, .pointer (some ⟨b13, 0, none⟩)), (4, .pointer (some ⟨b23, 0, none⟩)), (5, .map (some b27)), (14, .slice A474 y468.length c476), (15, .int .i64 v499), (110, .slice A474 y468.length c476), (111, .int .i64 (y468.length : Int)), (112, .int .i64 i517), (168, .bool true)] (ac rfl (ac rfl (ac rfl (ac rfl (ac rfl (ac rfl (ac rfl (ac rfl (ac (hV920 51 rfl) an))))))))) ?_
                refine n_cut ⟨true, upk (ac rfl (ac rfl (ac rfl (ac rfl (ac rfl (ac rfl (ac rfl (ac rfl (ac rfl an))))))))), H921.u5.u5.u5.u5.u5.u5, hm⟩
            · rcases ite_some hm with ⟨hb922, hm⟩ | ⟨hb922, hm⟩
              · refine Flow.run' RA3_34 RW3_34 ((fun η604 v => v.1 = .pointer (some ⟨b596, 2, none⟩)) :: (fun η604 v => v.1 = .int .i64 y522.Amount) :: (fun η604 v => v.1 = .bool (y522.Amount == 0)) :: (fun η604 v => v.1 = .bool (y522.Amount == 0)) :: (fun η604 v => v.1 = .pointer (some ⟨b596, 2, none⟩)) :: (fun η604 v => v.1 = .int .i64 y522.Amount) :: (fun η604 v => v.1 = .map (some b27)) :: (fun η604 v => v.1 = .pointer (some ⟨b596, 0, none⟩)) :: (fun η604 v => v.1 = .string y522.Seller) :: (fun η604 v => v.1 = .pointer (some ⟨b596, 1, none⟩)) :: (fun η604 v => v.1 = .string y522.Buyer) :: (fun η604 v => v.1 = .agg #[.string y522.Seller, .string y522.Buyer]) :: (fun η604 v => v.1 = .int .i64 (pgetD (0 : Int) mm48 (y522.Seller, y522.Buyer))) :: (fun η604 v => v.1 = .bool (y522.Amount != pgetD (0 : Int) mm48 (y522.Seller, y522.Buyer))) :: (fun η604 v => v.1 = .bool (y522.Amount != pgetD (0 : Int) mm48 (y522.Seller, y522.Buyer))) :: (fun η604 v => v.1 = .bool (y522.Amount != pgetD (0 : Int) mm48 (y522.Seller, y522.Buyer))) :: (fun η604 v => v.1 = undef) :: (fun η604 v => v.1 = undef) :: (fun η604 v => v.1 = undef) :: (fun η604 v => v.1 = undef) :: (fun η604 v => v.1 = undef) :: (fun η604 v => v.1 = undef) :: (fun η604 v => v.1 = undef) :: (fun η604 v => v.1 = undef) :: (fun η604 v => v.1 = undef) :: (fun η604 v => v.1 = undef) :: (fun η604 v => v.1 = undef) :: (fun η604 v => v.1 = undef) :: (fun η604 v => v.1 = undef) :: (fun η604 v => v.1 = undef) :: (fun η604 v => v.1 = undef) :: (fun η604 v => v.1 = undef) :: (fun η604 v => v.1 = undef) :: (fun η604 v => v.1 = undef) :: (fun η604 v => v.1 = undef) :: (fun η604 v => v.1 = undef) :: (fun η604 v => v.1 = undef) :: (fun η604 v => v.1 = undef) :: (fun η604 v => v.1 = undef) :: (fun η604 v => v.1 = undef) :: (fun η604 v => v.1 = undef) :: (fun η604 v => v.1 = undef) :: (fun η604 v => v.1 = undef) :: (fun η604 v => v.1 = undef) :: (fun η604 v => v.1 = undef) :: (fun η604 v => v.1 = undef) :: (fun η604 v => v.1 = undef) :: (fun η604 v => v.1 = undef) :: (fun η604 v => v.1 = undef) :: (fun η604 v => v.1 = undef) :: (fun η604 v => v.1 = undef) :: (fun η604 v => v.1 = .bool true) :: []) [] rfl (by kernel_rfl) (by kernel_rfl) H599 ⟨?_, ?_, ?_, ?_, ?_, ?_, ?_, ?_, ?_, ?_, ?_, ?_, ?_, ?_, ?_, ?_, ?_, ?_, ?_, ?_, ?_, ?_, ?_, ?_, ?_, ?_, ?_, ?_, ?_, ?_, ?_, ?_, ?_, ?_, ?_, ?_, ?_, ?_, ?_, ?_, ?_, ?_, ?_, ?_, ?_, ?_, ?_, ?_, ?_, ?_, ?_, ?_, trivial⟩ ?_
                · intro η604 wd927 Δ928 hE923 hR924 hA925 H926
                  refine sp_op [(19, .pointer (some ⟨b596, 0, none⟩))] (ac rfl an) ?_
                  refine r_fa FA38_2 ⟨b596, 2, none⟩ rfl rfl ?_
                  exact r_nil (n_lp ⟨_, rfl, undef, rfl, H926⟩)
                · intro η604 wd933 Δ934 hE929 hR930 hA931 H932
                  have H932 : Hp w0 ((Δ934 ++ (Bx b596 38 [.string y522.Seller, .string y522.Buyer, .int .i64 y522.Amount] :: Row K38 (.slice A40 xs43.length c42) xs43 :: Bx b13 53 [.slice A40 xs43.length c42] :: Row K38 (.slice A44 xs47.length c46) xs47 :: Bx b23 53 [.slice A44 xs47.length c46] :: MpP ME25 b27 mm48 :: Row K38 (.slice A474 y468.length c476) y468 :: Γ))) wd933 := H932
                  refine sp_op [(117, .pointer (some ⟨b596, 2, none⟩))] (ac (hE929 0 (by decide)) an) ?_
                  refine r_ld1 (.int .i64 y522.Amount) LD3 rfl (((H932).tl.g0).cell _ rfl) ?_
                  exact r_nil (n_lp ⟨_, rfl, undef, rfl, H932⟩)
                · intro η604 wd939 Δ940 hE935 hR936 hA937 H938
                  refine sp_op [(118, .int .i64 y522.Amount)] (ac (hE935 1 (by decide)) an) ?_
                  refine r_pure (.bool (y522.Amount == 0)) rfl ?_
                  exact r_nil (n_lp ⟨_, rfl, undef, rfl, H938⟩)
                · intro η604 wd945 Δ946 hE941 hR942 hA943 H944
                  refine sp_op [(119, .bool (y522.Amount == 0))] (ac (hE941 2 (by decide)) an) ?_
                  refine r_pure (.bool (y522.Amount == 0)) rfl ?_
                  exact r_nil (n_lp ⟨_, rfl, undef, rfl, H944⟩)
                · intro η604 wd951 Δ952 hE947 hR948 hA949 H950
                  refine sp_op [(19, .pointer (some ⟨b596, 0, none⟩)), (120, .bool (y522.Amount == 0))] (ac rfl (ac (hE947 3 (by decide)) an)) ?_
                  refine r_fa FA38_2 ⟨b596, 2, none⟩ rfl rfl ?_ (wn_t rfl rfl (by decide) rfl hb605)
                  exact r_nil (n_lp ⟨_, rfl, undef, rfl, H950⟩)
                · intro η604 wd957 Δ958 hE953 hR954 hA955 H956
                  have H956 : Hp w0 ((Δ958 ++ (Bx b596 38 [.string y522.Seller, .string y522.Buyer, .int .i64 y522.Amount] :: Row K38 (.slice A40 xs43.length c42) xs43 :: Bx b13 53 [.slice A40 xs43.length c42] :: Row K38 (.slice A44 xs47.length c46) xs47 :: Bx b23 53 [.slice A44 xs47.length c46] :: MpP ME25 b27 mm48 :: Row K38 (.slice A474 y468.length c476) y468 :: Γ))) wd957 := H956
                  refine sp_op [(120, .bool (y522.Amount == 0)), (121, .pointer (some ⟨b596, 2, none⟩))] (ac (hE953 3 (by decide)) (ac (hE953 4 (by decide)) an)) ?_
                  refine r_ld1 (.int .i64 y522.Amount) LD3 rfl (((H956).tl.g0).cell _ rfl) ?_ (wn_t rfl rfl (by decide) rfl hb605)
                  exact r_nil (n_lp ⟨_, rfl, undef, rfl, H956⟩)
                · intro η604 wd963 Δ964 hE959 hR960 hA961 H962
                  refine sp_op [(5, .map (some b27)), (120, .bool (y522.Amount == 0))] (ac rfl (ac (hE959 3 (by decide)) an)) ?_
                  refine r_pure (.map (some b27)) rfl ?_ (wn_t rfl rfl (by decide) rfl hb605)
                  exact r_nil (n_lp ⟨_, rfl, undef, rfl, H962⟩)
                · intro η604 wd969 Δ970 hE965 hR966 hA967 H968
                  refine sp_op [(19, .pointer (some ⟨b596, 0, none⟩)), (120, .bool (y522.Amount == 0))] (ac rfl (ac (hE965 3 (by decide)) an)) ?_
                  refine r_fa FA38_0 ⟨b596, 0, none⟩ rfl rfl ?_ (wn_t rfl rfl (by decide) rfl hb605)
                  exact r_nil (n_lp ⟨_, rfl, undef, rfl, H968⟩)
                · intro η604 wd975 Δ976 hE971 hR972 hA973 H974
                  have H974 : Hp w0 ((Δ976 ++ (Bx b596 38 [.string y522.Seller, .string y522.Buyer, .int .i64 y522.Amount] :: Row K38 (.slice A40 xs43.length c42) xs43 :: Bx b13 53 [.slice A40 xs43.length c42] :: Row K38 (.slice A44 xs47.length c46) xs47 :: Bx b23 53 [.slice A44 xs47.length c46] :: MpP ME25 b27 mm48 :: Row K38 (.slice A474 y468.length c476) y468 :: Γ))) wd975 := H974
                  refine sp_op [(120, .bool (y522.Amount == 0)), (124, .pointer (some ⟨b596, 0, none⟩))] (ac (hE971 3 (by decide)) (ac (hE971 7 (by decide)) an)) ?_
                  refine r_ld1 (.string y522.Seller) LD9 rfl (((H974).tl.g0).cell _ rfl) ?_ (wn_t rfl rfl (by decide) rfl hb605)
                  exact r_nil (n_lp ⟨_, rfl, undef, rfl, H974⟩)
                · intro η604 wd981 Δ982 hE977 hR978 hA979 H980
                  refine sp_op [(19, .pointer (some ⟨b596, 0, none⟩)), (120, .bool (y522.Amount == 0))] (ac rfl (ac (hE977 3 (by decide)) an)) ?_
                  refine r_fa FA38_1 ⟨b596, 1, none⟩ rfl rfl ?_ (wn_t rfl rfl (by decide) rfl hb605)
                  exact r_nil (n_lp ⟨_, rfl, undef, rfl, H980⟩)
                · intro η604 wd987 Δ988 hE983 hR984 hA985 H986
                  have H986 : Hp w0 ((Δ988 ++ (Bx b596 38 [.string y522.Seller, .string y522.Buyer, .int .i64 y522.Amount] :: Row K38 (.slice A40 xs43.length c42) xs43 :: Bx b13 53 [.slice A40 xs43.length c42] :: Row K38 (.slice A44 xs47.length c46) xs47 :: Bx b23 53 [.slice A44 xs47.length c46] :: MpP ME25 b27 mm48 :: Row K38 (.slice A474 y468.length c476) y468 :: Γ))) wd987 := H986
                  refine sp_op [(120, .bool (y522.Amount == 0)), (126, .pointer (some ⟨b596, 1, none⟩))] (ac (hE983 3 (by decide)) (ac (hE983 9 (by decide)) an)) ?_
                  refine r_ld1 (.string y522.Buyer) LD9 rfl (((H986).tl.g0).cell _ rfl) ?_ (wn_t rfl rfl (by decide) rfl hb605)
                  exact r_nil (n_lp ⟨_, rfl, undef, rfl, H986⟩)
                · intro η604 wd993 Δ994 hE989 hR990 hA991 H992
                  refine sp_op [(120, .bool (y522.Amount == 0)), (125, .string y522.Seller), (127, .string y522.Buyer)] (ac (hE989 3 (by decide)) (ac (hE989 8 (by decide)) (ac (hE989 10 (by decide)) an))) ?_
                  refine r_buildA [.string y522.Seller, .string y522.Buyer] AR33 rfl ?_ (wn_t rfl rfl (by decide) rfl hb605)
                  exact r_nil (n_lp ⟨_, rfl, undef, rfl, H992⟩)
                · intro η604 wd999 Δ1000 hE995 hR996 hA997 H998
                  have H998 : Hp w0 ((Δ1000 ++ (Bx b596 38 [.string y522.Seller, .string y522.Buyer, .int .i64 y522.Amount] :: Row K38 (.slice A40 xs43.length c42) xs43 :: Bx b13 53 [.slice A40 xs43.length c42] :: Row K38 (.slice A44 xs47.length c46) xs47 :: Bx b23 53 [.slice A44 xs47.length c46] :: MpP ME25 b27 mm48 :: Row K38 (.slice A474 y468.length c476) y468 :: Γ))) wd999 := H998
                  refine sp_op [(120, .bool (y522.Amount == 0)), (123, .map (some b27)), (128, .agg #[.string y522.Seller, .string y522.Buyer])] (ac (hE995 3 (by decide)) (ac (hE995 6 (by decide)) (ac (hE995 11 (by decide)) an))) ?_
                  refine r_lookP (E := ME25) (y522.Seller, y522.Buyer) (.int .i64 (pgetD (0 : Int) mm48 (y522.Seller, y522.Buyer))) rfl rfl rfl (MpP.lk MT25 (H998).tl.g5) ?_ (wn_t rfl rfl (by decide) rfl hb605)
                  exact r_nil (n_lp ⟨_, rfl, undef, rfl, H998⟩)
                · intro η604 wd1005 Δ1006 hE1001 hR1002 hA1003 H1004
                  refine sp_op [(120, .bool (y522.Amount == 0)), (122, .int .i64 y522.Amount), (129, .int .i64 (pgetD (0 : Int) mm48 (y522.Seller, y522.Buyer)))] (ac (hE1001 3 (by decide)) (ac (hE1001 5 (by decide)) (ac (hE1001 12 (by decide)) an))) ?_
                  refine r_pure (.bool (y522.Amount != pgetD (0 : Int) mm48 (y522.Seller, y522.Buyer))) rfl ?_ (wn_t rfl rfl (by decide) rfl hb605)
                  exact r_nil (n_lp ⟨_, rfl, undef, rfl, H1004⟩)
                · intro η604 wd1011 Δ1012 hE1007 hR1008 hA1009 H1010
                  refine sp_op [(120, .bool (y522.Amount == 0)), (130, .bool (y522.Amount != pgetD (0 : Int) mm48 (y522.Seller, y522.Buyer)))] (ac (hE1007 3 (by decide)) (ac (hE1007 13 (by decide)) an)) ?_
                  refine r_pick_f (.bool (y522.Amount != pgetD (0 : Int) mm48 (y522.Seller, y522.Buyer))) hb605 rfl rfl ?_
                  exact r_nil (n_lp ⟨_, rfl, undef, rfl, H1010⟩)
                · intro η604 wd1017 Δ1018 hE1013 hR1014 hA1015 H1016
                  refine sp_op [(131, .bool (y522.Amount != pgetD (0 : Int) mm48 (y522.Seller, y522.Buyer)))] (ac (hE1013 14 (by decide)) an) ?_
                  refine r_pure (.bool (y522.Amount != pgetD (0 : Int) mm48 (y522.Seller, y522.Buyer))) rfl ?_
                  exact r_nil (n_lp ⟨_, rfl, undef, rfl, H1016⟩)
                · intro η604 wd1023 Δ1024 hE1019 hR1020 hA1021 H1022
                  refine sp_op [(132, .bool (y522.Amount != pgetD (0 : Int) mm48 (y522.Seller, y522.Buyer)))] (ac (hE1019 15 (by decide)) an) ?_
                  refine r_not (wn_f rfl rfl (by decide) rfl hb922) ?_
                  exact r_nil (n_lp ⟨_, rfl, undef, rfl, H1022⟩)
                · intro η604 wd1029 Δ1030 hE1025 hR1026 hA1027 H1028
                  refine sp_op [(132, .bool (y522.Amount != pgetD (0 : Int) mm48 (y522.Seller, y522.Buyer)))] (ac (hE1025 15 (by decide)) an) ?_
                  refine r_not (wn_f rfl rfl (by decide) rfl hb922) ?_
                  exact r_nil (n_lp ⟨_, rfl, undef, rfl, H1028⟩)
                · intro η604 wd1035 Δ1036 hE1031 hR1032 hA1033 H1034
                  refine sp_op [(132, .bool (y522.Amount != pgetD (0 : Int) mm48 (y522.Seller, y522.Buyer)))] (ac (hE1031 15 (by decide)) an) ?_
                  refine r_not (wn_f rfl rfl (by decide) rfl hb922) ?_
                  exact r_nil (n_lp ⟨_, rfl, undef, rfl, H1034⟩)
                · intro η604 wd1041 Δ1042 hE1037 hR1038 hA1039 H1040
                  refine sp_op [(135, undef)] (ac (hE1037 18 (by decide)) an) ?_
                  refine r_not (wn_u rfl rfl (by decide) rfl rfl) ?_
                  exact r_nil (n_lp ⟨_, rfl, undef, rfl, H1040⟩)
                · intro η604 wd1047 Δ1048 hE1043 hR1044 hA1045 H1046
                  refine sp_op [(135, undef)] (ac (hE1043 18 (by decide)) an) ?_
                  refine r_not (wn_u rfl rfl (by decide) rfl rfl) ?_
                  exact r_nil (n_lp ⟨_, rfl, undef, rfl, H1046⟩)
                · intro η604 wd1053 Δ1054 hE1049 hR1050 hA1051 H1052
                  refine sp_op [(135, undef)] (ac (hE1049 18 (by decide)) an) ?_
                  refine r_not (wn_u rfl rfl (by decide) rfl rfl) ?_
                  exact r_nil (n_lp ⟨_, rfl, undef, rfl, H1052⟩)
                · intro η604 wd1059 Δ1060 hE1055 hR1056 hA1057 H1058
                  refine sp_op [(135, undef)] (ac (hE1055 18 (by decide)) an) ?_
                  refine r_not (wn_u rfl rfl (by decide) rfl rfl) ?_
                  exact r_nil (n_lp ⟨_, rfl, undef, rfl, H1058⟩)
                · intro η604 wd1065 Δ1066 hE1061 hR1062 hA1063 H1064
                  refine sp_op [(135, undef)] (ac (hE1061 18 (by decide)) an) ?_
                  refine r_not (wn_u rfl rfl (by decide) rfl rfl) ?_
                  exact r_nil (n_lp ⟨_, rfl, undef, rfl, H1064⟩)
                · intro η604 wd1071 Δ1072 hE1067 hR1068 hA1069 H1070
                  refine sp_op [(135, undef)] (ac (hE1067 18 (by decide)) an) ?_
                  refine r_not (wn_u rfl rfl (by decide) rfl rfl) ?_
                  exact r_nil (n_lp ⟨_, rfl, undef, rfl, H1070⟩)
                · intro η604 wd1077 Δ1078 hE1073 hR1074 hA1075 H1076
                  refine sp_op [(135, undef)] (ac (hE1073 18 (by decide)) an) ?_
                  refine r_not (wn_u rfl rfl (by decide) rfl rfl) ?_
                  exact r_nil (n_lp ⟨_, rfl, undef, rfl, H1076⟩)
                · intro η604 wd1083 Δ1084 hE1079 hR1080 hA1081 H1082
                  refine sp_op [(135, undef)] (ac (hE1079 18 (by decide)) an) ?_
                  refine r_not (wn_u rfl rfl (by decide) rfl rfl) ?_
                  exact r_nil (n_lp ⟨_, rfl, undef, rfl, H1082⟩)
                · intro η604 wd1089 Δ1090 hE1085 hR1086 hA1087 H1088
                  refine sp_op [(135, undef)] (ac (hE1085 18 (by decide)) an) ?_
                  refine r_not (wn_u rfl rfl (by decide) rfl rfl) ?_
                  exact r_nil (n_lp ⟨_, rfl, undef, rfl, H1088⟩)
                · intro η604 wd1095 Δ1096 hE1091 hR1092 hA1093 H1094
                  refine sp_op [(135, undef)] (ac (hE1091 18 (by decide)) an) ?_
                  refine r_not (wn_u rfl rfl (by decide) rfl rfl) ?_
                  exact r_nil (n_lp ⟨_, rfl, undef, rfl, H1094⟩)
                · intro η604 wd1101 Δ1102 hE1097 hR1098 hA1099 H1100
                  refine sp_op [(145, undef)] (ac (hE1097 28 (by decide)) an) ?_
                  refine r_not (wn_u rfl rfl (by decide) rfl rfl) ?_
                  exact r_nil (n_lp ⟨_, rfl, undef, rfl, H1100⟩)
                · intro η604 wd1107 Δ1108 hE1103 hR1104 hA1105 H1106
                  refine sp_op [(145, undef)] (ac (hE1103 28 (by decide)) an) ?_
                  refine r_not (wn_u rfl rfl (by decide) rfl rfl) ?_
                  exact r_nil (n_lp ⟨_, rfl, undef, rfl, H1106⟩)
                · intro η604 wd1113 Δ1114 hE1109 hR1110 hA1111 H1112
                  refine sp_op [(145, undef)] (ac (hE1109 28 (by decide)) an) ?_
                  refine r_not (wn_u rfl rfl (by decide) rfl rfl) ?_
                  exact r_nil (n_lp ⟨_, rfl, undef, rfl, H1112⟩)
                · intro η604 wd1119 Δ1120 hE1115 hR1116 hA1117 H1118
                  refine sp_op [(145, undef)] (ac (hE1115 28 (by decide)) an) ?_
                  refine r_not (wn_u rfl rfl (by decide) rfl rfl) ?_
                  exact r_nil (n_lp ⟨_, rfl, undef, rfl, H1118⟩)
                · intro η604 wd1125 Δ1126 hE1121 hR1122 hA1123 H1124
                  refine sp_op [(145, undef)] (ac (hE1121 28 (by decide)) an) ?_
                  refine r_not (wn_u rfl rfl (by decide) rfl rfl) ?_
                  exact r_nil (n_lp ⟨_, rfl, undef, rfl, H1124⟩)
                · intro η604 wd1131 Δ1132 hE1127 hR1128 hA1129 H1130
                  refine sp_op [(145, undef)] (ac (hE1127 28 (by decide)) an) ?_
                  refine r_not (wn_u rfl rfl (by decide) rfl rfl) ?_
                  exact r_nil (n_lp ⟨_, rfl, undef, rfl, H1130⟩)
                · intro η604 wd1137 Δ1138 hE1133 hR1134 hA1135 H1136
                  refine sp_op [(145, undef)] (ac (hE1133 28 (by decide)) an) ?_
                  refine r_not (wn_u rfl rfl (by decide) rfl rfl) ?_
                  exact r_nil (n_lp ⟨_, rfl, undef, rfl, H1136⟩)
                · intro η604 wd1143 Δ1144 hE1139 hR1140 hA1141 H1142
                  refine sp_op [(145, undef)] (ac (hE1139 28 (by decide)) an) ?_
                  refine r_not (wn_u rfl rfl (by decide) rfl rfl) ?_
                  exact r_nil (n_lp ⟨_, rfl, undef, rfl, H1142⟩)
                · intro η604 wd1149 Δ1150 hE1145 hR1146 hA1147 H1148
                  refine sp_op [(145, undef)] (ac (hE1145 28 (by decide)) an) ?_
                  refine r_not (wn_u rfl rfl (by decide) rfl rfl) ?_
                  exact r_nil (n_lp ⟨_, rfl, undef, rfl, H1148⟩)
                · intro η604 wd1155 Δ1156 hE1151 hR1152 hA1153 H1154
                  refine sp_op [(145, undef)] (ac (hE1151 28 (by decide)) an) ?_
                  refine r_not (wn_u rfl rfl (by decide) rfl rfl) ?_
                  exact r_nil (n_lp ⟨_, rfl, undef, rfl, H1154⟩)
                · intro η604 wd1161 Δ1162 hE1157 hR1158 hA1159 H1160
                  refine sp_op [(155, undef)] (ac (hE1157 38 (by decide)) an) ?_
                  refine r_not (wn_u rfl rfl (by decide) rfl rfl) ?_
                  exact r_nil (n_lp ⟨_, rfl, undef, rfl, H1160⟩)
                · intro η604 wd1167 Δ1168 hE1163 hR1164 hA1165 H1166
                  refine sp_op [(155, undef)] (ac (hE1163 38 (by decide)) an) ?_
                  refine r_not (wn_u rfl rfl (by decide) rfl rfl) ?_
                  exact r_nil (n_lp ⟨_, rfl, undef, rfl, H1166⟩)
                · intro η604 wd1173 Δ1174 hE1169 hR1170 hA1171 H1172
                  refine sp_op [(155, undef)] (ac (hE1169 38 (by decide)) an) ?_
                  refine r_not (wn_u rfl rfl (by decide) rfl rfl) ?_
                  exact r_nil (n_lp ⟨_, rfl, undef, rfl, H1172⟩)
                · intro η604 wd1179 Δ1180 hE1175 hR1176 hA1177 H1178
                  refine sp_op [(155, undef)] (ac (hE1175 38 (by decide)) an) ?_
                  refine r_not (wn_u rfl rfl (by decide) rfl rfl) ?_
                  exact r_nil (n_lp ⟨_, rfl, undef, rfl, H1178⟩)
                · intro η604 wd1185 Δ1186 hE1181 hR1182 hA1183 H1184
                  refine sp_op [(155, undef)] (ac (hE1181 38 (by decide)) an) ?_
                  refine r_not (wn_u rfl rfl (by decide) rfl rfl) ?_
                  exact r_nil (n_lp ⟨_, rfl, undef, rfl, H1184⟩)
                · intro η604 wd1191 Δ1192 hE1187 hR1188 hA1189 H1190
                  refine sp_op [(155, undef)] (ac (hE1187 38 (by decide)) an) ?_
                  refine r_not (wn_u rfl rfl (by decide) rfl rfl) ?_
                  exact r_nil (n_lp ⟨_, rfl, undef, rfl, H1190⟩)
                · intro η604 wd1197 Δ1198 hE1193 hR1194 hA1195 H1196
                  refine sp_op [(155, undef)] (ac (hE1193 38 (by decide)) an) ?_
                  refine r_not (wn_u rfl rfl (by decide) rfl rfl) ?_
                  exact r_nil (n_lp ⟨_, rfl, undef, rfl, H1196⟩)
                · intro η604 wd1203 Δ1204 hE1199 hR1200 hA1201 H1202
                  refine sp_op [(155, undef)] (ac (hE1199 38 (by decide)) an) ?_
                  refine r_not (wn_u rfl rfl (by decide) rfl rfl) ?_
                  exact r_nil (n_lp ⟨_, rfl, undef, rfl, H1202⟩)
                · intro η604 wd1209 Δ1210 hE1205 hR1206 hA1207 H1208
                  refine sp_op [(155, undef)] (ac (hE1205 38 (by decide)) an) ?_
                  refine r_not (wn_u rfl rfl (by decide) rfl rfl) ?_
                  exact r_nil (n_lp ⟨_, rfl, undef, rfl, H1208⟩)
                · intro η604 wd1215 Δ1216 hE1211 hR1212 hA1213 H1214
                  refine sp_op [(145, undef)] (ac (hE1211 28 (by decide)) an) ?_
                  refine r_not (wn_u rfl rfl (by decide) rfl rfl) ?_
                  exact r_nil (n_lp ⟨_, rfl, undef, rfl, H1214⟩)
                · intro η604 wd1221 Δ1222 hE1217 hR1218 hA1219 H1220
                  refine sp_op [(135, undef)] (ac (hE1217 18 (by decide)) an) ?_
                  refine r_not (wn_u rfl rfl (by decide) rfl rfl) ?_
                  exact r_nil (n_lp ⟨_, rfl, undef, rfl, H1220⟩)
                · intro η604 wd1227 Δ1228 hE1223 hR1224 hA1225 H1226
                  refine sp_op [(132, .bool (y522.Amount != pgetD (0 : Int) mm48 (y522.Seller, y522.Buyer)))] (ac (hE1223 15 (by decide)) an) ?_
                  refine r_not (wn_f rfl rfl (by decide) rfl hb922) ?_
                  exact r_nil (n_lp ⟨_, rfl, undef, rfl, H1226⟩)
                · intro η604 wd1233 Δ1234 hE1229 hR1230 hA1231 H1232
                  refine sp_op [(132, .bool (y522.Amount != pgetD (0 : Int) mm48 (y522.Seller, y522.Buyer))), (167, undef)] (ac (hE1229 15 (by decide)) (ac (hE1229 50 (by decide)) an)) ?_
                  refine r_pick_t (.bool true) hb922 rfl rfl ?_
                  exact r_nil (n_lp ⟨_, rfl, undef, rfl, H1232⟩)
                · intro η604 wd1236 hV1237 H1235
                  have H1238 : Hp w0 (Bx b596 38 [.string y522.Seller, .string y522.Buyer, .int .i64 y522.Amount] :: Row K38 (.slice A40 xs43.length c42) xs43 :: Bx b13 53 [.slice A40 xs43.length c42] :: Row K38 (.slice A44 xs47.length c46) xs47 :: Bx b23 53 [.slice A44 xs47.length c46] :: MpP ME25 b27 mm48 :: Row K38 (.slice A474 y468.length c476) y468 :: Γ) wd1236 := H1235
                  refine n_frame [(3, .pointer (some ⟨b13, 0, none⟩)), (4, .pointer (some ⟨b23, 0, none⟩)), (5, .map (some b27)), (14, .slice A474 y468.length c476), (15, .int .i64 v499), (110, .slice A474 y468.length c476), (111, .int .i64 (y468.length : Int)), (112, .int .i64 i517), (121, .pointer (some ⟨b596, 2, none⟩)), (122, .int .i64 y522.Amount), (123, .map (some b27)), (124, .pointer (some ⟨b596, 0, none⟩)), (125, .string y522.Seller), (126, .pointer (some ⟨b596, 1, none⟩)), (127, .string y522.Buyer), (128, .agg #[.string y522.Seller, .string y522.Buyer]), (129, .int .i64 (pgetD (0 : Int) mm48 (y522.Seller, y522.Buyer))), (130, .bool (y522.Amount != pgetD (0 : Int) mm48 (y522.Seller, y522.Buyer))), (168, .bool true)] (ac rfl (ac rfl (ac rfl (ac rfl (ac rfl (ac rfl (ac rfl (ac rfl (ac (hV1237 4 rfl) (ac (hV1237 5 rfl) (ac (hV1237 6 rfl) (ac (hV1237 7 rfl) (ac (hV1237 8 rfl) (ac (hV1237 9 rfl) (ac (hV1237 10 rfl) (ac (hV1237 11 rfl) (ac (hV1237 12 rfl) (ac (hV1237 13 rfl) (ac (hV1237 51 rfl) an))))))))))))))))))) ?_
                  refine n_cut ⟨true, upk (ac rfl (ac rfl (ac rfl (ac rfl (ac rfl (ac rfl (ac rfl (ac rfl (ac rfl an))))))))), H1238.d.u5.u5.u5.u5.u5.u5, hm⟩
              · rcases ite_some hm with ⟨hb1239, hm⟩ | ⟨hb1239, hm⟩
                · obtain ⟨⟨h01240, h11241⟩, hm⟩ := gd_some hm
                  have hj1242 := rd_get h01240 h11241
                  rcases ite_some hm with ⟨hb1243, hm⟩ | ⟨hb1243, hm⟩
                  · refine Flow.run' RA3_34 RW3_34 ((fun η604 v => v.1 = .pointer (some ⟨b596, 2, none⟩)) :: (fun η604 v => v.1 = .int .i64 y522.Amount) :: (fun η604 v => v.1 = .bool (y522.Amount == 0)) :: (fun η604 v => v.1 = .bool (y522.Amount == 0)) :: (fun η604 v => v.1 = .pointer (some ⟨b596, 2, none⟩)) :: (fun η604 v => v.1 = .int .i64 y522.Amount) :: (fun η604 v => v.1 = .map (some b27)) :: (fun η604 v => v.1 = .pointer (some ⟨b596, 0, none⟩)) :: (fun η604 v => v.1 = .string y522.Seller) :: (fun η604 v => v.1 = .pointer (some ⟨b596, 1, none⟩)) :: (fun η604 v => v.1 = .string y522.Buyer) :: (fun η604 v => v.1 = .agg #[.string y522.Seller, .string y522.Buyer]) :: (fun η604 v => v.1 = .int .i64 (pgetD (0 : Int) mm48 (y522.Seller, y522.Buyer))) :: (fun η604 v => v.1 = .bool (y522.Amount != pgetD (0 : Int) mm48 (y522.Seller, y522.Buyer))) :: (fun η604 v => v.1 = .bool (y522.Amount != pgetD (0 : Int) mm48 (y522.Seller, y522.Buyer))) :: (fun η604 v => v.1 = .bool (y522.Amount != pgetD (0 : Int) mm48 (y522.Seller, y522.Buyer))) :: (fun η604 v => v.1 = .int .i64 i517) :: (fun η604 v => v.1 = .bool (decide (i517 > 0))) :: (fun η604 v => v.1 = .bool (decide (i517 > 0))) :: (fun η604 v => v.1 = .pointer (some ⟨b596, 0, none⟩)) :: (fun η604 v => v.1 = .string y522.Seller) :: (fun η604 v => v.1 = .slice A474 y468.length c476) :: (fun η604 v => v.1 = .int .i64 i517) :: (fun η604 v => v.1 = .int .i64 (w64 (i517 - 1))) :: (fun η604 v => v.1 = .pointer (some ((oA A474).add (Int.toNat (w64 (i517 - 1)) * 3)))) :: (fun η604 v => v.1 = .pointer (some (((oA A474).add (Int.toNat (w64 (i517 - 1)) * 3)).add 0))) :: (fun η604 v => v.1 = .string ((rd y468 (w64 (i517 - 1))).Seller)) :: (fun η604 v => v.1 = .bool (Op.bytesLess (y522.Seller).toList ((rd y468 (w64 (i517 - 1))).Seller).toList)) :: (fun η604 v => v.1 = .bool (Op.bytesLess (y522.Seller).toList ((rd y468 (w64 (i517 - 1))).Seller).toList)) :: (fun η604 v => v.1 = undef) :: (fun η604 v => v.1 = undef) :: (fun η604 v => v.1 = undef) :: (fun η604 v => v.1 = undef) :: (fun η604 v => v.1 = undef) :: (fun η604 v => v.1 = undef) :: (fun η604 v => v.1 = undef) :: (fun η604 v => v.1 = undef) :: (fun η604 v => v.1 = undef) :: (fun η604 v => v.1 = undef) :: (fun η604 v => v.1 = undef) :: (fun η604 v => v.1 = undef) :: (fun η604 v => v.1 = undef) :: (fun η604 v => v.1 = undef) :: (fun η604 v => v.1 = undef) :: (fun η604 v => v.1 = undef) :: (fun η604 v => v.1 = undef) :: (fun η604 v => v.1 = undef) :: (fun η604 v => v.1 = undef) :: (fun η604 v => v.1 = undef) :: (fun η604 v => v.1 = .bool true) :: (fun η604 v => v.1 = .bool true) :: (fun η604 v => v.1 = .bool true) :: []) [] rfl (by kernel_rfl) (by kernel_rfl) H599 ⟨?_, ?_, ?_, ?_, ?_, ?_, ?_, ?_, ?_, ?_, ?_, ?_, ?_, ?_, ?_, ?_, ?_, ?_, ?_, ?_, ?_, ?_, ?_, ?_, ?_, ?_, ?_, ?_, ?_, ?_, ?_, ?_, ?_, ?_, ?_, ?_, ?_, ?_, ?_, ?_, ?_, ?_, ?_, ?_, ?_, ?_, ?_, ?_, ?_, ?_, ?_, ?_, trivial⟩ ?_
                    · intro η604 wd1248 Δ1249 hE1244 hR1245 hA1246 H1247
                      refine sp_op [(19, .pointer (some ⟨b596, 0, none⟩))] (ac rfl an) ?_
                      refine r_fa FA38_2 ⟨b596, 2, none⟩ rfl rfl ?_
                      exact r_nil (n_lp ⟨_, rfl, undef, rfl, H1247⟩)
                    · intro η604 wd1254 Δ1255 hE1250 hR1251 hA1252 H1253
                      have H1253 : Hp w0 ((Δ1255 ++ (Bx b596 38 [.string y522.Seller, .string y522.Buyer, .int .i64 y522.Amount] :: Row K38 (.slice A40 xs43.length c42) xs43 :: Bx b13 53 [.slice A40 xs43.length c42] :: Row K38 (.slice A44 xs47.length c46) xs47 :: Bx b23 53 [.slice A44 xs47.length c46] :: MpP ME25 b27 mm48 :: Row K38 (.slice A474 y468.length c476) y468 :: Γ))) wd1254 := H1253
                      refine sp_op [(117, .pointer (some ⟨b596, 2, none⟩))] (ac (hE1250 0 (by decide)) an) ?_
                      refine r_ld1 (.int .i64 y522.Amount) LD3 rfl (((H1253).tl.g0).cell _ rfl) ?_
                      exact r_nil (n_lp ⟨_, rfl, undef, rfl, H1253⟩)
                    · intro η604 wd1260 Δ1261 hE1256 hR1257 hA1258 H1259
                      refine sp_op [(118, .int .i64 y522.Amount)] (ac (hE1256 1 (by decide)) an) ?_
                      refine r_pure (.bool (y522.Amount == 0)) rfl ?_
                      exact r_nil (n_lp ⟨_, rfl, undef, rfl, H1259⟩)
                    · intro η604 wd1266 Δ1267 hE1262 hR1263 hA1264 H1265
                      refine sp_op [(119, .bool (y522.Amount == 0))] (ac (hE1262 2 (by decide)) an) ?_
                      refine r_pure (.bool (y522.Amount == 0)) rfl ?_
                      exact r_nil (n_lp ⟨_, rfl, undef, rfl, H1265⟩)
                    · intro η604 wd1272 Δ1273 hE1268 hR1269 hA1270 H1271
                      refine sp_op [(19, .pointer (some ⟨b596, 0, none⟩)), (120, .bool (y522.Amount == 0))] (ac rfl (ac (hE1268 3 (by decide)) an)) ?_
                      refine r_fa FA38_2 ⟨b596, 2, none⟩ rfl rfl ?_ (wn_t rfl rfl (by decide) rfl hb605)
                      exact r_nil (n_lp ⟨_, rfl, undef, rfl, H1271⟩)
                    · intro η604 wd1278 Δ1279 hE1274 hR1275 hA1276 H1277
                      have H1277 : Hp w0 ((Δ1279 ++ (Bx b596 38 [.string y522.Seller, .string y522.Buyer, .int .i64 y522.Amount] :: Row K38 (.slice A40 xs43.length c42) xs43 :: Bx b13 53 [.slice A40 xs43.length c42] :: Row K38 (.slice A44 xs47.length c46) xs47 :: Bx b23 53 [.slice A44 xs47.length c46] :: MpP ME25 b27 mm48 :: Row K38 (.slice A474 y468.length c476) y468 :: Γ))) wd1278 := H1277
                      refine sp_op [(120, .bool (y522.Amount == 0)), (121, .pointer (some ⟨b596, 2, none⟩))] (ac (hE1274 3 (by decide)) (ac (hE1274 4 (by decide)) an)) ?_
                      refine r_ld1 (.int .i64 y522.Amount) LD3 rfl (((H1277).tl.g0).cell _ rfl) ?_ (wn_t rfl rfl (by decide) rfl hb605)
                      exact r_nil (n_lp ⟨_, rfl, undef, rfl, H1277⟩)
                    · intro η604 wd1284 Δ1285 hE1280 hR1281 hA1282 H1283
                      refine sp_op [(5, .map (some b27)), (120, .bool (y522.Amount == 0))] (ac rfl (ac (hE1280 3 (by decide)) an)) ?_
                      refine r_pure (.map (some b27)) rfl ?_ (wn_t rfl rfl (by decide) rfl hb605)
                      exact r_nil (n_lp ⟨_, rfl, undef, rfl, H1283⟩)
                    · intro η604 wd1290 Δ1291 hE1286 hR1287 hA1288 H1289
                      refine sp_op [(19, .pointer (some ⟨b596, 0, none⟩)), (120, .bool (y522.Amount == 0))] (ac rfl (ac (hE1286 3 (by decide)) an)) ?_
                      refine r_fa FA38_0 ⟨b596, 0, none⟩ rfl rfl ?_ (wn_t rfl rfl (by decide) rfl hb605)
                      exact r_nil (n_lp ⟨_, rfl, undef, rfl, H1289⟩)
                    · intro η604 wd1296 Δ1297 hE1292 hR1293 hA1294 H1295
                      have H1295 : Hp w0 ((Δ1297 ++ (Bx b596 38 [.string y522.Seller, .string y522.Buyer, .int .i64 y522.Amount] :: Row K38 (.slice A40 xs43.length c42) xs43 :: Bx b13 53 [.slice A40 xs43.length c42] :: Row K38 (.slice A44 xs47.length c46) xs47 :: Bx b23 53 [.slice A44 xs47.length c46] :: MpP ME25 b27 mm48 :: Row K38 (.slice A474 y468.length c476) y468 :: Γ))) wd1296 := H1295
                      refine sp_op [(120, .bool (y522.Amount == 0)), (124, .pointer (some ⟨b596, 0, none⟩))] (ac (hE1292 3 (by decide)) (ac (hE1292 7 (by decide)) an)) ?_
                      refine r_ld1 (.string y522.Seller) LD9 rfl (((H1295).tl.g0).cell _ rfl) ?_ (wn_t rfl rfl (by decide) rfl hb605)
                      exact r_nil (n_lp ⟨_, rfl, undef, rfl, H1295⟩)
                    · intro η604 wd1302 Δ1303 hE1298 hR1299 hA1300 H1301
                      refine sp_op [(19, .pointer (some ⟨b596, 0, none⟩)), (120, .bool (y522.Amount == 0))] (ac rfl (ac (hE1298 3 (by decide)) an)) ?_
                      refine r_fa FA38_1 ⟨b596, 1, none⟩ rfl rfl ?_ (wn_t rfl rfl (by decide) rfl hb605)
                      exact r_nil (n_lp ⟨_, rfl, undef, rfl, H1301⟩)
                    · intro η604 wd1308 Δ1309 hE1304 hR1305 hA1306 H1307
                      have H1307 : Hp w0 ((Δ1309 ++ (Bx b596 38 [.string y522.Seller, .string y522.Buyer, .int .i64 y522.Amount] :: Row K38 (.slice A40 xs43.length c42) xs43 :: Bx b13 53 [.slice A40 xs43.length c42] :: Row K38 (.slice A44 xs47.length c46) xs47 :: Bx b23 53 [.slice A44 xs47.length c46] :: MpP ME25 b27 mm48 :: Row K38 (.slice A474 y468.length c476) y468 :: Γ))) wd1308 := H1307
                      refine sp_op [(120, .bool (y522.Amount == 0)), (126, .pointer (some ⟨b596, 1, none⟩))] (ac (hE1304 3 (by decide)) (ac (hE1304 9 (by decide)) an)) ?_
                      refine r_ld1 (.string y522.Buyer) LD9 rfl (((H1307).tl.g0).cell _ rfl) ?_ (wn_t rfl rfl (by decide) rfl hb605)
                      exact r_nil (n_lp ⟨_, rfl, undef, rfl, H1307⟩)
                    · intro η604 wd1314 Δ1315 hE1310 hR1311 hA1312 H1313
                      refine sp_op [(120, .bool (y522.Amount == 0)), (125, .string y522.Seller), (127, .string y522.Buyer)] (ac (hE1310 3 (by decide)) (ac (hE1310 8 (by decide)) (ac (hE1310 10 (by decide)) an))) ?_
                      refine r_buildA [.string y522.Seller, .string y522.Buyer] AR33 rfl ?_ (wn_t rfl rfl (by decide) rfl hb605)
                      exact r_nil (n_lp ⟨_, rfl, undef, rfl, H1313⟩)
                    · intro η604 wd1320 Δ1321 hE1316 hR1317 hA1318 H1319
                      have H1319 : Hp w0 ((Δ1321 ++ (Bx b596 38 [.string y522.Seller, .string y522.Buyer, .int .i64 y522.Amount] :: Row K38 (.slice A40 xs43.length c42) xs43 :: Bx b13 53 [.slice A40 xs43.length c42] :: Row K38 (.slice A44 xs47.length c46) xs47 :: Bx b23 53 [.slice A44 xs47.length c46] :: MpP ME25 b27 mm48 :: Row K38 (.slice A474 y468.length c476) y468 :: Γ))) wd1320 := H1319
                      refine sp_op [(120, .bool (y522.Amount == 0)), (123, .map (some b27)), (128, .agg #[.string y522.Seller, .string y522.Buyer])] (ac (hE1316 3 (by decide)) (ac (hE1316 6 (by decide)) (ac (hE1316 11 (by decide)) an))) ?_
                      refine r_lookP (E := ME25) (y522.Seller, y522.Buyer) (.int .i64 (pgetD (0 : Int) mm48 (y522.Seller, y522.Buyer))) rfl rfl rfl (MpP.lk MT25 (H1319).tl.g5) ?_ (wn_t rfl rfl (by decide) rfl hb605)
                      exact r_nil (n_lp ⟨_, rfl, undef, rfl, H1319⟩)
                    · intro η604 wd1326 Δ1327 hE1322 hR1323 hA1324 H1325
                      refine sp_op [(120, .bool (y522.Amount == 0)), (122, .int .i64 y522.Amount), (129, .int .i64 (pgetD (0 : Int) mm48 (y522.Seller, y522.Buyer)))] (ac (hE1322 3 (by decide)) (ac (hE1322 5 (by decide)) (ac (hE1322 12 (by decide)) an))) ?_
                      refine r_pure (.bool (y522.Amount != pgetD (0 : Int) mm48 (y522.Seller, y522.Buyer))) rfl ?_ (wn_t rfl rfl (by decide) rfl hb605)
                      exact r_nil (n_lp ⟨_, rfl, undef, rfl, H1325⟩)
                    · intro η604 wd1332 Δ1333 hE1328 hR1329 hA1330 H1331
                      refine sp_op [(120, .bool (y522.Amount == 0)), (130, .bool (y522.Amount != pgetD (0 : Int) mm48 (y522.Seller, y522.Buyer)))] (ac (hE1328 3 (by decide)) (ac (hE1328 13 (by decide)) an)) ?_
                      refine r_pick_f (.bool (y522.Amount != pgetD (0 : Int) mm48 (y522.Seller, y522.Buyer))) hb605 rfl rfl ?_
                      exact r_nil (n_lp ⟨_, rfl, undef, rfl, H1331⟩)
                    · intro η604 wd1338 Δ1339 hE1334 hR1335 hA1336 H1337
                      refine sp_op [(131, .bool (y522.Amount != pgetD (0 : Int) mm48 (y522.Seller, y522.Buyer)))] (ac (hE1334 14 (by decide)) an) ?_
                      refine r_pure (.bool (y522.Amount != pgetD (0 : Int) mm48 (y522.Seller, y522.Buyer))) rfl ?_
                      exact r_nil (n_lp ⟨_, rfl, undef, rfl, H1337⟩)
                    · intro η604 wd1344 Δ1345 hE1340 hR1341 hA1342 H1343
                      refine sp_op [(18, .int .i64 i517), (132, .bool (y522.Amount != pgetD (0 : Int) mm48 (y522.Seller, y522.Buyer)))] (ac rfl (ac (hE1340 15 (by decide)) an)) ?_
                      refine r_pure (.int .i64 i517) rfl ?_ (wn_t rfl rfl (by decide) rfl hb922)
                      exact r_nil (n_lp ⟨_, rfl, undef, rfl, H1343⟩)
                    · intro η604 wd1350 Δ1351 hE1346 hR1347 hA1348 H1349
                      refine sp_op [(132, .bool (y522.Amount != pgetD (0 : Int) mm48 (y522.Seller, y522.Buyer))), (133, .int .i64 i517)] (ac (hE1346 15 (by decide)) (ac (hE1346 16 (by decide)) an)) ?_
                      refine r_pure (.bool (decide (i517 > 0))) rfl ?_ (wn_t rfl rfl (by decide) rfl hb922)
                      exact r_nil (n_lp ⟨_, rfl, undef, rfl, H1349⟩)
                    · intro η604 wd1356 Δ1357 hE1352 hR1353 hA1354 H1355
                      refine sp_op [(132, .bool (y522.Amount != pgetD (0 : Int) mm48 (y522.Seller, y522.Buyer))), (134, .bool (decide (i517 > 0)))] (ac (hE1352 15 (by decide)) (ac (hE1352 17 (by decide)) an)) ?_
                      refine r_pure (.bool (decide (i517 > 0))) rfl ?_ (wn_t rfl rfl (by decide) rfl hb922)
                      exact r_nil (n_lp ⟨_, rfl, undef, rfl, H1355⟩)
                    · intro η604 wd1362 Δ1363 hE1358 hR1359 hA1360 H1361
                      refine sp_op [(19, .pointer (some ⟨b596, 0, none⟩)), (135, .bool (decide (i517 > 0)))] (ac rfl (ac (hE1358 18 (by decide)) an)) ?_
                      refine r_fa FA38_0 ⟨b596, 0, none⟩ rfl rfl ?_ (wn_t rfl rfl (by decide) rfl hb1239)
                      exact r_nil (n_lp ⟨_, rfl, undef, rfl, H1361⟩)
                    · intro η604 wd1368 Δ1369 hE1364 hR1365 hA1366 H1367
                      have H1367 : Hp w0 ((Δ1369 ++ (Bx b596 38 [.string y522.Seller, .string y522.Buyer, .int .i64 y522.Amount] :: Row K38 (.slice A40 xs43.length c42) xs43 :: Bx b13 53 [.slice A40 xs43.length c42] :: Row K38 (.slice A44 xs47.length c46) xs47 :: Bx b23 53 [.slice A44 xs47.length c46] :: MpP ME25 b27 mm48 :: Row K38 (.slice A474 y468.length c476) y468 :: Γ))) wd1368 := H1367
                      refine sp_op [(135, .bool (decide (i517 > 0))), (136, .pointer (some ⟨b596, 0, none⟩))] (ac (hE1364 18 (by decide)) (ac (hE1364 19 (by decide)) an)) ?_
                      refine r_ld1 (.string y522.Seller) LD9 rfl (((H1367).tl.g0).cell _ rfl) ?_ (wn_t rfl rfl (by decide) rfl hb1239)
                      exact r_nil (n_lp ⟨_, rfl, undef, rfl, H1367⟩)
                    · intro η604 wd1374 Δ1375 hE1370 hR1371 hA1372 H1373
                      refine sp_op [(14, .slice A474 y468.length c476), (135, .bool (decide (i517 > 0)))] (ac rfl (ac (hE1370 18 (by decide)) an)) ?_
                      refine r_pure (.slice A474 y468.length c476) rfl ?_ (wn_t rfl rfl (by decide) rfl hb1239)
                      exact r_nil (n_lp ⟨_, rfl, undef, rfl, H1373⟩)
                    · intro η604 wd1380 Δ1381 hE1376 hR1377 hA1378 H1379
                      refine sp_op [(18, .int .i64 i517), (135, .bool (decide (i517 > 0)))] (ac rfl (ac (hE1376 18 (by decide)) an)) ?_
                      refine r_pure (.int .i64 i517) rfl ?_ (wn_t rfl rfl (by decide) rfl hb1239)
                      exact r_nil (n_lp ⟨_, rfl, undef, rfl, H1379⟩)
                    · intro η604 wd1386 Δ1387 hE1382 hR1383 hA1384 H1385
                      refine sp_op [(135, .bool (decide (i517 > 0))), (139, .int .i64 i517)] (ac (hE1382 18 (by decide)) (ac (hE1382 22 (by decide)) an)) ?_
                      refine r_pure (.int .i64 (w64 (i517 - 1))) rfl ?_ (wn_t rfl rfl (by decide) rfl hb1239)
                      exact r_nil (n_lp ⟨_, rfl, undef, rfl, H1385⟩)
                    · intro η604 wd1392 Δ1393 hE1388 hR1389 hA1390 H1391
                      refine sp_op [(135, .bool (decide (i517 > 0))), (138, .slice A474 y468.length c476), (140, .int .i64 (w64 (i517 - 1)))] (ac (hE1388 18 (by decide)) (ac (hE1388 21 (by decide)) (ac (hE1388 23 (by decide)) an))) ?_
                      refine r_ix IX34 rfl rfl hA595 h01240 h11241 ?_ (wn_t rfl rfl (by decide) rfl hb1239)
                      exact r_nil (n_lp ⟨_, rfl, undef, rfl, H1391⟩)
                    · intro η604 wd1401 Δ1402 hE1397 hR1398 hA1399 H1400
                      refine sp_op [(135, .bool (decide (i517 > 0))), (141, .pointer (some ((oA A474).add (Int.toNat (w64 (i517 - 1)) * 3))))] (ac (hE1397 18 (by decide)) (ac (hE1397 24 (by decide)) an)) ?_
                      refine r_fa FA38_0 (((oA A474).add (Int.toNat (w64 (i517 - 1)) * 3)).add 0) rfl rfl ?_ (wn_t rfl rfl (by decide) rfl hb1239)
                      exact r_nil (n_lp ⟨_, rfl, undef, rfl, H1400⟩)
                    · intro η604 wd1407 Δ1408 hE1403 hR1404 hA1405 H1406
                      have H1406 : Hp w0 ((Δ1408 ++ (Bx b596 38 [.string y522.Seller, .string y522.Buyer, .int .i64 y522.Amount] :: Row K38 (.slice A40 xs43.length c42) xs43 :: Bx b13 53 [.slice A40 xs43.length c42] :: Row K38 (.slice A44 xs47.length c46) xs47 :: Bx b23 53 [.slice A44 xs47.length c46] :: MpP ME25 b27 mm48 :: Row K38 (.slice A474 y468.length c476) y468 :: Γ))) wd1407 := H1406
                      refine sp_op [(135, .bool (decide (i517 > 0))), (142, .pointer (some (((oA A474).add (Int.toNat (w64 (i517 - 1)) * 3)).add 0)))] (ac (hE1403 18 (by decide)) (ac (hE1403 25 (by decide)) an)) ?_
                      refine r_ld1 (.string ((rd y468 (w64 (i517 - 1))).Seller)) LD9 rfl (((H1406).tl.g6.rd).cA hA595 hj1242 0 _ rfl) ?_ (wn_t rfl rfl (by decide) rfl hb1239)
                      exact r_nil (n_lp ⟨_, rfl, undef, rfl, H1406⟩)
                    · intro η604 wd1413 Δ1414 hE1409 hR1410 hA1411 H1412
                      refine sp_op [(135, .bool (decide (i517 > 0))), (137, .string y522.Seller), (143, .string ((rd y468 (w64 (i517 - 1))).Seller))] (ac (hE1409 18 (by decide)) (ac (hE1409 20 (by decide)) (ac (hE1409 26 (by decide)) an))) ?_
                      refine r_pure (.bool (Op.bytesLess (y522.Seller).toList ((rd y468 (w64 (i517 - 1))).Seller).toList)) rfl ?_ (wn_t rfl rfl (by decide) rfl hb1239)
                      exact r_nil (n_lp ⟨_, rfl, undef, rfl, H1412⟩)
                    · intro η604 wd1419 Δ1420 hE1415 hR1416 hA1417 H1418
                      refine sp_op [(135, .bool (decide (i517 > 0))), (144, .bool (Op.bytesLess (y522.Seller).toList ((rd y468 (w64 (i517 - 1))).Seller).toList))] (ac (hE1415 18 (by decide)) (ac (hE1415 27 (by decide)) an)) ?_
                      refine r_pure (.bool (Op.bytesLess (y522.Seller).toList ((rd y468 (w64 (i517 - 1))).Seller).toList)) rfl ?_ (wn_t rfl rfl (by decide) rfl hb1239)
                      exact r_nil (n_lp ⟨_, rfl, undef, rfl, H1418⟩)
                    · intro η604 wd1425 Δ1426 hE1421 hR1422 hA1423 H1424
                      refine sp_op [(145, .bool (Op.bytesLess (y522.Seller).toList ((rd y468 (w64 (i517 - 1))).Seller).toList))] (ac (hE1421 28 (by decide)) an) ?_
                      refine r_not (wn_f rfl rfl (by decide) rfl hb1243) ?_
                      exact r_nil (n_lp ⟨_, rfl, undef, rfl, H1424⟩)
                    · intro η604 wd1431 Δ1432 hE1427 hR1428 hA1429 H1430
                      refine sp_op [(145, .bool (Op.bytesLess (y522.Seller).toList ((rd y468 (w64 (i517 - 1))).Seller).toList))] (ac (hE1427 28 (by decide)) an) ?_
                      refine r_not (wn_f rfl rfl (by decide) rfl hb1243) ?_
                      exact r_nil (n_lp ⟨_, rfl, undef, rfl, H1430⟩)
                    · intro η604 wd1437 Δ1438 hE1433 hR1434 hA1435 H1436
                      refine sp_op [(145, .bool (Op.bytesLess (y522.Seller).toList ((rd y468 (w64 (i517 - 1))).Seller).toList))] (ac (hE1433 28 (by decide)) an) ?_
                      refine r_not (wn_f rfl rfl (by decide) rfl hb1243) ?_
                      exact r_nil (n_lp ⟨_, rfl, undef, rfl, H1436⟩)
                    · intro η604 wd1443 Δ1444 hE1439 hR1440 hA1441 H1442
                      refine sp_op [(145, .bool (Op.bytesLess (y522.Seller).toList ((rd y468 (w64 (i517 - 1))).Seller).toList))] (ac (hE1439 28 (by decide)) an) ?_
                      refine r_not (wn_f rfl rfl (by decide) rfl hb1243) ?_
                      exact r_nil (n_lp ⟨_, rfl, undef, rfl, H1442⟩)
                    · intro η604 wd1449 Δ1450 hE1445 hR1446 hA1447 H1448
                      refine sp_op [(145, .bool (Op.bytesLess (y522.Seller).toList ((rd y468 (w64 (i517 - 1))).Seller).toList))] (ac (hE1445 28 (by decide)) an) ?_
                      refine r_not (wn_f rfl rfl (by decide) rfl hb1243) ?_
                      exact r_nil (n_lp ⟨_, rfl, undef, rfl, H1448⟩)
                    · intro η604 wd1455 Δ1456 hE1451 hR1452 hA1453 H1454
                      refine sp_op [(145, .bool (Op.bytesLess (y522.Seller).toList ((rd y468 (w64 (i517 - 1))).Seller).toList))] (ac (hE1451 28 (by decide)) an) ?_
                      refine r_not (wn_f rfl rfl (by decide) rfl hb1243) ?_
                      exact r_nil (n_lp ⟨_, rfl, undef, rfl, H1454⟩)
                    · intro η604 wd1461 Δ1462 hE1457 hR1458 hA1459 H1460
                      refine sp_op [(145, .bool (Op.bytesLess (y522.Seller).toList ((rd y468 (w64 (i517 - 1))).Seller).toList))] (ac (hE1457 28 (by decide)) an) ?_
                      refine r_not (wn_f rfl rfl (by decide) rfl hb1243) ?_
                      exact r_nil (n_lp ⟨_, rfl, undef, rfl, H1460⟩)
                    · intro η604 wd1467 Δ1468 hE1463 hR1464 hA1465 H1466
                      refine sp_op [(145, .bool (Op.bytesLess (y522.Seller).toList ((rd y468 (w64 (i517 - 1))).Seller).toList))] (ac (hE1463 28 (by decide)) an) ?_
                      refine r_not (wn_f rfl rfl (by decide) rfl hb1243) ?_
                      exact r_nil (n_lp ⟨_, rfl, undef, rfl, H1466⟩)
                    · intro η604 wd1473 Δ1474 hE1469 hR1470 hA1471 H1472
                      refine sp_op [(145, .bool (Op.bytesLess (y522.Seller).toList ((rd y468 (w64 (i517 - 1))).Seller).toList))] (ac (hE1469 28 (by decide)) an) ?_
                      refine r_not (wn_f rfl rfl (by decide) rfl hb1243) ?_
                      exact r_nil (n_lp ⟨_, rfl, undef, rfl, H1472⟩)
                    · intro η604 wd1479 Δ1480 hE1475 hR1476 hA1477 H1478
                      refine sp_op [(145, .bool (Op.bytesLess (y522.Seller).toList ((rd y468 (w64 (i517 - 1))).Seller).toList))] (ac (hE1475 28 (by decide)) an) ?_
                      refine r_not (wn_f rfl rfl (by decide) rfl hb1243) ?_
                      exact r_nil (n_lp ⟨_, rfl, undef, rfl, H1478⟩)
                    · intro η604 wd1485 Δ1486 hE1481 hR1482 hA1483 H1484
                      refine sp_op [(155, undef)] (ac (hE1481 38 (by decide)) an) ?_
                      refine r_not (wn_u rfl rfl (by decide) rfl rfl) ?_
                      exact r_nil (n_lp ⟨_, rfl, undef, rfl, H1484⟩)
                    · intro η604 wd1491 Δ1492 hE1487 hR1488 hA1489 H1490
                      refine sp_op [(155, undef)] (ac (hE1487 38 (by decide)) an) ?_
                      refine r_not (wn_u rfl rfl (by decide) rfl rfl) ?_
                      exact r_nil (n_lp ⟨_, rfl, undef, rfl, H1490⟩)
                    · intro η604 wd1497 Δ1498 hE1493 hR1494 hA1495 H1496
                      refine sp_op [(155, undef)] (ac (hE1493 38 (by decide)) an) ?_
                      refine r_not (wn_u rfl rfl (by decide) rfl rfl) ?_
                      exact r_nil (n_lp ⟨_, rfl, undef, rfl, H1496⟩)
                    · intro η604 wd1503 Δ1504 hE1499 hR1500 hA1501 H1502
                      refine sp_op [(155, undef)] (ac (hE1499 38 (by decide)) an) ?_
                      refine r_not (wn_u rfl rfl (by decide) rfl rfl) ?_
                      exact r_nil (n_lp ⟨_, rfl, undef, rfl, H1502⟩)
                    · intro η604 wd1509 Δ1510 hE1505 hR1506 hA1507 H1508
                      refine sp_op [(155, undef)] (ac (hE1505 38 (by decide)) an) ?_
                      refine r_not (wn_u rfl rfl (by decide) rfl rfl) ?_
                      exact r_nil (n_lp ⟨_, rfl, undef, rfl, H1508⟩)
                    · intro η604 wd1515 Δ1516 hE1511 hR1512 hA1513 H1514
                      refine sp_op [(155, undef)] (ac (hE1511 38 (by decide)) an) ?_
                      refine r_not (wn_u rfl rfl (by decide) rfl rfl) ?_
                      exact r_nil (n_lp ⟨_, rfl, undef, rfl, H1514⟩)
                    · intro η604 wd1521 Δ1522 hE1517 hR1518 hA1519 H1520
                      refine sp_op [(155, undef)] (ac (hE1517 38 (by decide)) an) ?_
                      refine r_not (wn_u rfl rfl (by decide) rfl rfl) ?_
                      exact r_nil (n_lp ⟨_, rfl, undef, rfl, H1520⟩)
                    · intro η604 wd1527 Δ1528 hE1523 hR1524 hA1525 H1526
                      refine sp_op [(155, undef)] (ac (hE1523 38 (by decide)) an) ?_
                      refine r_not (wn_u rfl rfl (by decide) rfl rfl) ?_
                      exact r_nil (n_lp ⟨_, rfl, undef, rfl, H1526⟩)
                    · intro η604 wd1533 Δ1534 hE1529 hR1530 hA1531 H1532
                      refine sp_op [(155, undef)] (ac (hE1529 38 (by decide)) an) ?_
                      refine r_not (wn_u rfl rfl (by decide) rfl rfl) ?_
                      exact r_nil (n_lp ⟨_, rfl, undef, rfl, H1532⟩)
                    · intro η604 wd1539 Δ1540 hE1535 hR1536 hA1537 H1538
                      refine sp_op [(145, .bool (Op.bytesLess (y522.Seller).toList ((rd y468 (w64 (i517 - 1))).Seller).toList))] (ac (hE1535 28 (by decide)) an) ?_
                      refine r_not (wn_f rfl rfl (by decide) rfl hb1243) ?_
                      exact r_nil (n_lp ⟨_, rfl, undef, rfl, H1538⟩)
                    · intro η604 wd1545 Δ1546 hE1541 hR1542 hA1543 H1544
                      refine sp_op [(135, .bool (decide (i517 > 0))), (145, .bool (Op.bytesLess (y522.Seller).toList ((rd y468 (w64 (i517 - 1))).Seller).toList)), (165, undef)] (ac (hE1541 18 (by decide)) (ac (hE1541 28 (by decide)) (ac (hE1541 48 (by decide)) an))) ?_
                      refine r_pick_t (.bool true) hb1243 rfl rfl ?_ (wn_t rfl rfl (by decide) rfl hb1239)
                      exact r_nil (n_lp ⟨_, rfl, undef, rfl, H1544⟩)
                    · intro η604 wd1551 Δ1552 hE1547 hR1548 hA1549 H1550
                      refine sp_op [(132, .bool (y522.Amount != pgetD (0 : Int) mm48 (y522.Seller, y522.Buyer))), (135, .bool (decide (i517 > 0))), (166, .bool true)] (ac (hE1547 15 (by decide)) (ac (hE1547 18 (by decide)) (ac (hE1547 49 (by decide)) an))) ?_
                      refine r_pick_t (.bool true) hb1239 rfl rfl ?_ (wn_t rfl rfl (by decide) rfl hb922)
                      exact r_nil (n_lp ⟨_, rfl, undef, rfl, H1550⟩)
                    · intro η604 wd1557 Δ1558 hE1553 hR1554 hA1555 H1556
                      refine sp_op [(132, .bool (y522.Amount != pgetD (0 : Int) mm48 (y522.Seller, y522.Buyer))), (167, .bool true)] (ac (hE1553 15 (by decide)) (ac (hE1553 50 (by decide)) an)) ?_
                      refine r_pick_f (.bool true) hb922 rfl rfl ?_
                      exact r_nil (n_lp ⟨_, rfl, undef, rfl, H1556⟩)
                    · intro η604 wd1560 hV1561 H1559
                      have H1562 : Hp w0 (Bx b596 38 [.string y522.Seller, .string y522.Buyer, .int .i64 y522.Amount] :: Row K38 (.slice A40 xs43.length c42) xs43 :: Bx b13 53 [.slice A40 xs43.length c42] :: Row K38 (.slice A44 xs47.length c46) xs47 :: Bx b23 53 [.slice A44 xs47.length c46] :: MpP ME25 b27 mm48 :: Row K38 (.slice A474 y468.length c476) y468 :: Γ) wd1560 := H1559
                      refine n_frame ((3, .pointer (some ⟨b13, 0, none⟩)) :: (4, .pointer (some ⟨b23, 0, none⟩)) :: (5, .map (some b27)) :: (14, .slice A474 y468.length c476) :: (15, .int .i64 v499) :: (110, .slice A474 y468.length c476) :: (111, .int .i64 (y468.length : Int)) :: (112, .int .i64 i517) :: (121, .pointer (some ⟨b596, 2, none⟩)) :: (122, .int .i64 y522.Amount) :: (123, .map (some b27)) :: (124, .pointer (some ⟨b596, 0, none⟩)) :: (125, .string y522.Seller) :: (126, .pointer (some ⟨b596, 1, none⟩)) :: (127, .string y522.Buyer) :: (128, .agg #[.string y522.Seller, .string y522.Buyer]) :: (129, .int .i64 (pgetD (0 : Int) mm48 (y522.Seller, y522.Buyer))) :: (130, .bool (y522.Amount != pgetD (0 : Int) mm48 (y522.Seller, y522.Buyer))) :: (133, .int .i64 i517) :: (134, .bool (decide (i517 > 0))) :: (135, .bool (decide (i517 > 0))) :: (136, .pointer (some ⟨b596, 0, none⟩)) :: (137, .string y522.Seller) :: (138, .slice A474 y468.length c476) :: (139, .int .i64 i517) :: (140, .int .i64 (w64 (i517 - 1))) :: (141, .pointer (some ((oA A474).add (Int.toNat (w64 (i517 - 1)) * 3)))) :: (142, .pointer (some (((oA A474).add (Int.toNat (w64 (i517 - 1)) * 3)).add 0))) :: (143, .string ((rd y468 (w64 (i517 - 1))).Seller)) :: (144, .bool (Op.bytesLess (y522.Seller).toList ((rd y468 (w64 (i517 - 1))).Seller).toList)) :: (145, .bool (Op.bytesLess (y522.Seller).toList ((rd y468 (w64 (i517 - 1))).Seller).toList)) :: (166, .bool true) :: (167, .bool true) :: (168, .bool true) :: []) (ac rfl (ac rfl (ac rfl (ac rfl (ac rfl (ac rfl (ac rfl (ac rfl (ac (hV1561 4 rfl) (ac (hV1561 5 rfl) (ac (hV1561 6 rfl) (ac (hV1561 7 rfl) (ac (hV1561 8 rfl) (ac (hV1561 9 rfl) (ac (hV1561 10 rfl) (ac (hV1561 11 rfl) (ac (hV1561 12 rfl) (ac (hV1561 13 rfl) (ac (hV1561 16 rfl) (ac (hV1561 17 rfl) (ac (hV1561 18 rfl) (ac (hV1561 19 rfl) (ac (hV1561 20 rfl) (ac (hV1561 21 rfl) (ac (hV1561 22 rfl) (ac (hV1561 23 rfl) (ac (hV1561 24 rfl) (ac (hV1561 25 rfl) (ac (hV1561 26 rfl) (ac (hV1561 27 rfl) (ac (hV1561 28 rfl) (ac (hV1561 49 rfl) (ac (hV1561 50 rfl) (ac (hV1561 51 rfl) an)))))))))))))))))))))))))))))))))) ?_
                      refine n_cut ⟨true, upk (ac rfl (ac rfl (ac rfl (ac rfl (ac rfl (ac rfl (ac rfl (ac rfl (ac rfl an))))))))), H1562.d.u5.u5.u5.u5.u5.u5, hm⟩
                  · rcases ite_some hm with ⟨hb1563, hm⟩ | ⟨hb1563, hm⟩
                    · refine Flow.run' RA3_34 RW3_34 ((fun η604 v => v.1 = .pointer (some ⟨b596, 2, none⟩)) :: (fun η604 v => v.1 = .int .i64 y522.Amount) :: (fun η604 v => v.1 = .bool (y522.Amount == 0)) :: (fun η604 v => v.1 = .bool (y522.Amount == 0)) :: (fun η604 v => v.1 = .pointer (some ⟨b596, 2, none⟩)) :: (fun η604 v => v.1 = .int .i64 y522.Amount) :: (fun η604 v => v.1 = .map (some b27)) :: (fun η604 v => v.1 = .pointer (some ⟨b596, 0, none⟩)) :: (fun η604 v => v.1 = .string y522.Seller) :: (fun η604 v => v.1 = .pointer (some ⟨b596, 1, none⟩)) :: (fun η604 v => v.1 = .string y522.Buyer) :: (fun η604 v => v.1 = .agg #[.string y522.Seller, .string y522.Buyer]) :: (fun η604 v => v.1 = .int .i64 (pgetD (0 : Int) mm48 (y522.Seller, y522.Buyer))) :: (fun η604 v => v.1 = .bool (y522.Amount != pgetD (0 : Int) mm48 (y522.Seller, y522.Buyer))) :: (fun η604 v => v.1 = .bool (y522.Amount != pgetD (0 : Int) mm48 (y522.Seller, y522.Buyer))) :: (fun η604 v => v.1 = .bool (y522.Amount != pgetD (0 : Int) mm48 (y522.Seller, y522.Buyer))) :: (fun η604 v => v.1 = .int .i64 i517) :: (fun η604 v => v.1 = .bool (decide (i517 > 0))) :: (fun η604 v => v.1 = .bool (decide (i517 > 0))) :: (fun η604 v => v.1 = .pointer (some ⟨b596, 0, none⟩)) :: (fun η604 v => v.1 = .string y522.Seller) :: (fun η604 v => v.1 = .slice A474 y468.length c476) :: (fun η604 v => v.1 = .int .i64 i517) :: (fun η604 v => v.1 = .int .i64 (w64 (i517 - 1))) :: (fun η604 v => v.1 = .pointer (some ((oA A474).add (Int.toNat (w64 (i517 - 1)) * 3)))) :: (fun η604 v => v.1 = .pointer (some (((oA A474).add (Int.toNat (w64 (i517 - 1)) * 3)).add 0))) :: (fun η604 v => v.1 = .string ((rd y468 (w64 (i517 - 1))).Seller)) :: (fun η604 v => v.1 = .bool (Op.bytesLess (y522.Seller).toList ((rd y468 (w64 (i517 - 1))).Seller).toList)) :: (fun η604 v => v.1 = .bool (Op.bytesLess (y522.Seller).toList ((rd y468 (w64 (i517 - 1))).Seller).toList)) :: (fun η604 v => v.1 = .pointer (some ⟨b596, 0, none⟩)) :: (fun η604 v => v.1 = .string y522.Seller) :: (fun η604 v => v.1 = .slice A474 y468.length c476) :: (fun η604 v => v.1 = .int .i64 i517) :: (fun η604 v => v.1 = .int .i64 (w64 (i517 - 1))) :: (fun η604 v => v.1 = .pointer (some ((oA A474).add (Int.toNat (w64 (i517 - 1)) * 3)))) :: (fun η604 v => v.1 = .pointer (some (((oA A474).add (Int.toNat (w64 (i517 - 1)) * 3)).add 0))) :: (fun η604 v => v.1 = .string ((rd y468 (w64 (i517 - 1))).Seller)) :: (fun η604 v => v.1 = .bool ((y522.Seller).toList == ((rd y468 (w64 (i517 - 1))).Seller).toList)) :: (fun η604 v => v.1 = .bool ((y522.Seller).toList == ((rd y468 (w64 (i517 - 1))).Seller).toList)) :: (fun η604 v => v.1 = .pointer (some ⟨b596, 1, none⟩)) :: (fun η604 v => v.1 = .string y522.Buyer) :: (fun η604 v => v.1 = .slice A474 y468.length c476) :: (fun η604 v => v.1 = .int .i64 i517) :: (fun η604 v => v.1 = .int .i64 (w64 (i517 - 1))) :: (fun η604 v => v.1 = .pointer (some ((oA A474).add (Int.toNat (w64 (i517 - 1)) * 3)))) :: (fun η604 v => v.1 = .pointer (some (((oA A474).add (Int.toNat (w64 (i517 - 1)) * 3)).add 1))) :: (fun η604 v => v.1 = .string ((rd y468 (w64 (i517 - 1))).Buyer)) :: (fun η604 v => v.1 = .bool (Op.bytesLess (y522.Buyer).toList ((rd y468 (w64 (i517 - 1))).Buyer).toList || (y522.Buyer).toList == ((rd y468 (w64 (i517 - 1))).Buyer).toList)) :: (fun η604 v => v.1 = .bool (Op.bytesLess (y522.Buyer).toList ((rd y468 (w64 (i517 - 1))).Buyer).toList || (y522.Buyer).toList == ((rd y468 (w64 (i517 - 1))).Buyer).toList)) :: (fun η604 v => v.1 = .bool (Op.bytesLess (y522.Buyer).toList ((rd y468 (w64 (i517 - 1))).Buyer).toList || (y522.Buyer).toList == ((rd y468 (w64 (i517 - 1))).Buyer).toList)) :: (fun η604 v => v.1 = .bool (Op.bytesLess (y522.Buyer).toList ((rd y468 (w64 (i517 - 1))).Buyer).toList || (y522.Buyer).toList == ((rd y468 (w64 (i517 - 1))).Buyer).toList)) :: (fun η604 v => v.1 = .bool (Op.bytesLess (y522.Buyer).toList ((rd y468 (w64 (i517 - 1))).Buyer).toList || (y522.Buyer).toList == ((rd y468 (w64 (i517 - 1))).Buyer).toList)) :: []) [] rfl (by kernel_rfl) (by kernel_rfl) H599 ⟨?_, ?_, ?_, ?_, ?_, ?_, ?_, ?_, ?_, ?_, ?_, ?_, ?_, ?_, ?_, ?_, ?_, ?_, ?_, ?_, ?_, ?_, ?_, ?_, ?_, ?_, ?_, ?_, ?_, ?_, ?_, ?_, ?_, ?_, ?_, ?_, ?_, ?_, ?_, ?_, ?_, ?_, ?_, ?_, ?_, ?_, ?_, ?_, ?_, ?_, ?_, ?_, trivial⟩ ?_
                      · intro η604 wd1568 Δ1569 hE1564 hR1565 hA1566 H1567
                        refine sp_op [(19, .pointer (some ⟨b596, 0, none⟩))] (ac rfl an) ?_
                        refine r_fa FA38_2 ⟨b596, 2, none⟩ rfl rfl ?_
                        exact r_nil (n_lp ⟨_, rfl, undef, rfl, H1567⟩)
                      · intro η604 wd1574 Δ1575 hE1570 hR1571 hA1572 H1573
                        have H1573 : Hp w0 ((Δ1575 ++ (Bx b596 38 [.string y522.Seller, .string y522.Buyer, .int .i64 y522.Amount] :: Row K38 (.slice A40 xs43.length c42) xs43 :: Bx b13 53 [.slice A40 xs43.length c42] :: Row K38 (.slice A44 xs47.length c46) xs47 :: Bx b23 53 [.slice A44 xs47.length c46] :: MpP ME25 b27 mm48 :: Row K38 (.slice A474 y468.length c476) y468 :: Γ))) wd1574 := H1573
                        refine sp_op [(117, .pointer (some ⟨b596, 2, none⟩))] (ac (hE1570 0 (by decide)) an) ?_
                        refine r_ld1 (.int .i64 y522.Amount) LD3 rfl (((H1573).tl.g0).cell _ rfl) ?_
                        exact r_nil (n_lp ⟨_, rfl, undef, rfl, H1573⟩)
                      · intro η604 wd1580 Δ1581 hE1576 hR1577 hA1578 H1579
                        refine sp_op [(118, .int .i64 y522.Amount)] (ac (hE1576 1 (by decide)) an) ?_
                        refine r_pure (.bool (y522.Amount == 0)) rfl ?_
                        exact r_nil (n_lp ⟨_, rfl, undef, rfl, H1579⟩)
                      · intro η604 wd1586 Δ1587 hE1582 hR1583 hA1584 H1585
                        refine sp_op [(119, .bool (y522.Amount == 0))] (ac (hE1582 2 (by decide)) an) ?_
                        refine r_pure (.bool (y522.Amount == 0)) rfl ?_
                        exact r_nil (n_lp ⟨_, rfl, undef, rfl, H1585⟩)
                      · intro η604 wd1592 Δ1593 hE1588 hR1589 hA1590 H1591
                        refine sp_op [(19, .pointer (some ⟨b596, 0, none⟩)), (120, .bool (y522.Amount == 0))] (ac rfl (ac (hE1588 3 (by decide)) an)) ?_
                        refine r_fa FA38_2 ⟨b596, 2, none⟩ rfl rfl ?_ (wn_t rfl rfl (by decide) rfl hb605)
                        exact r_nil (n_lp ⟨_, rfl, undef, rfl, H1591⟩)
                      · intro η604 wd1598 Δ1599 hE1594 hR1595 hA1596 H1597
                        have H1597 : Hp w0 ((Δ1599 ++ (Bx b596 38 [.string y522.Seller, .string y522.Buyer, .int .i64 y522.Amount] :: Row K38 (.slice A40 xs43.length c42) xs43 :: Bx b13 53 [.slice A40 xs43.length c42] :: Row K38 (.slice A44 xs47.length c46) xs47 :: Bx b23 53 [.slice A44 xs47.length c46] :: MpP ME25 b27 mm48 :: Row K38 (.slice A474 y468.length c476) y468 :: Γ))) wd1598 := H1597
                        refine sp_op [(120, .bool (y522.Amount == 0)), (121, .pointer (some ⟨b596, 2, none⟩))] (ac (hE1594 3 (by decide)) (ac (hE1594 4 (by decide)) an)) ?_
                        refine r_ld1 (.int .i64 y522.Amount) LD3 rfl (((H1597).tl.g0).cell _ rfl) ?_ (wn_t rfl rfl (by decide) rfl hb605)
                        exact r_nil (n_lp ⟨_, rfl, undef, rfl, H1597⟩)
                      · intro η604 wd1604 Δ1605 hE1600 hR1601 hA1602 H1603
                        refine sp_op [(5, .map (some b27)), (120, .bool (y522.Amount == 0))] (ac rfl (ac (hE1600 3 (by decide)) an)) ?_
                        refine r_pure (.map (some b27)) rfl ?_ (wn_t rfl rfl (by decide) rfl hb605)
                        exact r_nil (n_lp ⟨_, rfl, undef, rfl, H1603⟩)
                      · intro η604 wd1610 Δ1611 hE1606 hR1607 hA1608 H1609
                        refine sp_op [(19, .pointer (some ⟨b596, 0, none⟩)), (120, .bool (y522.Amount == 0))] (ac rfl (ac (hE1606 3 (by decide)) an)) ?_
                        refine r_fa FA38_0 ⟨b596, 0, none⟩ rfl rfl ?_ (wn_t rfl rfl (by decide) rfl hb605)
                        exact r_nil (n_lp ⟨_, rfl, undef, rfl, H1609⟩)
                      · intro η604 wd1616 Δ1617 hE1612 hR1613 hA1614 H1615
                        have H1615 : Hp w0 ((Δ1617 ++ (Bx b596 38 [.string y522.Seller, .string y522.Buyer, .int .i64 y522.Amount] :: Row K38 (.slice A40 xs43.length c42) xs43 :: Bx b13 53 [.slice A40 xs43.length c42] :: Row K38 (.slice A44 xs47.length c46) xs47 :: Bx b23 53 [.slice A44 xs47.length c46] :: MpP ME25 b27 mm48 :: Row K38 (.slice A474 y468.length c476) y468 :: Γ))) wd1616 := H1615
                        refine sp_op [(120, .bool (y522.Amount == 0)), (124, .pointer (some ⟨b596, 0, none⟩))] (ac (hE1612 3 (by decide)) (ac (hE1612 7 (by decide)) an)) ?_
                        refine r_ld1 (.string y522.Seller) LD9 rfl (((H1615).tl.g0).cell _ rfl) ?_ (wn_t rfl rfl (by decide) rfl hb605)
                        exact r_nil (n_lp ⟨_, rfl, undef, rfl, H1615⟩)
                      · intro η604 wd1622 Δ1623 hE1618 hR1619 hA1620 H1621
                        refine sp_op [(19, .pointer (some ⟨b596, 0, none⟩)), (120, .bool (y522.Amount == 0))] (ac rfl (ac (hE1618 3 (by decide)) an)) ?_
                        refine r_fa FA38_1 ⟨b596, 1, none⟩ rfl rfl ?_ (wn_t rfl rfl (by decide) rfl hb605)
                        exact r_nil (n_lp ⟨_, rfl, undef, rfl, H1621⟩)
                      · intro η604 wd1628 Δ1629 hE1624 hR1625 hA1626 H1627
                        have H1627 : Hp w0 ((Δ1629 ++ (Bx b596 38 [.string y522.Seller, .string y522.Buyer, .int .i64 y522.Amount] :: Row K38 (.slice A40 xs43.length c42) xs43 :: Bx b13 53 [.slice A40 xs43.length c42] :: Row K38 (.slice A44 xs47.length c46) xs47 :: Bx b23 53 [.slice A44 xs47.length c46] :: MpP ME25 b27 mm48 :: Row K38 (.slice A474 y468.length c476) y468 :: Γ))) wd1628 := H1627
                        refine sp_op [(120, .bool (y522.Amount == 0)), (126, .pointer (some ⟨b596, 1, none⟩))] (ac (hE1624 3 (by decide)) (ac (hE1624 9 (by decide)) an)) ?_
                        refine r_ld1 (.string y522.Buyer) LD9 rfl (((H1627).tl.g0).cell _ rfl) ?_ (wn_t rfl rfl (by decide) rfl hb605)
                        exact r_nil (n_lp ⟨_, rfl, undef, rfl, H1627⟩)
                      · intro η604 wd1634 Δ1635 hE1630 hR1631 hA1632 H1633
                        refine sp_op [(120, .bool (y522.Amount == 0)), (125, .string y522.Seller), (127, .string y522.Buyer)] (ac (hE1630 3 (by decide)) (ac (hE1630 8 (by decide)) (ac (hE1630 10 (by decide)) an))) ?_
                        refine r_buildA [.string y522.Seller, .string y522.Buyer] AR33 rfl ?_ (wn_t rfl rfl (by decide) rfl hb605)
                        exact r_nil (n_lp ⟨_, rfl, undef, rfl, H1633⟩)
                      · intro η604 wd1640 Δ1641 hE1636 hR1637 hA1638 H1639
                        have H1639 : Hp w0 ((Δ1641 ++ (Bx b596 38 [.string y522.Seller, .string y522.Buyer, .int .i64 y522.Amount] :: Row K38 (.slice A40 xs43.length c42) xs43 :: Bx b13 53 [.slice A40 xs43.length c42] :: Row K38 (.slice A44 xs47.length c46) xs47 :: Bx b23 53 [.slice A44 xs47.length c46] :: MpP ME25 b27 mm48 :: Row K38 (.slice A474 y468.length c476) y468 :: Γ))) wd1640 := H1639
                        refine sp_op [(120, .bool (y522.Amount == 0)), (123, .map (some b27)), (128, .agg #[.string y522.Seller, .string y522.Buyer])] (ac (hE1636 3 (by decide)) (ac (hE1636 6 (by decide)) (ac (hE1636 11 (by decide)) an))) ?_
                        refine r_lookP (E := ME25) (y522.Seller, y522.Buyer) (.int .i64 (pgetD (0 : Int) mm48 (y522.Seller, y522.Buyer))) rfl rfl rfl (MpP.lk MT25 (H1639).tl.g5) ?_ (wn_t rfl rfl (by decide) rfl hb605)
                        exact r_nil (n_lp ⟨_, rfl, undef, rfl, H1639⟩)
                      · intro η604 wd1646 Δ1647 hE1642 hR1643 hA1644 H1645
                        refine sp_op [(120, .bool (y522.Amount == 0)), (122, .int .i64 y522.Amount), (129, .int .i64 (pgetD (0 : Int) mm48 (y522.Seller, y522.Buyer)))] (ac (hE1642 3 (by decide)) (ac (hE1642 5 (by decide)) (ac (hE1642 12 (by decide)) an))) ?_
                        refine r_pure (.bool (y522.Amount != pgetD (0 : Int) mm48 (y522.Seller, y522.Buyer))) rfl ?_ (wn_t rfl rfl (by decide) rfl hb605)
                        exact r_nil (n_lp ⟨_, rfl, undef, rfl, H1645⟩)
                      · intro η604 wd1652 Δ1653 hE1648 hR1649 hA1650 H1651
                        refine sp_op [(120, .bool (y522.Amount == 0)), (130, .bool (y522.Amount != pgetD (0 : Int) mm48 (y522.Seller, y522.Buyer)))] (ac (hE1648 3 (by decide)) (ac (hE1648 13 (by decide)) an)) ?_
                        refine r_pick_f (.bool (y522.Amount != pgetD (0 : Int) mm48 (y522.Seller, y522.Buyer))) hb605 rfl rfl ?_
                        exact r_nil (n_lp ⟨_, rfl, undef, rfl, H1651⟩)
                      · intro η604 wd1658 Δ1659 hE1654 hR1655 hA1656 H1657
                        refine sp_op [(131, .bool (y522.Amount != pgetD (0 : Int) mm48 (y522.Seller, y522.Buyer)))] (ac (hE1654 14 (by decide)) an) ?_
                        refine r_pure (.bool (y522.Amount != pgetD (0 : Int) mm48 (y522.Seller, y522.Buyer))) rfl ?_
                        exact r_nil (n_lp ⟨_, rfl, undef, rfl, H1657⟩)
                      · intro η604 wd1664 Δ1665 hE1660 hR1661 hA1662 H1663
                        refine sp_op [(18, .int .i64 i517), (132, .bool (y522.Amount != pgetD (0 : Int) mm48 (y522.Seller, y522.Buyer)))] (ac rfl (ac (hE1660 15 (by decide)) an)) ?_
                        refine r_pure (.int .i64 i517) rfl ?_ (wn_t rfl rfl (by decide) rfl hb922)
                        exact r_nil (n_lp ⟨_, rfl, undef, rfl, H1663⟩)
                      · intro η604 wd1670 Δ1671 hE1666 hR1667 hA1668 H1669
                        refine sp_op [(132, .bool (y522.Amount != pgetD (0 : Int) mm48 (y522.Seller, y522.Buyer))), (133, .int .i64 i517)] (ac (hE1666 15 (by decide)) (ac (hE1666 16 (by decide)) an)) ?_
                        refine r_pure (.bool (decide (i517 > 0))) rfl ?_ (wn_t rfl rfl (by decide) rfl hb922)
                        exact r_nil (n_lp ⟨_, rfl, undef, rfl, H1669⟩)
                      · intro η604 wd1676 Δ1677 hE1672 hR1673 hA1674 H1675
                        refine sp_op [(132, .bool (y522.Amount != pgetD (0 : Int) mm48 (y522.Seller, y522.Buyer))), (134, .bool (decide (i517 > 0)))] (ac (hE1672 15 (by decide)) (ac (hE1672 17 (by decide)) an)) ?_
                        refine r_pure (.bool (decide (i517 > 0))) rfl ?_ (wn_t rfl rfl (by decide) rfl hb922)
                        exact r_nil (n_lp ⟨_, rfl, undef, rfl, H1675⟩)
                      · intro η604 wd1682 Δ1683 hE1678 hR1679 hA1680 H1681
                        refine sp_op [(19, .pointer (some ⟨b596, 0, none⟩)), (135, .bool (decide (i517 > 0)))] (ac rfl (ac (hE1678 18 (by decide)) an)) ?_
                        refine r_fa FA38_0 ⟨b596, 0, none⟩ rfl rfl ?_ (wn_t rfl rfl (by decide) rfl hb1239)
                        exact r_nil (n_lp ⟨_, rfl, undef, rfl, H1681⟩)
                      · intro η604 wd1688 Δ1689 hE1684 hR1685 hA1686 H1687
                        have H1687 : Hp w0 ((Δ1689 ++ (Bx b596 38 [.string y522.Seller, .string y522.Buyer, .int .i64 y522.Amount] :: Row K38 (.slice A40 xs43.length c42) xs43 :: Bx b13 53 [.slice A40 xs43.length c42] :: Row K38 (.slice A44 xs47.length c46) xs47 :: Bx b23 53 [.slice A44 xs47.length c46] :: MpP ME25 b27 mm48 :: Row K38 (.slice A474 y468.length c476) y468 :: Γ))) wd1688 := H1687
                        refine sp_op [(135, .bool (decide (i517 > 0))), (136, .pointer (some ⟨b596, 0, none⟩))] (ac (hE1684 18 (by decide)) (ac (hE1684 19 (by decide)) an)) ?_
                        refine r_ld1 (.string y522.Seller) LD9 rfl (((H1687).tl.g0).cell _ rfl) ?_ (wn_t rfl rfl (by decide) rfl hb1239)
                        exact r_nil (n_lp ⟨_, rfl, undef, rfl, H1687⟩)
                      · intro η604 wd1694 Δ1695 hE1690 hR1691 hA1692 H1693
                        refine sp_op [(14, .slice A474 y468.length c476), (135, .bool (decide (i517 > 0)))] (ac rfl (ac (hE1690 18 (by decide)) an)) ?_
                        refine r_pure (.slice A474 y468.length c476) rfl ?_ (wn_t rfl rfl (by decide) rfl hb1239)
                        exact r_nil (n_lp ⟨_, rfl, undef, rfl, H1693⟩)
                      · intro η604 wd1700 Δ1701 hE1696 hR1697 hA1698 H1699
                        refine sp_op [(18, .int .i64 i517), (135, .bool (decide (i517 > 0)))] (ac rfl (ac (hE1696 18 (by decide)) an)) ?_
                        refine r_pure (.int .i64 i517) rfl ?_ (wn_t rfl rfl (by decide) rfl hb1239)
                        exact r_nil (n_lp ⟨_, rfl, undef, rfl, H1699⟩)
                      · intro η604 wd1706 Δ1707 hE1702 hR1703 hA1704 H1705
                        refine sp_op [(135, .bool (decide (i517 > 0))), (139, .int .i64 i517)] (ac (hE1702 18 (by decide)) (ac (hE1702 22 (by decide)) an)) ?_
                        refine r_pure (.int .i64 (w64 (i517 - 1))) rfl ?_ (wn_t rfl rfl (by decide) rfl hb1239)
                        exact r_nil (n_lp ⟨_, rfl, undef, rfl, H1705⟩)
                      · intro η604 wd1712 Δ1713 hE1708 hR1709 hA1710 H1711
                        refine sp_op [(135, .bool (decide (i517 > 0))), (138, .slice A474 y468.length c476), (140, .int .i64 (w64 (i517 - 1)))] (ac (hE1708 18 (by decide)) (ac (hE1708 21 (by decide)) (ac (hE1708 23 (by decide)) an))) ?_
                        refine r_ix IX34 rfl rfl hA595 h01240 h11241 ?_ (wn_t rfl rfl (by decide) rfl hb1239)
                        exact r_nil (n_lp ⟨_, rfl, undef, rfl, H1711⟩)
                      · intro η604 wd1721 Δ1722 hE1717 hR1718 hA1719 H1720
                        refine sp_op [(135, .bool (decide (i517 > 0))), (141, .pointer (some ((oA A474).add (Int.toNat (w64 (i517 - 1)) * 3))))] (ac (hE1717 18 (by decide)) (ac (hE1717 24 (by decide)) an)) ?_
                        refine r_fa FA38_0 (((oA A474).add (Int.toNat (w64 (i517 - 1)) * 3)).add 0) rfl rfl ?_ (wn_t rfl rfl (by decide) rfl hb1239)
                        exact r_nil (n_lp ⟨_, rfl, undef, rfl, H1720⟩)
                      · intro η604 wd1727 Δ1728 hE1723 hR1724 hA1725 H1726
                        have H1726 : Hp w0 ((Δ1728 ++ (Bx b596 38 [.string y522.Seller, .string y522.Buyer, .int .i64 y522.Amount] :: Row K38 (.slice A40 xs43.length c42) xs43 :: Bx b13 53 [.slice A40 xs43.length c42] :: Row K38 (.slice A44 xs47.length c46) xs47 :: Bx b23 53 [.slice A44 xs47.length c46] :: MpP ME25 b27 mm48 :: Row K38 (.slice A474 y468.length c476) y468 :: Γ))) wd1727 := H1726
                        refine sp_op [(135, .bool (decide (i517 > 0))), (142, .pointer (some (((oA A474).add (Int.toNat (w64 (i517 - 1)) * 3)).add 0)))] (ac (hE1723 18 (by decide)) (ac (hE1723 25 (by decide)) an)) ?_
                        refine r_ld1 (.string ((rd y468 (w64 (i517 - 1))).Seller)) LD9 rfl (((H1726).tl.g6.rd).cA hA595 hj1242 0 _ rfl) ?_ (wn_t rfl rfl (by decide) rfl hb1239)
                        exact r_nil (n_lp ⟨_, rfl, undef, rfl, H1726⟩)
                      · intro η604 wd1733 Δ1734 hE1729 hR1730 hA1731 H1732
                        refine sp_op [(135, .bool (decide (i517 > 0))), (137, .string y522.Seller), (143, .string ((rd y468 (w64 (i517 - 1))).Seller))] (ac (hE1729 18 (by decide)) (ac (hE1729 20 (by decide)) (ac (hE1729 26 (by decide)) an))) ?_
                        refine r_pure (.bool (Op.bytesLess (y522.Seller).toList ((rd y468 (w64 (i517 - 1))).Seller).toList)) rfl ?_ (wn_t rfl rfl (by decide) rfl hb1239)
                        exact r_nil (n_lp ⟨_, rfl, undef, rfl, H1732⟩)
                      · intro η604 wd1739 Δ1740 hE1735 hR1736 hA1737 H1738
                        refine sp_op [(135, .bool (decide (i517 > 0))), (144, .bool (Op.bytesLess (y522.Seller).toList ((rd y468 (w64 (i517 - 1))).Seller).toList))] (ac (hE1735 18 (by decide)) (ac (hE1735 27 (by decide)) an)) ?_
                        refine r_pure (.bool (Op.bytesLess (y522.Seller).toList ((rd y468 (w64 (i517 - 1))).Seller).toList)) rfl ?_ (wn_t rfl rfl (by decide) rfl hb1239)
                        exact r_nil (n_lp ⟨_, rfl, undef, rfl, H1738⟩)
                      · intro η604 wd1745 Δ1746 hE1741 hR1742 hA1743 H1744
                        refine sp_op [(19, .pointer (some ⟨b596, 0, none⟩)), (145, .bool (Op.bytesLess (y522.Seller).toList ((rd y468 (w64 (i517 - 1))).Seller).toList))] (ac rfl (ac (hE1741 28 (by decide)) an)) ?_
                        refine r_fa FA38_0 ⟨b596, 0, none⟩ rfl rfl ?_ (wn_t rfl rfl (by decide) rfl hb1243)
                        exact r_nil (n_lp ⟨_, rfl, undef, rfl, H1744⟩)
                      · intro η604 wd1751 Δ1752 hE1747 hR1748 hA1749 H1750
                        have H1750 : Hp w0 ((Δ1752 ++ (Bx b596 38 [.string y522.Seller, .string y522.Buyer, .int .i64 y522.Amount] :: Row K38 (.slice A40 xs43.length c42) xs43 :: Bx b13 53 [.slice A40 xs43.length c42] :: Row K38 (.slice A44 xs47.length c46) xs47 :: Bx b23 53 [.slice A44 xs47.length c46] :: MpP ME25 b27 mm48 :: Row K38 (.slice A474 y468.length c476) y468 :: Γ))) wd1751 := H1750
                        refine sp_op [(145, .bool (Op.bytesLess (y522.Seller).toList ((rd y468 (w64 (i517 - 1))).Seller).toList)), (146, .pointer (some ⟨b596, 0, none⟩))] (ac (hE1747 28 (by decide)) (ac (hE1747 29 (by decide)) an)) ?_
                        refine r_ld1 (.string y522.Seller) LD9 rfl (((H1750).tl.g0).cell _ rfl) ?_ (wn_t rfl rfl (by decide) rfl hb1243)
                        exact r_nil (n_lp ⟨_, rfl, undef, rfl, H1750⟩)
                      · intro η604 wd1757 Δ1758 hE1753 hR1754 hA1755 H1756
                        refine sp_op [(14, .slice A474 y468.length c476), (145, .bool (Op.bytesLess (y522.Seller).toList ((rd y468 (w64 (i517 - 1))).Seller).toList))] (ac rfl (ac (hE1753 28 (by decide)) an)) ?_
                        refine r_pure (.slice A474 y468.length c476) rfl ?_ (wn_t rfl rfl (by decide) rfl hb1243)
                        exact r_nil (n_lp ⟨_, rfl, undef, rfl, H1756⟩)
                      · intro η604 wd1763 Δ1764 hE1759 hR1760 hA1761 H1762
                        refine sp_op [(18, .int .i64 i517), (145, .bool (Op.bytesLess (y522.Seller).toList ((rd y468 (w64 (i517 - 1))).Seller).toList))] (ac rfl (ac (hE1759 28 (by decide)) an)) ?_
                        refine r_pure (.int .i64 i517) rfl ?_ (wn_t rfl rfl (by decide) rfl hb1243)
                        exact r_nil (n_lp ⟨_, rfl, undef, rfl, H1762⟩)
                      · intro η604 wd1769 Δ1770 hE1765 hR1766 hA1767 H1768
                        refine sp_op [(145, .bool (Op.bytesLess (y522.Seller).toList ((rd y468 (w64 (i517 - 1))).Seller).toList)), (149, .int .i64 i517)] (ac (hE1765 28 (by decide)) (ac (hE1765 32 (by decide)) an)) ?_
                        refine r_pure (.int .i64 (w64 (i517 - 1))) rfl ?_ (wn_t rfl rfl (by decide) rfl hb1243)
                        exact r_nil (n_lp ⟨_, rfl, undef, rfl, H1768⟩)
                      · intro η604 wd1775 Δ1776 hE1771 hR1772 hA1773 H1774
                        refine sp_op [(145, .bool (Op.bytesLess (y522.Seller).toList ((rd y468 (w64 (i517 - 1))).Seller).toList)), (148, .slice A474 y468.length c476), (150, .int .i64 (w64 (i517 - 1)))] (ac (hE1771 28 (by decide)) (ac (hE1771 31 (by decide)) (ac (hE1771 33 (by decide)) an))) ?_
                        refine r_ix IX34 rfl rfl hA595 h01240 h11241 ?_ (wn_t rfl rfl (by decide) rfl hb1243)
                        exact r_nil (n_lp ⟨_, rfl, undef, rfl, H1774⟩)
                      · intro η604 wd1781 Δ1782 hE1777 hR1778 hA1779 H1780
                        refine sp_op [(145, .bool (Op.bytesLess (y522.Seller).toList ((rd y468 (w64 (i517 - 1))).Seller).toList)), (151, .pointer (some ((oA A474).add (Int.toNat (w64 (i517 - 1)) * 3))))] (ac (hE1777 28 (by decide)) (ac (hE1777 34 (by decide)) an)) ?_
                        refine r_fa FA38_0 (((oA A474).add (Int.toNat (w64 (i517 - 1)) * 3)).add 0) rfl rfl ?_ (wn_t rfl rfl (by decide) rfl hb1243)
                        exact r_nil (n_lp ⟨_, rfl, undef, rfl, H1780⟩)
                      · intro η604 wd1787 Δ1788 hE1783 hR1784 hA1785 H1786
                        have H1786 : Hp w0 ((Δ1788 ++ (Bx b596 38 [.string y522.Seller, .string y522.Buyer, .int .i64 y522.Amount] :: Row K38 (.slice A40 xs43.length c42) xs43 :: Bx b13 53 [.slice A40 xs43.length c42] :: Row K38 (.slice A44 xs47.length c46) xs47 :: Bx b23 53 [.slice A44 xs47.length c46] :: MpP ME25 b27 mm48 :: Row K38 (.slice A474 y468.length c476) y468 :: Γ))) wd1787 := H1786
                        refine sp_op [(145, .bool (Op.bytesLess (y522.Seller).toList ((rd y468 (w64 (i517 - 1))).Seller).toList)), (152, .pointer (some (((oA A474).add (Int.toNat (w64 (i517 - 1)) * 3)).add 0)))] (ac (hE1783 28 (by decide)) (ac (hE1783 35 (by decide)) an)) ?_
                        refine r_ld1 (.string ((rd y468 (w64 (i517 - 1))).Seller)) LD9 rfl (((H1786).tl.g6.rd).cA hA595 hj1242 0 _ rfl) ?_ (wn_t rfl rfl (by decide) rfl hb1243)
                        exact r_nil (n_lp ⟨_, rfl, undef, rfl, H1786⟩)
                      · intro η604 wd1793 Δ1794 hE1789 hR1790 hA1791 H1792
                        refine sp_op [(145, .bool (Op.bytesLess (y522.Seller).toList ((rd y468 (w64 (i517 - 1))).Seller).toList)), (147, .string y522.Seller), (153, .string ((rd y468 (w64 (i517 - 1))).Seller))] (ac (hE1789 28 (by decide)) (ac (hE1789 30 (by decide)) (ac (hE1789 36 (by decide)) an))) ?_
                        refine r_pure (.bool ((y522.Seller).toList == ((rd y468 (w64 (i517 - 1))).Seller).toList)) rfl ?_ (wn_t rfl rfl (by decide) rfl hb1243)
                        exact r_nil (n_lp ⟨_, rfl, undef, rfl, H1792⟩)
                      · intro η604 wd1799 Δ1800 hE1795 hR1796 hA1797 H1798
                        refine sp_op [(145, .bool (Op.bytesLess (y522.Seller).toList ((rd y468 (w64 (i517 - 1))).Seller).toList)), (154, .bool ((y522.Seller).toList == ((rd y468 (w64 (i517 - 1))).Seller).toList))] (ac (hE1795 28 (by decide)) (ac (hE1795 37 (by decide)) an)) ?_
                        refine r_pure (.bool ((y522.Seller).toList == ((rd y468 (w64 (i517 - 1))).Seller).toList)) rfl ?_ (wn_t rfl rfl (by decide) rfl hb1243)
                        exact r_nil (n_lp ⟨_, rfl, undef, rfl, H1798⟩)
                      · intro η604 wd1805 Δ1806 hE1801 hR1802 hA1803 H1804
                        refine sp_op [(19, .pointer (some ⟨b596, 0, none⟩)), (155, .bool ((y522.Seller).toList == ((rd y468 (w64 (i517 - 1))).Seller).toList))] (ac rfl (ac (hE1801 38 (by decide)) an)) ?_
                        refine r_fa FA38_1 ⟨b596, 1, none⟩ rfl rfl ?_ (wn_t rfl rfl (by decide) rfl hb1563)
                        exact r_nil (n_lp ⟨_, rfl, undef, rfl, H1804⟩)
                      · intro η604 wd1811 Δ1812 hE1807 hR1808 hA1809 H1810
                        have H1810 : Hp w0 ((Δ1812 ++ (Bx b596 38 [.string y522.Seller, .string y522.Buyer, .int .i64 y522.Amount] :: Row K38 (.slice A40 xs43.length c42) xs43 :: Bx b13 53 [.slice A40 xs43.length c42] :: Row K38 (.slice A44 xs47.length c46) xs47 :: Bx b23 53 [.slice A44 xs47.length c46] :: MpP ME25 b27 mm48 :: Row K38 (.slice A474 y468.length c476) y468 :: Γ))) wd1811 := H1810
                        refine sp_op [(155, .bool ((y522.Seller).toList == ((rd y468 (w64 (i517 - 1))).Seller).toList)), (156, .pointer (some ⟨b596, 1, none⟩))] (ac (hE1807 38 (by decide)) (ac (hE1807 39 (by decide)) an)) ?_
                        refine r_ld1 (.string y522.Buyer) LD9 rfl (((H1810).tl.g0).cell _ rfl) ?_ (wn_t rfl rfl (by decide) rfl hb1563)
                        exact r_nil (n_lp ⟨_, rfl, undef, rfl, H1810⟩)
                      · intro η604 wd1817 Δ1818 hE1813 hR1814 hA1815 H1816
                        refine sp_op [(14, .slice A474 y468.length c476), (155, .bool ((y522.Seller).toList == ((rd y468 (w64 (i517 - 1))).Seller).toList))] (ac rfl (ac (hE1813 38 (by decide)) an)) ?_
                        refine r_pure (.slice A474 y468.length c476) rfl ?_ (wn_t rfl rfl (by decide) rfl hb1563)
                        exact r_nil (n_lp ⟨_, rfl, undef, rfl, H1816⟩)
                      · intro η604 wd1823 Δ1824 hE1819 hR1820 hA1821 H1822
                        refine sp_op [(18, .int .i64 i517), (155, .bool ((y522.Seller).toList == ((rd y468 (w64 (i517 - 1))).Seller).toList))] (ac rfl (ac (hE1819 38 (by decide)) an)) ?_
                        refine r_pure (.int .i64 i517) rfl ?_ (wn_t rfl rfl (by decide) rfl hb1563)
                        exact r_nil (n_lp ⟨_, rfl, undef, rfl, H1822⟩)
                      · intro η604 wd1829 Δ1830 hE1825 hR1826 hA1827 H1828
                        refine sp_op [(155, .bool ((y522.Seller).toList == ((rd y468 (w64 (i517 - 1))).Seller).toList)), (159, .int .i64 i517)] (ac (hE1825 38 (by decide)) (ac (hE1825 42 (by decide)) an)) ?_
                        refine r_pure (.int .i64 (w64 (i517 - 1))) rfl ?_ (wn_t rfl rfl (by decide) rfl hb1563)
                        exact r_nil (n_lp ⟨_, rfl, undef, rfl, H1828⟩)
                      · intro η604 wd1835 Δ1836 hE1831 hR1832 hA1833 H1834
                        refine sp_op [(155, .bool ((y522.Seller).toList == ((rd y468 (w64 (i517 - 1))).Seller).toList)), (158, .slice A474 y468.length c476), (160, .int .i64 (w64 (i517 - 1)))] (ac (hE1831 38 (by decide)) (ac (hE1831 41 (by decide)) (ac (hE1831 43 (by decide)) an))) ?_
                        refine r_ix IX34 rfl rfl hA595 h01240 h11241 ?_ (wn_t rfl rfl (by decide) rfl hb1563)
                        exact r_nil (n_lp ⟨_, rfl, undef, rfl, H1834⟩)
                      · intro η604 wd1841 Δ1842 hE1837 hR1838 hA1839 H1840
                        refine sp_op [(155, .bool ((y522.Seller).toList == ((rd y468 (w64 (i517 - 1))).Seller).toList)), (161, .pointer (some ((oA A474).add (Int.toNat (w64 (i517 - 1)) * 3))))] (ac (hE1837 38 (by decide)) (ac (hE1837 44 (by decide)) an)) ?_
                        refine r_fa FA38_1 (((oA A474).add (Int.toNat (w64 (i517 - 1)) * 3)).add 1) rfl rfl ?_ (wn_t rfl rfl (by decide) rfl hb1563)
                        exact r_nil (n_lp ⟨_, rfl, undef, rfl, H1840⟩)
                      · intro η604 wd1847 Δ1848 hE1843 hR1844 hA1845 H1846
                        have H1846 : Hp w0 ((Δ1848 ++ (Bx b596 38 [.string y522.Seller, .string y522.Buyer, .int .i64 y522.Amount] :: Row K38 (.slice A40 xs43.length c42) xs43 :: Bx b13 53 [.slice A40 xs43.length c42] :: Row K38 (.slice A44 xs47.length c46) xs47 :: Bx b23 53 [.slice A44 xs47.length c46] :: MpP ME25 b27 mm48 :: Row K38 (.slice A474 y468.length c476) y468 :: Γ))) wd1847 := H1846
                        refine sp_op [(155, .bool ((y522.Seller).toList == ((rd y468 (w64 (i517 - 1))).Seller).toList)), (162, .pointer (some (((oA A474).add (Int.toNat (w64 (i517 - 1)) * 3)).add 1)))] (ac (hE1843 38 (by decide)) (ac (hE1843 45 (by decide)) an)) ?_
                        refine r_ld1 (.string ((rd y468 (w64 (i517 - 1))).Buyer)) LD9 rfl (((H1846).tl.g6.rd).cA hA595 hj1242 1 _ rfl) ?_ (wn_t rfl rfl (by decide) rfl hb1563)
                        exact r_nil (n_lp ⟨_, rfl, undef, rfl, H1846⟩)
                      · intro η604 wd1853 Δ1854 hE1849 hR1850 hA1851 H1852
                        refine sp_op [(155, .bool ((y522.Seller).toList == ((rd y468 (w64 (i517 - 1))).Seller).toList)), (157, .string y522.Buyer), (163, .string ((rd y468 (w64 (i517 - 1))).Buyer))] (ac (hE1849 38 (by decide)) (ac (hE1849 40 (by decide)) (ac (hE1849 46 (by decide)) an))) ?_
                        refine r_pure (.bool (Op.bytesLess (y522.Buyer).toList ((rd y468 (w64 (i517 - 1))).Buyer).toList || (y522.Buyer).toList == ((rd y468 (w64 (i517 - 1))).Buyer).toList)) rfl ?_ (wn_t rfl rfl (by decide) rfl hb1563)
                        exact r_nil (n_lp ⟨_, rfl, undef, rfl, H1852⟩)
                      · intro η604 wd1859 Δ1860 hE1855 hR1856 hA1857 H1858
                        refine sp_op [(145, .bool (Op.bytesLess (y522.Seller).toList ((rd y468 (w64 (i517 - 1))).Seller).toList)), (155, .bool ((y522.Seller).toList == ((rd y468 (w64 (i517 - 1))).Seller).toList)), (164, .bool (Op.bytesLess (y522.Buyer).toList ((rd y468 (w64 (i517 - 1))).Buyer).toList || (y522.Buyer).toList == ((rd y468 (w64 (i517 - 1))).Buyer).toList))] (ac (hE1855 28 (by decide)) (ac (hE1855 38 (by decide)) (ac (hE1855 47 (by decide)) an))) ?_
                        refine r_pick_t (.bool (Op.bytesLess (y522.Buyer).toList ((rd y468 (w64 (i517 - 1))).Buyer).toList || (y522.Buyer).toList == ((rd y468 (w64 (i517 - 1))).Buyer).toList)) hb1563 rfl rfl ?_ (wn_t rfl rfl (by decide) rfl hb1243)
                        exact r_nil (n_lp ⟨_, rfl, undef, rfl, H1858⟩)
                      · intro η604 wd1865 Δ1866 hE1861 hR1862 hA1863 H1864
                        refine sp_op [(135, .bool (decide (i517 > 0))), (145, .bool (Op.bytesLess (y522.Seller).toList ((rd y468 (w64 (i517 - 1))).Seller).toList)), (165, .bool (Op.bytesLess (y522.Buyer).toList ((rd y468 (w64 (i517 - 1))).Buyer).toList || (y522.Buyer).toList == ((rd y468 (w64 (i517 - 1))).Buyer).toList))] (ac (hE1861 18 (by decide)) (ac (hE1861 28 (by decide)) (ac (hE1861 48 (by decide)) an))) ?_
                        refine r_pick_f (.bool (Op.bytesLess (y522.Buyer).toList ((rd y468 (w64 (i517 - 1))).Buyer).toList || (y522.Buyer).toList == ((rd y468 (w64 (i517 - 1))).Buyer).toList)) hb1243 rfl rfl ?_ (wn_t rfl rfl (by decide) rfl hb1239)
                        exact r_nil (n_lp ⟨_, rfl, undef, rfl, H1864⟩)
                      · intro η604 wd1871 Δ1872 hE1867 hR1868 hA1869 H1870
                        refine sp_op [(132, .bool (y522.Amount != pgetD (0 : Int) mm48 (y522.Seller, y522.Buyer))), (135, .bool (decide (i517 > 0))), (166, .bool (Op.bytesLess (y522.Buyer).toList ((rd y468 (w64 (i517 - 1))).Buyer).toList || (y522.Buyer).toList == ((rd y468 (w64 (i517 - 1))).Buyer).toList))] (ac (hE1867 15 (by decide)) (ac (hE1867 18 (by decide)) (ac (hE1867 49 (by decide)) an))) ?_
                        refine r_pick_t (.bool (Op.bytesLess (y522.Buyer).toList ((rd y468 (w64 (i517 - 1))).Buyer).toList || (y522.Buyer).toList == ((rd y468 (w64 (i517 - 1))).Buyer).toList)) hb1239 rfl rfl ?_ (wn_t rfl rfl (by decide) rfl hb922)
                        exact r_nil (n_lp ⟨_, rfl, undef, rfl, H1870⟩)
                      · intro η604 wd1877 Δ1878 hE1873 hR1874 hA1875 H1876
                        refine sp_op [(132, .bool (y522.Amount != pgetD (0 : Int) mm48 (y522.Seller, y522.Buyer))), (167, .bool (Op.bytesLess (y522.Buyer).toList ((rd y468 (w64 (i517 - 1))).Buyer).toList || (y522.Buyer).toList == ((rd y468 (w64 (i517 - 1))).Buyer).toList))] (ac (hE1873 15 (by decide)) (ac (hE1873 50 (by decide)) an)) ?_
                        refine r_pick_f (.bool (Op.bytesLess (y522.Buyer).toList ((rd y468 (w64 (i517 - 1))).Buyer).toList || (y522.Buyer).toList == ((rd y468 (w64 (i517 - 1))).Buyer).toList)) hb922 rfl rfl ?_
                        exact r_nil (n_lp ⟨_, rfl, undef, rfl, H1876⟩)
                      · intro η604 wd1880 hV1881 H1879
                        have H1882 : Hp w0 (Bx b596 38 [.string y522.Seller, .string y522.Buyer, .int .i64 y522.Amount] :: Row K38 (.slice A40 xs43.length c42) xs43 :: Bx b13 53 [.slice A40 xs43.length c42] :: Row K38 (.slice A44 xs47.length c46) xs47 :: Bx b23 53 [.slice A44 xs47.length c46] :: MpP ME25 b27 mm48 :: Row K38 (.slice A474 y468.length c476) y468 :: Γ) wd1880 := H1879
                        refine n_frame ((3, .pointer (some ⟨b13, 0, none⟩)) :: (4, .pointer (some ⟨b23, 0, none⟩)) :: (5, .map (some b27)) :: (14, .slice A474 y468.length c476) :: (15, .int .i64 v499) :: (110, .slice A474 y468.length c476) :: (111, .int .i64 (y468.length : Int)) :: (112, .int .i64 i517) :: (121, .pointer (some ⟨b596, 2, none⟩)) :: (122, .int .i64 y522.Amount) :: (123, .map (some b27)) :: (124, .pointer (some ⟨b596, 0, none⟩)) :: (125, .string y522.Seller) :: (126, .pointer (some ⟨b596, 1, none⟩)) :: (127, .string y522.Buyer) :: (128, .agg #[.string y522.Seller, .string y522.Buyer]) :: (129, .int .i64 (pgetD (0 : Int) mm48 (y522.Seller, y522.Buyer))) :: (130, .bool (y522.Amount != pgetD (0 : Int) mm48 (y522.Seller, y522.Buyer))) :: (133, .int .i64 i517) :: (134, .bool (decide (i517 > 0))) :: (135, .bool (decide (i517 > 0))) :: (136, .pointer (some ⟨b596, 0, none⟩)) :: (137, .string y522.Seller) :: (138, .slice A474 y468.length c476) :: (139, .int .i64 i517) :: (140, .int .i64 (w64 (i517 - 1))) :: (141, .pointer (some ((oA A474).add (Int.toNat (w64 (i517 - 1)) * 3)))) :: (142, .pointer (some (((oA A474).add (Int.toNat (w64 (i517 - 1)) * 3)).add 0))) :: (143, .string ((rd y468 (w64 (i517 - 1))).Seller)) :: (144, .bool (Op.bytesLess (y522.Seller).toList ((rd y468 (w64 (i517 - 1))).Seller).toList)) :: (145, .bool (Op.bytesLess (y522.Seller).toList ((rd y468 (w64 (i517 - 1))).Seller).toList)) :: (146, .pointer (some ⟨b596, 0, none⟩)) :: (147, .string y522.Seller) :: (148, .slice A474 y468.length c476) :: (149, .int .i64 i517) :: (150, .int .i64 (w64 (i517 - 1))) :: (151, .pointer (some ((oA A474).add (Int.toNat (w64 (i517 - 1)) * 3)))) :: (152, .pointer (some (((oA A474).add (Int.toNat (w64 (i517 - 1)) * 3)).add 0))) :: (153, .string ((rd y468 (w64 (i517 - 1))).Seller)) :: (154, .bool ((y522.Seller).toList == ((rd y468 (w64 (i517 - 1))).Seller).toList)) :: (155, .bool ((y522.Seller).toList == ((rd y468 (w64 (i517 - 1))).Seller).toList)) :: (156, .pointer (some ⟨b596, 1, none⟩)) :: (157, .string y522.Buyer) :: (158, .slice A474 y468.length c476) :: (159, .int .i64 i517) :: (160, .int .i64 (w64 (i517 - 1))) :: (161, .pointer (some ((oA A474).add (Int.toNat (w64 (i517 - 1)) * 3)))) :: (162, .pointer (some (((oA A474).add (Int.toNat (w64 (i517 - 1)) * 3)).add 1))) :: (163, .string ((rd y468 (w64 (i517 - 1))).Buyer)) :: (164, .bool (Op.bytesLess (y522.Buyer).toList ((rd y468 (w64 (i517 - 1))).Buyer).toList || (y522.Buyer).toList == ((rd y468 (w64 (i517 - 1))).Buyer).toList)) :: (165, .bool (Op.bytesLess (y522.Buyer).toList ((rd y468 (w64 (i517 - 1))).Buyer).toList || (y522.Buyer).toList == ((rd y468 (w64 (i517 - 1))).Buyer).toList)) :: (166, .bool (Op.bytesLess (y522.Buyer).toList ((rd y468 (w64 (i517 - 1))).Buyer).toList || (y522.Buyer).toList == ((rd y468 (w64 (i517 - 1))).Buyer).toList)) :: (167, .bool (Op.bytesLess (y522.Buyer).toList ((rd y468 (w64 (i517 - 1))).Buyer).toList || (y522.Buyer).toList == ((rd y468 (w64 (i517 - 1))).Buyer).toList)) :: (168, .bool (Op.bytesLess (y522.Buyer).toList ((rd y468 (w64 (i517 - 1))).Buyer).toList || (y522.Buyer).toList == ((rd y468 (w64 (i517 - 1))).Buyer).toList)) :: []) (ac rfl (ac rfl (ac rfl (ac rfl (ac rfl (ac rfl (ac rfl (ac rfl (ac (hV1881 4 rfl) (ac (hV1881 5 rfl) (ac (hV1881 6 rfl) (ac (hV1881 7 rfl) (ac (hV1881 8 rfl) (ac (hV1881 9 rfl) (ac (hV1881 10 rfl) (ac (hV1881 11 rfl) (ac (hV1881 12 rfl) (ac (hV1881 13 rfl) (ac (hV1881 16 rfl) (ac (hV1881 17 rfl) (ac (hV1881 18 rfl) (ac (hV1881 19 rfl) (ac (hV1881 20 rfl) (ac (hV1881 21 rfl) (ac (hV1881 22 rfl) (ac (hV1881 23 rfl) (ac (hV1881 24 rfl) (ac (hV1881 25 rfl) (ac (hV1881 26 rfl) (ac (hV1881 27 rfl) (ac (hV1881 28 rfl) (ac (hV1881 29 rfl) (ac (hV1881 30 rfl) (ac (hV1881 31 rfl) (ac (hV1881 32 rfl) (ac (hV1881 33 rfl) (ac (hV1881 34 rfl) (ac (hV1881 35 rfl) (ac (hV1881 36 rfl) (ac (hV1881 37 rfl) (ac (hV1881 38 rfl) (ac (hV1881 39 rfl) (ac (hV1881 40 rfl) (ac (hV1881 41 rfl) (ac (hV1881 42 rfl) (ac (hV1881 43 rfl) (ac (hV1881 44 rfl) (ac (hV1881 45 rfl) (ac (hV1881 46 rfl) (ac (hV1881 47 rfl) (ac (hV1881 48 rfl) (ac (hV1881 49 rfl) (ac (hV1881 50 rfl) (ac (hV1881 51 rfl) an)))))))))))))))))))))))))))))))))))))))))))))))))))))) ?_
                        refine n_cut ⟨Op.bytesLess (y522.Buyer).toList ((rd y468 (w64 (i517 - 1))).Buyer).toList || (y522.Buyer).toList == ((rd y468 (w64 (i517 - 1))).Buyer).toList, upk (ac rfl (ac rfl (ac rfl (ac rfl (ac rfl (ac rfl (ac rfl (ac rfl (ac rfl an))))))))), H1882.d.u5.u5.u5.u5.u5.u5, hm⟩
                    · refine Flow.run' RA3_34 RW3_34 ((fun η604 v => v.1 = .pointer (some ⟨b596, 2, none⟩)) :: (fun η604 v => v.1 = .int .i64 y522.Amount) :: (fun η604 v => v.1 = .bool (y522.Amount == 0)) :: (fun η604 v => v.1 = .bool (y522.Amount == 0)) :: (fun η604 v => v.1 = .pointer (some ⟨b596, 2, none⟩)) :: (fun η604 v => v.1 = .int .i64 y522.Amount) :: (fun η604 v => v.1 = .map (some b27)) :: (fun η604 v => v.1 = .pointer (some ⟨b596, 0, none⟩)) :: (fun η604 v => v.1 = .string y522.Seller) :: (fun η604 v => v.1 = .pointer (some ⟨b596, 1, none⟩)) :: (fun η604 v => v.1 = .string y522.Buyer) :: (fun η604 v => v.1 = .agg #[.string y522.Seller, .string y522.Buyer]) :: (fun η604 v => v.1 = .int .i64 (pgetD (0 : Int) mm48 (y522.Seller, y522.Buyer))) :: (fun η604 v => v.1 = .bool (y522.Amount != pgetD (0 : Int) mm48 (y522.Seller, y522.Buyer))) :: (fun η604 v => v.1 = .bool (y522.Amount != pgetD (0 : Int) mm48 (y522.Seller, y522.Buyer))) :: (fun η604 v => v.1 = .bool (y522.Amount != pgetD (0 : Int) mm48 (y522.Seller, y522.Buyer))) :: (fun η604 v => v.1 = .int .i64 i517) :: (fun η604 v => v.1 = .bool (decide (i517 > 0))) :: (fun η604 v => v.1 = .bool (decide (i517 > 0))) :: (fun η604 v => v.1 = .pointer (some ⟨b596, 0, none⟩)) :: (fun η604 v => v.1 = .string y522.Seller) :: (fun η604 v => v.1 = .slice A474 y468.length c476) :: (fun η604 v => v.1 = .int .i64 i517) :: (fun η604 v => v.1 = .int .i64 (w64 (i517 - 1))) :: (fun η604 v => v.1 = .pointer (some ((oA A474).add (Int.toNat (w64 (i517 - 1)) * 3)))) :: (fun η604 v => v.1 = .pointer (some (((oA A474).add (Int.toNat (w64 (i517 - 1)) * 3)).add 0))) :: (fun η604 v => v.1 = .string ((rd y468 (w64 (i517 - 1))).Seller)) :: (fun η604 v => v.1 = .bool (Op.bytesLess (y522.Seller).toList ((rd y468 (w64 (i517 - 1))).Seller).toList)) :: (fun η604 v => v.1 = .bool (Op.bytesLess (y522.Seller).toList ((rd y468 (w64 (i517 - 1))).Seller).toList)) :: (fun η604 v => v.1 = .pointer (some ⟨b596, 0, none⟩)) :: (fun η604 v => v.1 = .string y522.Seller) :: (fun η604 v => v.1 = .slice A474 y468.length c476) :: (fun η604 v => v.1 = .int .i64 i517) :: (fun η604 v => v.1 = .int .i64 (w64 (i517 - 1))) :: (fun η604 v => v.1 = .pointer (some ((oA A474).add (Int.toNat (w64 (i517 - 1)) * 3)))) :: (fun η604 v => v.1 = .pointer (some (((oA A474).add (Int.toNat (w64 (i517 - 1)) * 3)).add 0))) :: (fun η604 v => v.1 = .string ((rd y468 (w64 (i517 - 1))).Seller)) :: (fun η604 v => v.1 = .bool ((y522.Seller).toList == ((rd y468 (w64 (i517 - 1))).Seller).toList)) :: (fun η604 v => v.1 = .bool ((y522.Seller).toList == ((rd y468 (w64 (i517 - 1))).Seller).toList)) :: (fun η604 v => v.1 = undef) :: (fun η604 v => v.1 = undef) :: (fun η604 v => v.1 = undef) :: (fun η604 v => v.1 = undef) :: (fun η604 v => v.1 = undef) :: (fun η604 v => v.1 = undef) :: (fun η604 v => v.1 = undef) :: (fun η604 v => v.1 = undef) :: (fun η604 v => v.1 = undef) :: (fun η604 v => v.1 = .bool false) :: (fun η604 v => v.1 = .bool false) :: (fun η604 v => v.1 = .bool false) :: (fun η604 v => v.1 = .bool false) :: []) [] rfl (by kernel_rfl) (by kernel_rfl) H599 ⟨?_, ?_, ?_, ?_, ?_, ?_, ?_, ?_, ?_, ?_, ?_, ?_, ?_, ?_, ?_, ?_, ?_, ?_, ?_, ?_, ?_, ?_, ?_, ?_, ?_, ?_, ?_, ?_, ?_, ?_, ?_, ?_, ?_, ?_, ?_, ?_, ?_, ?_, ?_, ?_, ?_, ?_, ?_, ?_, ?_, ?_, ?_, ?_, ?_, ?_, ?_, ?_, trivial⟩ ?_
                      · intro η604 wd1887 Δ1888 hE1883 hR1884 hA1885 H1886
                        refine sp_op [(19, .pointer (some ⟨b596, 0, none⟩))] (ac rfl an) ?_
                        refine r_fa FA38_2 ⟨b596, 2, none⟩ rfl rfl ?_
                        exact r_nil (n_lp ⟨_, rfl, undef, rfl, H1886⟩)
                      · intro η604 wd1893 Δ1894 hE1889 hR1890 hA1891 H1892
                        have H1892 : Hp w0 ((Δ1894 ++ (Bx b596 38 [.string y522.Seller, .string y522.Buyer, .int .i64 y522.Amount] :: Row K38 (.slice A40 xs43.length c42) xs43 :: Bx b13 53 [.slice A40 xs43.length c42] :: Row K38 (.slice A44 xs47.length c46) xs47 :: Bx b23 53 [.slice A44 xs47.length c46] :: MpP ME25 b27 mm48 :: Row K38 (.slice A474 y468.length c476) y468 :: Γ))) wd1893 := H1892
                        refine sp_op [(117, .pointer (some ⟨b596, 2, none⟩))] (ac (hE1889 0 (by decide)) an) ?_
                        refine r_ld1 (.int .i64 y522.Amount) LD3 rfl (((H1892).tl.g0).cell _ rfl) ?_
                        exact r_nil (n_lp ⟨_, rfl, undef, rfl, H1892⟩)
                      · intro η604 wd1899 Δ1900 hE1895 hR1896 hA1897 H1898
                        refine sp_op [(118, .int .i64 y522.Amount)] (ac (hE1895 1 (by decide)) an) ?_
                        refine r_pure (.bool (y522.Amount == 0)) rfl ?_
                        exact r_nil (n_lp ⟨_, rfl, undef, rfl, H1898⟩)
                      · intro η604 wd1905 Δ1906 hE1901 hR1902 hA1903 H1904
                        refine sp_op [(119, .bool (y522.Amount == 0))] (ac (hE1901 2 (by decide)) an) ?_
                        refine r_pure (.bool (y522.Amount == 0)) rfl ?_
                        exact r_nil (n_lp ⟨_, rfl, undef, rfl, H1904⟩)
                      · intro η604 wd1911 Δ1912 hE1907 hR1908 hA1909 H1910
                        refine sp_op [(19, .pointer (some ⟨b596, 0, none⟩)), (120, .bool (y522.Amount == 0))] (ac rfl (ac (hE1907 3 (by decide)) an)) ?_
                        refine r_fa FA38_2 ⟨b596, 2, none⟩ rfl rfl ?_ (wn_t rfl rfl (by decide) rfl hb605)
                        exact r_nil (n_lp ⟨_, rfl, undef, rfl, H1910⟩)
                      · intro η604 wd1917 Δ1918 hE1913 hR1914 hA1915 H1916
                        have H1916 : Hp w0 ((Δ1918 ++ (Bx b596 38 [.string y522.Seller, .string y522.Buyer, .int .i64 y522.Amount] :: Row K38 (.slice A40 xs43.length c42) xs43 :: Bx b13 53 [.slice A40 xs43.length c42] :: Row K38 (.slice A44 xs47.length c46) xs47 :: Bx b23 53 [.slice A44 xs47.length c46] :: MpP ME25 b27 mm48 :: Row K38 (.slice A474 y468.length c476) y468 :: Γ))) wd1917 := H1916
                        refine sp_op [(120, .bool (y522.Amount == 0)), (121, .pointer (some ⟨b596, 2, none⟩))] (ac (hE1913 3 (by decide)) (ac (hE1913 4 (by decide)) an)) ?_
                        refine r_ld1 (.int .i64 y522.Amount) LD3 rfl (((H1916).tl.g0).cell _ rfl) ?_ (wn_t rfl rfl (by decide) rfl hb605)
                        exact r_nil (n_lp ⟨_, rfl, undef, rfl, H1916⟩)
                      · intro η604 wd1923 Δ1924 hE1919 hR1920 hA1921 H1922
                        refine sp_op [(5, .map (some b27)), (120, .bool (y522.Amount == 0))] (ac rfl (ac (hE1919 3 (by decide)) an)) ?_
                        refine r_pure (.map (some b27)) rfl ?_ (wn_t rfl rfl (by decide) rfl hb605)
                        exact r_nil (n_lp ⟨_, rfl, undef, rfl, H1922⟩)
                      · intro η604 wd1929 Δ1930 hE1925 hR1926 hA1927 H1928
                        refine sp_op [(19, .pointer (some ⟨b596, 0, none⟩)), (120, .bool (y522.Amount == 0))] (ac rfl (ac (hE1925 3 (by decide)) an)) ?_
                        refine r_fa FA38_0 ⟨b596, 0, none⟩ rfl rfl ?_ (wn_t rfl rfl (by decide) rfl hb605)
                        exact r_nil (n_lp ⟨_, rfl, undef, rfl, H1928⟩)
                      · intro η604 wd1935 Δ1936 hE1931 hR1932 hA1933 H1934
                        have H1934 : Hp w0 ((Δ1936 ++ (Bx b596 38 [.string y522.Seller, .string y522.Buyer, .int .i64 y522.Amount] :: Row K38 (.slice A40 xs43.length c42) xs43 :: Bx b13 53 [.slice A40 xs43.length c42] :: Row K38 (.slice A44 xs47.length c46) xs47 :: Bx b23 53 [.slice A44 xs47.length c46] :: MpP ME25 b27 mm48 :: Row K38 (.slice A474 y468.length c476) y468 :: Γ))) wd1935 := H1934
                        refine sp_op [(120, .bool (y522.Amount == 0)), (124, .pointer (some ⟨b596, 0, none⟩))] (ac (hE1931 3 (by decide)) (ac (hE1931 7 (by decide)) an)) ?_
                        refine r_ld1 (.string y522.Seller) LD9 rfl (((H1934).tl.g0).cell _ rfl) ?_ (wn_t rfl rfl (by decide) rfl hb605)
                        exact r_nil (n_lp ⟨_, rfl, undef, rfl, H1934⟩)
                      · intro η604 wd1941 Δ1942 hE1937 hR1938 hA1939 H1940
                        refine sp_op [(19, .pointer (some ⟨b596, 0, none⟩)), (120, .bool (y522.Amount == 0))] (ac rfl (ac (hE1937 3 (by decide)) an)) ?_
                        refine r_fa FA38_1 ⟨b596, 1, none⟩ rfl rfl ?_ (wn_t rfl rfl (by decide) rfl hb605)
                        exact r_nil (n_lp ⟨_, rfl, undef, rfl, H1940⟩)
                      · intro η604 wd1947 Δ1948 hE1943 hR1944 hA1945 H1946
                        have H1946 : Hp w0 ((Δ1948 ++ (Bx b596 38 [.string y522.Seller, .string y522.Buyer, .int .i64 y522.Amount] :: Row K38 (.slice A40 xs43.length c42) xs43 :: Bx b13 53 [.slice A40 xs43.length c42] :: Row K38 (.slice A44 xs47.length c46) xs47 :: Bx b23 53 [.slice A44 xs47.length c46] :: MpP ME25 b27 mm48 :: Row K38 (.slice A474 y468.length c476) y468 :: Γ))) wd1947 := H1946
                        refine sp_op [(120, .bool (y522.Amount == 0)), (126, .pointer (some ⟨b596, 1, none⟩))] (ac (hE1943 3 (by decide)) (ac (hE1943 9 (by decide)) an)) ?_
                        refine r_ld1 (.string y522.Buyer) LD9 rfl (((H1946).tl.g0).cell _ rfl) ?_ (wn_t rfl rfl (by decide) rfl hb605)
                        exact r_nil (n_lp ⟨_, rfl, undef, rfl, H1946⟩)
                      · intro η604 wd1953 Δ1954 hE1949 hR1950 hA1951 H1952
                        refine sp_op [(120, .bool (y522.Amount == 0)), (125, .string y522.Seller), (127, .string y522.Buyer)] (ac (hE1949 3 (by decide)) (ac (hE1949 8 (by decide)) (ac (hE1949 10 (by decide)) an))) ?_
                        refine r_buildA [.string y522.Seller, .string y522.Buyer] AR33 rfl ?_ (wn_t rfl rfl (by decide) rfl hb605)
                        exact r_nil (n_lp ⟨_, rfl, undef, rfl, H1952⟩)
                      · intro η604 wd1959 Δ1960 hE1955 hR1956 hA1957 H1958
                        have H1958 : Hp w0 ((Δ1960 ++ (Bx b596 38 [.string y522.Seller, .string y522.Buyer, .int .i64 y522.Amount] :: Row K38 (.slice A40 xs43.length c42) xs43 :: Bx b13 53 [.slice A40 xs43.length c42] :: Row K38 (.slice A44 xs47.length c46) xs47 :: Bx b23 53 [.slice A44 xs47.length c46] :: MpP ME25 b27 mm48 :: Row K38 (.slice A474 y468.length c476) y468 :: Γ))) wd1959 := H1958
                        refine sp_op [(120, .bool (y522.Amount == 0)), (123, .map (some b27)), (128, .agg #[.string y522.Seller, .string y522.Buyer])] (ac (hE1955 3 (by decide)) (ac (hE1955 6 (by decide)) (ac (hE1955 11 (by decide)) an))) ?_
                        refine r_lookP (E := ME25) (y522.Seller, y522.Buyer) (.int .i64 (pgetD (0 : Int) mm48 (y522.Seller, y522.Buyer))) rfl rfl rfl (MpP.lk MT25 (H1958).tl.g5) ?_ (wn_t rfl rfl (by decide) rfl hb605)
                        exact r_nil (n_lp ⟨_, rfl, undef, rfl, H1958⟩)
                      · intro η604 wd1965 Δ1966 hE1961 hR1962 hA1963 H1964
                        refine sp_op [(120, .bool (y522.Amount == 0)), (122, .int .i64 y522.Amount), (129, .int .i64 (pgetD (0 : Int) mm48 (y522.Seller, y522.Buyer)))] (ac (hE1961 3 (by decide)) (ac (hE1961 5 (by decide)) (ac (hE1961 12 (by decide)) an))) ?_
                        refine r_pure (.bool (y522.Amount != pgetD (0 : Int) mm48 (y522.Seller, y522.Buyer))) rfl ?_ (wn_t rfl rfl (by decide) rfl hb605)
                        exact r_nil (n_lp ⟨_, rfl, undef, rfl, H1964⟩)
                      · intro η604 wd1971 Δ1972 hE1967 hR1968 hA1969 H1970
                        refine sp_op [(120, .bool (y522.Amount == 0)), (130, .bool (y522.Amount != pgetD (0 : Int) mm48 (y522.Seller, y522.Buyer)))] (ac (hE1967 3 (by decide)) (ac (hE1967 13 (by decide)) an)) ?_
                        refine r_pick_f (.bool (y522.Amount != pgetD (0 : Int) mm48 (y522.Seller, y522.Buyer))) hb605 rfl rfl ?_
                        exact r_nil (n_lp ⟨_, rfl, undef, rfl, H1970⟩)
                      · intro η604 wd1977 Δ1978 hE1973 hR1974 hA1975 H1976
                        refine sp_op [(131, .bool (y522.Amount != pgetD (0 : Int) mm48 (y522.Seller, y522.Buyer)))] (ac (hE1973 14 (by decide)) an) ?_
                        refine r_pure (.bool (y522.Amount != pgetD (0 : Int) mm48 (y522.Seller, y522.Buyer))) rfl ?_
                        exact r_nil (n_lp ⟨_, rfl, undef, rfl, H1976⟩)
                      · intro η604 wd1983 Δ1984 hE1979 hR1980 hA1981 H1982
                        refine sp_op [(18, .int .i64 i517), (132, .bool (y522.Amount != pgetD (0 : Int) mm48 (y522.Seller, y522.Buyer)))] (ac rfl (ac (hE1979 15 (by decide)) an)) ?_
                        refine r_pure (.int .i64 i517) rfl ?_ (wn_t rfl rfl (by decide) rfl hb922)
                        exact r_nil (n_lp ⟨_, rfl, undef, rfl, H1982⟩)
                      · intro η604 wd1989 Δ1990 hE1985 hR1986 hA1987 H1988
                        refine sp_op [(132, .bool (y522.Amount != pgetD (0 : Int) mm48 (y522.Seller, y522.Buyer))), (133, .int .i64 i517)] (ac (hE1985 15 (by decide)) (ac (hE1985 16 (by decide)) an)) ?_
                        refine r_pure (.bool (decide (i517 > 0))) rfl ?_ (wn_t rfl rfl (by decide) rfl hb922)
                        exact r_nil (n_lp ⟨_, rfl, undef, rfl, H1988⟩)
                      · intro η604 wd1995 Δ1996 hE1991 hR1992 hA1993 H1994
                        refine sp_op [(132, .bool (y522.Amount != pgetD (0 : Int) mm48 (y522.Seller, y522.Buyer))), (134, .bool (decide (i517 > 0)))] (ac (hE1991 15 (by decide)) (ac (hE1991 17 (by decide)) an)) ?_
                        refine r_pure (.bool (decide (i517 > 0))) rfl ?_ (wn_t rfl rfl (by decide) rfl hb922)
                        exact r_nil (n_lp ⟨_, rfl, undef, rfl, H1994⟩)
                      · intro η604 wd2001 Δ2002 hE1997 hR1998 hA1999 H2000
                        refine sp_op [(19, .pointer (some ⟨b596, 0, none⟩)), (135, .bool (decide (i517 > 0)))] (ac rfl (ac (hE1997 18 (by decide)) an)) ?_
                        refine r_fa FA38_0 ⟨b596, 0, none⟩ rfl rfl ?_ (wn_t rfl rfl (by decide) rfl hb1239)
                        exact r_nil (n_lp ⟨_, rfl, undef, rfl, H2000⟩)
                      · intro η604 wd2007 Δ2008 hE2003 hR2004 hA2005 H2006
                        have H2006 : Hp w0 ((Δ2008 ++ (Bx b596 38 [.string y522.Seller, .string y522.Buyer, .int .i64 y522.Amount] :: Row K38 (.slice A40 xs43.length c42) xs43 :: Bx b13 53 [.slice A40 xs43.length c42] :: Row K38 (.slice A44 xs47.length c46) xs47 :: Bx b23 53 [.slice A44 xs47.length c46] :: MpP ME25 b27 mm48 :: Row K38 (.slice A474 y468.length c476) y468 :: Γ))) wd2007 := H2006
                        refine sp_op [(135, .bool (decide (i517 > 0))), (136, .pointer (some ⟨b596, 0, none⟩))] (ac (hE2003 18 (by decide)) (ac (hE2003 19 (by decide)) an)) ?_
                        refine r_ld1 (.string y522.Seller) LD9 rfl (((H2006).tl.g0).cell _ rfl) ?_ (wn_t rfl rfl (by decide) rfl hb1239)
                        exact r_nil (n_lp ⟨_, rfl, undef, rfl, H2006⟩)
                      · intro η604 wd2013 Δ2014 hE2009 hR2010 hA2011 H2012
                        refine sp_op [(14, .slice A474 y468.length c476), (135, .bool (decide (i517 > 0)))] (ac rfl (ac (hE2009 18 (by decide)) an)) ?_
                        refine r_pure (.slice A474 y468.length c476) rfl ?_ (wn_t rfl rfl (by decide) rfl hb1239)
                        exact r_nil (n_lp ⟨_, rfl, undef, rfl, H2012⟩)
                      · intro η604 wd2019 Δ2020 hE2015 hR2016 hA2017 H2018
                        refine sp_op [(18, .int .i64 i517), (135, .bool (decide (i517 > 0)))] (ac rfl (ac (hE2015 18 (by decide)) an)) ?_
                        refine r_pure (.int .i64 i517) rfl ?_ (wn_t rfl rfl (by decide) rfl hb1239)
                        exact r_nil (n_lp ⟨_, rfl, undef, rfl, H2018⟩)
                      · intro η604 wd2025 Δ2026 hE2021 hR2022 hA2023 H2024
                        refine sp_op [(135, .bool (decide (i517 > 0))), (139, .int .i64 i517)] (ac (hE2021 18 (by decide)) (ac (hE2021 22 (by decide)) an)) ?_
                        refine r_pure (.int .i64 (w64 (i517 - 1))) rfl ?_ (wn_t rfl rfl (by decide) rfl hb1239)
                        exact r_nil (n_lp ⟨_, rfl, undef, rfl, H2024⟩)
                      · intro η604 wd2031 Δ2032 hE2027 hR2028 hA2029 H2030
                        refine sp_op [(135, .bool (decide (i517 > 0))), (138, .slice A474 y468.length c476), (140, .int .i64 (w64 (i517 - 1)))] (ac (hE2027 18 (by decide)) (ac (hE2027 21 (by decide)) (ac (hE2027 23 (by decide)) an))) ?_
                        refine r_ix IX34 rfl rfl hA595 h01240 h11241 ?_ (wn_t rfl rfl (by decide) rfl hb1239)
                        exact r_nil (n_lp ⟨_, rfl, undef, rfl, H2030⟩)
                      · intro η604 wd2040 Δ2041 hE2036 hR2037 hA2038 H2039
                        refine sp_op [(135, .bool (decide (i517 > 0))), (141, .pointer (some ((oA A474).add (Int.toNat (w64 (i517 - 1)) * 3))))] (ac (hE2036 18 (by decide)) (ac (hE2036 24 (by decide)) an)) ?_
                        refine r_fa FA38_0 (((oA A474).add (Int.toNat (w64 (i517 - 1)) * 3)).add 0) rfl rfl ?_ (wn_t rfl rfl (by decide) rfl hb1239)
                        exact r_nil (n_lp ⟨_, rfl, undef, rfl, H2039⟩)
                      · intro η604 wd2046 Δ2047 hE2042 hR2043 hA2044 H2045
                        have H2045 : Hp w0 ((Δ2047 ++ (Bx b596 38 [.string y522.Seller, .string y522.Buyer, .int .i64 y522.Amount] :: Row K38 (.slice A40 xs43.length c42) xs43 :: Bx b13 53 [.slice A40 xs43.length c42] :: Row K38 (.slice A44 xs47.length c46) xs47 :: Bx b23 53 [.slice A44 xs47.length c46] :: MpP ME25 b27 mm48 :: Row K38 (.slice A474 y468.length c476) y468 :: Γ))) wd2046 := H2045
                        refine sp_op [(135, .bool (decide (i517 > 0))), (142, .pointer (some (((oA A474).add (Int.toNat (w64 (i517 - 1)) * 3)).add 0)))] (ac (hE2042 18 (by decide)) (ac (hE2042 25 (by decide)) an)) ?_
                        refine r_ld1 (.string ((rd y468 (w64 (i517 - 1))).Seller)) LD9 rfl (((H2045).tl.g6.rd).cA hA595 hj1242 0 _ rfl) ?_ (wn_t rfl rfl (by decide) rfl hb1239)
                        exact r_nil (n_lp ⟨_, rfl, undef, rfl, H2045⟩)
                      · intro η604 wd2052 Δ2053 hE2048 hR2049 hA2050 H2051
                        refine sp_op [(135, .bool (decide (i517 > 0))), (137, .string y522.Seller), (143, .string ((rd y468 (w64 (i517 - 1))).Seller))] (ac (hE2048 18 (by decide)) (ac (hE2048 20 (by decide)) (ac (hE2048 26 (by decide)) an))) ?_
                        refine r_pure (.bool (Op.bytesLess (y522.Seller).toList ((rd y468 (w64 (i517 - 1))).Seller).toList)) rfl ?_ (wn_t rfl rfl (by decide) rfl hb1239)
                        exact r_nil (n_lp ⟨_, rfl, undef, rfl, H2051⟩)
                      · intro η604 wd2058 Δ2059 hE2054 hR2055 hA2056 H2057
                        refine sp_op [(135, .bool (decide (i517 > 0))), (144, .bool (Op.bytesLess (y522.Seller).toList ((rd y468 (w64 (i517 - 1))).Seller).toList))] (ac (hE2054 18 (by decide)) (ac (hE2054 27 (by decide)) an)) ?_
                        refine r_pure (.bool (Op.bytesLess (y522.Seller).toList ((rd y468 (w64 (i517 - 1))).Seller).toList)) rfl ?_ (wn_t rfl rfl (by decide) rfl hb1239)
                        exact r_nil (n_lp ⟨_, rfl, undef, rfl, H2057⟩)
                      · intro η604 wd2064 Δ2065 hE2060 hR2061 hA2062 H2063
                        refine sp_op [(19, .pointer (some ⟨b596, 0, none⟩)), (145, .bool (Op.bytesLess (y522.Seller).toList ((rd y468 (w64 (i517 - 1))).Seller).toList))] (ac rfl (ac (hE2060 28 (by decide)) an)) ?_
                        refine r_fa FA38_0 ⟨b596, 0, none⟩ rfl rfl ?_ (wn_t rfl rfl (by decide) rfl hb1243)
                        exact r_nil (n_lp ⟨_, rfl, undef, rfl, H2063⟩)
                      · intro η604 wd2070 Δ2071 hE2066 hR2067 hA2068 H2069
                        have H2069 : Hp w0 ((Δ2071 ++ (Bx b596 38 [.string y522.Seller, .string y522.Buyer, .int .i64 y522.Amount] :: Row K38 (.slice A40 xs43.length c42) xs43 :: Bx b13 53 [.slice A40 xs43.length c42] :: Row K38 (.slice A44 xs47.length c46) xs47 :: Bx b23 53 [.slice A44 xs47.length c46] :: MpP ME25 b27 mm48 :: Row K38 (.slice A474 y468.length c476) y468 :: Γ))) wd2070 := H2069
                        refine sp_op [(145, .bool (Op.bytesLess (y522.Seller).toList ((rd y468 (w64 (i517 - 1))).Seller).toList)), (146, .pointer (some ⟨b596, 0, none⟩))] (ac (hE2066 28 (by decide)) (ac (hE2066 29 (by decide)) an)) ?_
                        refine r_ld1 (.string y522.Seller) LD9 rfl (((H2069).tl.g0).cell _ rfl) ?_ (wn_t rfl rfl (by decide) rfl hb1243)
                        exact r_nil (n_lp ⟨_, rfl, undef, rfl, H2069⟩)
                      · intro η604 wd2076 Δ2077 hE2072 hR2073 hA2074 H2075
                        refine sp_op [(14, .slice A474 y468.length c476), (145, .bool (Op.bytesLess (y522.Seller).toList ((rd y468 (w64 (i517 - 1))).Seller).toList))] (ac rfl (ac (hE2072 28 (by decide)) an)) ?_
                        refine r_pure (.slice A474 y468.length c476) rfl ?_ (wn_t rfl rfl (by decide) rfl hb1243)
                        exact r_nil (n_lp ⟨_, rfl, undef, rfl, H2075⟩)
                      · intro η604 wd2082 Δ2083 hE2078 hR2079 hA2080 H2081
                        refine sp_op [(18, .int .i64 i517), (145, .bool (Op.bytesLess (y522.Seller).toList ((rd y468 (w64 (i517 - 1))).Seller).toList))] (ac rfl (ac (hE2078 28 (by decide)) an)) ?_
                        refine r_pure (.int .i64 i517) rfl ?_ (wn_t rfl rfl (by decide) rfl hb1243)
                        exact r_nil (n_lp ⟨_, rfl, undef, rfl, H2081⟩)
                      · intro η604 wd2088 Δ2089 hE2084 hR2085 hA2086 H2087
                        refine sp_op [(145, .bool (Op.bytesLess (y522.Seller).toList ((rd y468 (w64 (i517 - 1))).Seller).toList)), (149, .int .i64 i517)] (ac (hE2084 28 (by decide)) (ac (hE2084 32 (by decide)) an)) ?_
                        refine r_pure (.int .i64 (w64 (i517 - 1))) rfl ?_ (wn_t rfl rfl (by decide) rfl hb1243)
                        exact r_nil (n_lp ⟨_, rfl, undef, rfl, H2087⟩)
                      · intro η604 wd2094 Δ2095 hE2090 hR2091 hA2092 H2093
                        refine sp_op [(145, .bool (Op.bytesLess (y522.Seller).toList ((rd y468 (w64 (i517 - 1))).Seller).toList)), (148, .slice A474 y468.length c476), (150, .int .i64 (w64 (i517 - 1)))] (ac (hE2090 28 (by decide)) (ac (hE2090 31 (by decide)) (ac (hE2090 33 (by decide)) an))) ?_
                        refine r_ix IX34 rfl rfl hA595 h01240 h11241 ?_ (wn_t rfl rfl (by decide) rfl hb1243)
                        exact r_nil (n_lp ⟨_, rfl, undef, rfl, H2093⟩)
                      · intro η604 wd2100 Δ2101 hE2096 hR2097 hA2098 H2099
                        refine sp_op [(145, .bool (Op.bytesLess (y522.Seller).toList ((rd y468 (w64 (i517 - 1))).Seller).toList)), (151, .pointer (some ((oA A474).add (Int.toNat (w64 (i517 - 1)) * 3))))] (ac (hE2096 28 (by decide)) (ac (hE2096 34 (by decide)) an)) ?_
                        refine r_fa FA38_0 (((oA A474).add (Int.toNat (w64 (i517 - 1)) * 3)).add 0) rfl rfl ?_ (wn_t rfl rfl (by decide) rfl hb1243)
                        exact r_nil (n_lp ⟨_, rfl, undef, rfl, H2099⟩)
                      · intro η604 wd2106 Δ2107 hE2102 hR2103 hA2104 H2105
                        have H2105 : Hp w0 ((Δ2107 ++ (Bx b596 38 [.string y522.Seller, .string y522.Buyer, .int .i64 y522.Amount] :: Row K38 (.slice A40 xs43.length c42) xs43 :: Bx b13 53 [.slice A40 xs43.length c42] :: Row K38 (.slice A44 xs47.length c46) xs47 :: Bx b23 53 [.slice A44 xs47.length c46] :: MpP ME25 b27 mm48 :: Row K38 (.slice A474 y468.length c476) y468 :: Γ))) wd2106 := H2105
                        refine sp_op [(145, .bool (Op.bytesLess (y522.Seller).toList ((rd y468 (w64 (i517 - 1))).Seller).toList)), (152, .pointer (some (((oA A474).add (Int.toNat (w64 (i517 - 1)) * 3)).add 0)))] (ac (hE2102 28 (by decide)) (ac (hE2102 35 (by decide)) an)) ?_
                        refine r_ld1 (.string ((rd y468 (w64 (i517 - 1))).Seller)) LD9 rfl (((H2105).tl.g6.rd).cA hA595 hj1242 0 _ rfl) ?_ (wn_t rfl rfl (by decide) rfl hb1243)
                        exact r_nil (n_lp ⟨_, rfl, undef, rfl, H2105⟩)
                      · intro η604 wd2112 Δ2113 hE2108 hR2109 hA2110 H2111
                        refine sp_op [(145, .bool (Op.bytesLess (y522.Seller).toList ((rd y468 (w64 (i517 - 1))).Seller).toList)), (147, .string y522.Seller), (153, .string ((rd y468 (w64 (i517 - 1))).Seller))] (ac (hE2108 28 (by decide)) (ac (hE2108 30 (by decide)) (ac (hE2108 36 (by decide)) an))) ?_
                        refine r_pure (.bool ((y522.Seller).toList == ((rd y468 (w64 (i517 - 1))).Seller).toList)) rfl ?_ (wn_t rfl rfl (by decide) rfl hb1243)
                        exact r_nil (n_lp ⟨_, rfl, undef, rfl, H2111⟩)
                      · intro η604 wd2118 Δ2119 hE2114 hR2115 hA2116 H2117
                        refine sp_op [(145, .bool (Op.bytesLess (y522.Seller).toList ((rd y468 (w64 (i517 - 1))).Seller).toList)), (154, .bool ((y522.Seller).toList == ((rd y468 (w64 (i517 - 1))).Seller).toList))] (ac (hE2114 28 (by decide)) (ac (hE2114 37 (by decide)) an)) ?_
                        refine r_pure (.bool ((y522.Seller).toList == ((rd y468 (w64 (i517 - 1))).Seller).toList)) rfl ?_ (wn_t rfl rfl (by decide) rfl hb1243)
                        exact r_nil (n_lp ⟨_, rfl, undef, rfl, H2117⟩)
                      · intro η604 wd2124 Δ2125 hE2120 hR2121 hA2122 H2123
                        refine sp_op [(155, .bool ((y522.Seller).toList == ((rd y468 (w64 (i517 - 1))).Seller).toList))] (ac (hE2120 38 (by decide)) an) ?_
                        refine r_not (wn_f rfl rfl (by decide) rfl hb1563) ?_
                        exact r_nil (n_lp ⟨_, rfl, undef, rfl, H2123⟩)
                      · intro η604 wd2130 Δ2131 hE2126 hR2127 hA2128 H2129
                        refine sp_op [(155, .bool ((y522.Seller).toList == ((rd y468 (w64 (i517 - 1))).Seller).toList))] (ac (hE2126 38 (by decide)) an) ?_
                        refine r_not (wn_f rfl rfl (by decide) rfl hb1563) ?_
                        exact r_nil (n_lp ⟨_, rfl, undef, rfl, H2129⟩)
                      · intro η604 wd2136 Δ2137 hE2132 hR2133 hA2134 H2135
                        refine sp_op [(155, .bool ((y522.Seller).toList == ((rd y468 (w64 (i517 - 1))).Seller).toList))] (ac (hE2132 38 (by decide)) an) ?_
                        refine r_not (wn_f rfl rfl (by decide) rfl hb1563) ?_
                        exact r_nil (n_lp ⟨_, rfl, undef, rfl, H2135⟩)
                      · intro η604 wd2142 Δ2143 hE2138 hR2139 hA2140 H2141
                        refine sp_op [(155, .bool ((y522.Seller).toList == ((rd y468 (w64 (i517 - 1))).Seller).toList))] (ac (hE2138 38 (by decide)) an) ?_
                        refine r_not (wn_f rfl rfl (by decide) rfl hb1563) ?_
                        exact r_nil (n_lp ⟨_, rfl, undef, rfl, H2141⟩)
                      · intro η604 wd2148 Δ2149 hE2144 hR2145 hA2146 H2147
                        refine sp_op [(155, .bool ((y522.Seller).toList == ((rd y468 (w64 (i517 - 1))).Seller).toList))] (ac (hE2144 38 (by decide)) an) ?_
                        refine r_not (wn_f rfl rfl (by decide) rfl hb1563) ?_
                        exact r_nil (n_lp ⟨_, rfl, undef, rfl, H2147⟩)
                      · intro η604 wd2154 Δ2155 hE2150 hR2151 hA2152 H2153
                        refine sp_op [(155, .bool ((y522.Seller).toList == ((rd y468 (w64 (i517 - 1))).Seller).toList))] (ac (hE2150 38 (by decide)) an) ?_
                        refine r_not (wn_f rfl rfl (by decide) rfl hb1563) ?_
                        exact r_nil (n_lp ⟨_, rfl, undef, rfl, H2153⟩)
                      · intro η604 wd2160 Δ2161 hE2156 hR2157 hA2158 H2159
                        refine sp_op [(155, .bool ((y522.Seller).toList == ((rd y468 (w64 (i517 - 1))).Seller).toList))] (ac (hE2156 38 (by decide)) an) ?_
                        refine r_not (wn_f rfl rfl (by decide) rfl hb1563) ?_
                        exact r_nil (n_lp ⟨_, rfl, undef, rfl, H2159⟩)
                      · intro η604 wd2166 Δ2167 hE2162 hR2163 hA2164 H2165
                        refine sp_op [(155, .bool ((y522.Seller).toList == ((rd y468 (w64 (i517 - 1))).Seller).toList))] (ac (hE2162 38 (by decide)) an) ?_
                        refine r_not (wn_f rfl rfl (by decide) rfl hb1563) ?_
                        exact r_nil (n_lp ⟨_, rfl, undef, rfl, H2165⟩)
                      · intro η604 wd2172 Δ2173 hE2168 hR2169 hA2170 H2171
                        refine sp_op [(155, .bool ((y522.Seller).toList == ((rd y468 (w64 (i517 - 1))).Seller).toList))] (ac (hE2168 38 (by decide)) an) ?_
                        refine r_not (wn_f rfl rfl (by decide) rfl hb1563) ?_
                        exact r_nil (n_lp ⟨_, rfl, undef, rfl, H2171⟩)
                      · intro η604 wd2178 Δ2179 hE2174 hR2175 hA2176 H2177
                        refine sp_op [(145, .bool (Op.bytesLess (y522.Seller).toList ((rd y468 (w64 (i517 - 1))).Seller).toList)), (155, .bool ((y522.Seller).toList == ((rd y468 (w64 (i517 - 1))).Seller).toList)), (164, undef)] (ac (hE2174 28 (by decide)) (ac (hE2174 38 (by decide)) (ac (hE2174 47 (by decide)) an))) ?_
                        refine r_pick_f (.bool false) hb1563 rfl rfl ?_ (wn_t rfl rfl (by decide) rfl hb1243)
                        exact r_nil (n_lp ⟨_, rfl, undef, rfl, H2177⟩)
                      · intro η604 wd2184 Δ2185 hE2180 hR2181 hA2182 H2183
                        refine sp_op [(135, .bool (decide (i517 > 0))), (145, .bool (Op.bytesLess (y522.Seller).toList ((rd y468 (w64 (i517 - 1))).Seller).toList)), (165, .bool false)] (ac (hE2180 18 (by decide)) (ac (hE2180 28 (by decide)) (ac (hE2180 48 (by decide)) an))) ?_
                        refine r_pick_f (.bool false) hb1243 rfl rfl ?_ (wn_t rfl rfl (by decide) rfl hb1239)
                        exact r_nil (n_lp ⟨_, rfl, undef, rfl, H2183⟩)
                      · intro η604 wd2190 Δ2191 hE2186 hR2187 hA2188 H2189
                        refine sp_op [(132, .bool (y522.Amount != pgetD (0 : Int) mm48 (y522.Seller, y522.Buyer))), (135, .bool (decide (i517 > 0))), (166, .bool false)] (ac (hE2186 15 (by decide)) (ac (hE2186 18 (by decide)) (ac (hE2186 49 (by decide)) an))) ?_
                        refine r_pick_t (.bool false) hb1239 rfl rfl ?_ (wn_t rfl rfl (by decide) rfl hb922)
                        exact r_nil (n_lp ⟨_, rfl, undef, rfl, H2189⟩)
                      · intro η604 wd2196 Δ2197 hE2192 hR2193 hA2194 H2195
                        refine sp_op [(132, .bool (y522.Amount != pgetD (0 : Int) mm48 (y522.Seller, y522.Buyer))), (167, .bool false)] (ac (hE2192 15 (by decide)) (ac (hE2192 50 (by decide)) an)) ?_
                        refine r_pick_f (.bool false) hb922 rfl rfl ?_
                        exact r_nil (n_lp ⟨_, rfl, undef, rfl, H2195⟩)
                      · intro η604 wd2199 hV2200 H2198
                        have H2201 : Hp w0 (Bx b596 38 [.string y522.Seller, .string y522.Buyer, .int .i64 y522.Amount] :: Row K38 (.slice A40 xs43.length c42) xs43 :: Bx b13 53 [.slice A40 xs43.length c42] :: Row K38 (.slice A44 xs47.length c46) xs47 :: Bx b23 53 [.slice A44 xs47.length c46] :: MpP ME25 b27 mm48 :: Row K38 (.slice A474 y468.length c476) y468 :: Γ) wd2199 := H2198
                        refine n_frame ((3, .pointer (some ⟨b13, 0, none⟩)) :: (4, .pointer (some ⟨b23, 0, none⟩)) :: (5, .map (some b27)) :: (14, .slice A474 y468.length c476) :: (15, .int .i64 v499) :: (110, .slice A474 y468.length c476) :: (111, .int .i64 (y468.length : Int)) :: (112, .int .i64 i517) :: (121, .pointer (some ⟨b596, 2, none⟩)) :: (122, .int .i64 y522.Amount) :: (123, .map (some b27)) :: (124, .pointer (some ⟨b596, 0, none⟩)) :: (125, .string y522.Seller) :: (126, .pointer (some ⟨b596, 1, none⟩)) :: (127, .string y522.Buyer) :: (128, .agg #[.string y522.Seller, .string y522.Buyer]) :: (129, .int .i64 (pgetD (0 : Int) mm48 (y522.Seller, y522.Buyer))) :: (130, .bool (y522.Amount != pgetD (0 : Int) mm48 (y522.Seller, y522.Buyer))) :: (133, .int .i64 i517) :: (134, .bool (decide (i517 > 0))) :: (135, .bool (decide (i517 > 0))) :: (136, .pointer (some ⟨b596, 0, none⟩)) :: (137, .string y522.Seller) :: (138, .slice A474 y468.length c476) :: (139, .int .i64 i517) :: (140, .int .i64 (w64 (i517 - 1))) :: (141, .pointer (some ((oA A474).add (Int.toNat (w64 (i517 - 1)) * 3)))) :: (142, .pointer (some (((oA A474).add (Int.toNat (w64 (i517 - 1)) * 3)).add 0))) :: (143, .string ((rd y468 (w64 (i517 - 1))).Seller)) :: (144, .bool (Op.bytesLess (y522.Seller).toList ((rd y468 (w64 (i517 - 1))).Seller).toList)) :: (145, .bool (Op.bytesLess (y522.Seller).toList ((rd y468 (w64 (i517 - 1))).Seller).toList)) :: (146, .pointer (some ⟨b596, 0, none⟩)) :: (147, .string y522.Seller) :: (148, .slice A474 y468.length c476) :: (149, .int .i64 i517) :: (150, .int .i64 (w64 (i517 - 1))) :: (151, .pointer (some ((oA A474).add (Int.toNat (w64 (i517 - 1)) * 3)))) :: (152, .pointer (some (((oA A474).add (Int.toNat (w64 (i517 - 1)) * 3)).add 0))) :: (153, .string ((rd y468 (w64 (i517 - 1))).Seller)) :: (154, .bool ((y522.Seller).toList == ((rd y468 (w64 (i517 - 1))).Seller).toList)) :: (155, .bool ((y522.Seller).toList == ((rd y468 (w64 (i517 - 1))).Seller).toList)) :: (165, .bool false) :: (166, .bool false) :: (167, .bool false) :: (168, .bool false) :: []) (ac rfl (ac rfl (ac rfl (ac rfl (ac rfl (ac rfl (ac rfl (ac rfl (ac (hV2200 4 rfl) (ac (hV2200 5 rfl) (ac (hV2200 6 rfl) (ac (hV2200 7 rfl) (ac (hV2200 8 rfl) (ac (hV2200 9 rfl) (ac (hV2200 10 rfl) (ac (hV2200 11 rfl) (ac (hV2200 12 rfl) (ac (hV2200 13 rfl) (ac (hV2200 16 rfl) (ac (hV2200 17 rfl) (ac (hV2200 18 rfl) (ac (hV2200 19 rfl) (ac (hV2200 20 rfl) (ac (hV2200 21 rfl) (ac (hV2200 22 rfl) (ac (hV2200 23 rfl) (ac (hV2200 24 rfl) (ac (hV2200 25 rfl) (ac (hV2200 26 rfl) (ac (hV2200 27 rfl) (ac (hV2200 28 rfl) (ac (hV2200 29 rfl) (ac (hV2200 30 rfl) (ac (hV2200 31 rfl) (ac (hV2200 32 rfl) (ac (hV2200 33 rfl) (ac (hV2200 34 rfl) (ac (hV2200 35 rfl) (ac (hV2200 36 rfl) (ac (hV2200 37 rfl) (ac (hV2200 38 rfl) (ac (hV2200 48 rfl) (ac (hV2200 49 rfl) (ac (hV2200 50 rfl) (ac (hV2200 51 rfl) an))))))))))))))))))))))))))))))))))))))))))))) ?_
                        refine n_cut ⟨false, upk (ac rfl (ac rfl (ac rfl (ac rfl (ac rfl (ac rfl (ac rfl (ac rfl (ac rfl an))))))))), H2201.d.u5.u5.u5.u5.u5.u5, hm⟩
                · refine Flow.run' RA3_34 RW3_34 ((fun η604 v => v.1 = .pointer (some ⟨b596, 2, none⟩)) :: (fun η604 v => v.1 = .int .i64 y522.Amount) :: (fun η604 v => v.1 = .bool (y522.Amount == 0)) :: (fun η604 v => v.1 = .bool (y522.Amount == 0)) :: (fun η604 v => v.1 = .pointer (some ⟨b596, 2, none⟩)) :: (fun η604 v => v.1 = .int .i64 y522.Amount) :: (fun η604 v => v.1 = .map (some b27)) :: (fun η604 v => v.1 = .pointer (some ⟨b596, 0, none⟩)) :: (fun η604 v => v.1 = .string y522.Seller) :: (fun η604 v => v.1 = .pointer (some ⟨b596, 1, none⟩)) :: (fun η604 v => v.1 = .string y522.Buyer) :: (fun η604 v => v.1 = .agg #[.string y522.Seller, .string y522.Buyer]) :: (fun η604 v => v.1 = .int .i64 (pgetD (0 : Int) mm48 (y522.Seller, y522.Buyer))) :: (fun η604 v => v.1 = .bool (y522.Amount != pgetD (0 : Int) mm48 (y522.Seller, y522.Buyer))) :: (fun η604 v => v.1 = .bool (y522.Amount != pgetD (0 : Int) mm48 (y522.Seller, y522.Buyer))) :: (fun η604 v => v.1 = .bool (y522.Amount != pgetD (0 : Int) mm48 (y522.Seller, y522.Buyer))) :: (fun η604 v => v.1 = .int .i64 i517) :: (fun η604 v => v.1 = .bool (decide (i517 > 0))) :: (fun η604 v => v.1 = .bool (decide (i517 > 0))) :: (fun η604 v => v.1 = undef) :: (fun η604 v => v.1 = undef) :: (fun η604 v => v.1 = undef) :: (fun η604 v => v.1 = undef) :: (fun η604 v => v.1 = undef) :: (fun η604 v => v.1 = undef) :: (fun η604 v => v.1 = undef) :: (fun η604 v => v.1 = undef) :: (fun η604 v => v.1 = undef) :: (fun η604 v => v.1 = undef) :: (fun η604 v => v.1 = undef) :: (fun η604 v => v.1 = undef) :: (fun η604 v => v.1 = undef) :: (fun η604 v => v.1 = undef) :: (fun η604 v => v.1 = undef) :: (fun η604 v => v.1 = undef) :: (fun η604 v => v.1 = undef) :: (fun η604 v => v.1 = undef) :: (fun η604 v => v.1 = undef) :: (fun η604 v => v.1 = undef) :: (fun η604 v => v.1 = undef) :: (fun η604 v => v.1 = undef) :: (fun η604 v => v.1 = undef) :: (fun η604 v => v.1 = undef) :: (fun η604 v => v.1 = undef) :: (fun η604 v => v.1 = undef) :: (fun η604 v => v.1 = undef) :: (fun η604 v => v.1 = undef) :: (fun η604 v => v.1 = undef) :: (fun η604 v => v.1 = undef) :: (fun η604 v => v.1 = undef) :: (fun η604 v => v.1 = .bool false) :: (fun η604 v => v.1 = .bool false) :: []) [] rfl (by kernel_rfl) (by kernel_rfl) H599 ⟨?_, ?_, ?_, ?_, ?_, ?_, ?_, ?_, ?_, ?_, ?_, ?_, ?_, ?_, ?_, ?_, ?_, ?_, ?_, ?_, ?_, ?_, ?_, ?_, ?_, ?_, ?_, ?_, ?_, ?_, ?_, ?_, ?_, ?_, ?_, ?_, ?_, ?_, ?_, ?_, ?_, ?_, ?_, ?_, ?_, ?_, ?_, ?_, ?_, ?_, ?_, ?_, trivial⟩ ?_
                  · intro η604 wd2206 Δ2207 hE2202 hR2203 hA2204 H2205
                    refine sp_op [(19, .pointer (some ⟨b596, 0, none⟩))] (ac rfl an) ?_
                    refine r_fa FA38_2 ⟨b596, 2, none⟩ rfl rfl ?_
                    exact r_nil (n_lp ⟨_, rfl, undef, rfl, H2205⟩)
                  · intro η604 wd2212 Δ2213 hE2208 hR2209 hA2210 H2211
                    have H2211 : Hp w0 ((Δ2213 ++ (Bx b596 38 [.string y522.Seller, .string y522.Buyer, .int .i64 y522.Amount] :: Row K38 (.slice A40 xs43.length c42) xs43 :: Bx b13 53 [.slice A40 xs43.length c42] :: Row K38 (.slice A44 xs47.length c46) xs47 :: Bx b23 53 [.slice A44 xs47.length c46] :: MpP ME25 b27 mm48 :: Row K38 (.slice A474 y468.length c476) y468 :: Γ))) wd2212 := H2211
                    refine sp_op [(117, .pointer (some ⟨b596, 2, none⟩))] (ac (hE2208 0 (by decide)) an) ?_
                    refine r_ld1 (.int .i64 y522.Amount) LD3 rfl (((H2211).tl.g0).cell _ rfl) ?_
                    exact r_nil (n_lp ⟨_, rfl, undef, rfl, H2211⟩)
                  · intro η604 wd2218 Δ2219 hE2214 hR2215 hA2216 H2217
                    refine sp_op [(118, .int .i64 y522.Amount)] (ac (hE2214 1 (by decide)) an) ?_
                    refine r_pure (.bool (y522.Amount == 0)) rfl ?_
                    exact r_nil (n_lp ⟨_, rfl, undef, rfl, H2217⟩)
                  · intro η604 wd2224 Δ2225 hE2220 hR2221 hA2222 H2223
                    refine sp_op [(119, .bool (y522.Amount == 0))] (ac (hE2220 2 (by decide)) an) ?_
                    refine r_pure (.bool (y522.Amount == 0)) rfl ?_
                    exact r_nil (n_lp ⟨_, rfl, undef, rfl, H2223⟩)
                  · intro η604 wd2230 Δ2231 hE2226 hR2227 hA2228 H2229
                    refine sp_op [(19, .pointer (some ⟨b596, 0, none⟩)), (120, .bool (y522.Amount == 0))] (ac rfl (ac (hE2226 3 (by decide)) an)) ?_
                    refine r_fa FA38_2 ⟨b596, 2, none⟩ rfl rfl ?_ (wn_t rfl rfl (by decide) rfl hb605)
                    exact r_nil (n_lp ⟨_, rfl, undef, rfl, H2229⟩)
                  · intro η604 wd2236 Δ2237 hE2232 hR2233 hA2234 H2235
                    have H2235 : Hp w0 ((Δ2237 ++ (Bx b596 38 [.string y522.Seller, .string y522.Buyer, .int .i64 y522.Amount] :: Row K38 (.slice A40 xs43.length c42) xs43 :: Bx b13 53 [.slice A40 xs43.length c42] :: Row K38 (.slice A44 xs47.length c46) xs47 :: Bx b23 53 [.slice A44 xs47.length c46] :: MpP ME25 b27 mm48 :: Row K38 (.slice A474 y468.length c476) y468 :: Γ))) wd2236 := H2235
                    refine sp_op [(120, .bool (y522.Amount == 0)), (121, .pointer (some ⟨b596, 2, none⟩))] (ac (hE2232 3 (by decide)) (ac (hE2232 4 (by decide)) an)) ?_
                    refine r_ld1 (.int .i64 y522.Amount) LD3 rfl (((H2235).tl.g0).cell _ rfl) ?_ (wn_t rfl rfl (by decide) rfl hb605)
                    exact r_nil (n_lp ⟨_, rfl, undef, rfl, H2235⟩)
                  · intro η604 wd2242 Δ2243 hE2238 hR2239 hA2240 H2241
                    refine sp_op [(5, .map (some b27)), (120, .bool (y522.Amount == 0))] (ac rfl (ac (hE2238 3 (by decide)) an)) ?_
                    refine r_pure (.map (some b27)) rfl ?_ (wn_t rfl rfl (by decide) rfl hb605)
                    exact r_nil (n_lp ⟨_, rfl, undef, rfl, H2241⟩)
                  · intro η604 wd2248 Δ2249 hE2244 hR2245 hA2246 H2247
                    refine sp_op [(19, .pointer (some ⟨b596, 0, none⟩)), (120, .bool (y522.Amount == 0))] (ac rfl (ac (hE2244 3 (by decide)) an)) ?_
                    refine r_fa FA38_0 ⟨b596, 0, none⟩ rfl rfl ?_ (wn_t rfl rfl (by decide) rfl hb605)
                    exact r_nil (n_lp ⟨_, rfl, undef, rfl, H2247⟩)
                  · intro η604 wd2254 Δ2255 hE2250 hR2251 hA2252 H2253
                    have H2253 : Hp w0 ((Δ2255 ++ (Bx b596 38 [.string y522.Seller, .string y522.Buyer, .int .i64 y522.Amount] :: Row K38 (.slice A40 xs43.length c42) xs43 :: Bx b13 53 [.slice A40 xs43.length c42] :: Row K38 (.slice A44 xs47.length c46) xs47 :: Bx b23 53 [.slice A44 xs47.length c46] :: MpP ME25 b27 mm48 :: Row K38 (.slice A474 y468.length c476) y468 :: Γ))) wd2254 := H2253
                    refine sp_op [(120, .bool (y522.Amount == 0)), (124, .pointer (some ⟨b596, 0, none⟩))] (ac (hE2250 3 (by decide)) (ac (hE2250 7 (by decide)) an)) ?_
                    refine r_ld1 (.string y522.Seller) LD9 rfl (((H2253).tl.g0).cell _ rfl) ?_ (wn_t rfl rfl (by decide) rfl hb605)
                    exact r_nil (n_lp ⟨_, rfl, undef, rfl, H2253⟩)
                  · intro η604 wd2260 Δ2261 hE2256 hR2257 hA2258 H2259
                    refine sp_op [(19, .pointer (some ⟨b596, 0, none⟩)), (120, .bool (y522.Amount == 0))] (ac rfl (ac (hE2256 3 (by decide)) an)) ?_
                    refine r_fa FA38_1 ⟨b596, 1, none⟩ rfl rfl ?_ (wn_t rfl rfl (by decide) rfl hb605)
                    exact r_nil (n_lp ⟨_, rfl, undef, rfl, H2259⟩)
                  · intro η604 wd2266 Δ2267 hE2262 hR2263 hA2264 H2265
                    have H2265 : Hp w0 ((Δ2267 ++ (Bx b596 38 [.string y522.Seller, .string y522.Buyer, .int .i64 y522.Amount] :: Row K38 (.slice A40 xs43.length c42) xs43 :: Bx b13 53 [.slice A40 xs43.length c42] :: Row K38 (.slice A44 xs47.length c46) xs47 :: Bx b23 53 [.slice A44 xs47.length c46] :: MpP ME25 b27 mm48 :: Row K38 (.slice A474 y468.length c476) y468 :: Γ))) wd2266 := H2265
                    refine sp_op [(120, .bool (y522.Amount == 0)), (126, .pointer (some ⟨b596, 1, none⟩))] (ac (hE2262 3 (by decide)) (ac (hE2262 9 (by decide)) an)) ?_
                    refine r_ld1 (.string y522.Buyer) LD9 rfl (((H2265).tl.g0).cell _ rfl) ?_ (wn_t rfl rfl (by decide) rfl hb605)
                    exact r_nil (n_lp ⟨_, rfl, undef, rfl, H2265⟩)
                  · intro η604 wd2272 Δ2273 hE2268 hR2269 hA2270 H2271
                    refine sp_op [(120, .bool (y522.Amount == 0)), (125, .string y522.Seller), (127, .string y522.Buyer)] (ac (hE2268 3 (by decide)) (ac (hE2268 8 (by decide)) (ac (hE2268 10 (by decide)) an))) ?_
                    refine r_buildA [.string y522.Seller, .string y522.Buyer] AR33 rfl ?_ (wn_t rfl rfl (by decide) rfl hb605)
                    exact r_nil (n_lp ⟨_, rfl, undef, rfl, H2271⟩)
                  · intro η604 wd2278 Δ2279 hE2274 hR2275 hA2276 H2277
                    have H2277 : Hp w0 ((Δ2279 ++ (Bx b596 38 [.string y522.Seller, .string y522.Buyer, .int .i64 y522.Amount] :: Row K38 (.slice A40 xs43.length c42) xs43 :: Bx b13 53 [.slice A40 xs43.length c42] :: Row K38 (.slice A44 xs47.length c46) xs47 :: Bx b23 53 [.slice A44 xs47.length c46] :: MpP ME25 b27 mm48 :: Row K38 (.slice A474 y468.length c476) y468 :: Γ))) wd2278 := H2277
                    refine sp_op [(120, .bool (y522.Amount == 0)), (123, .map (some b27)), (128, .agg #[.string y522.Seller, .string y522.Buyer])] (ac (hE2274 3 (by decide)) (ac (hE2274 6 (by decide)) (ac (hE2274 11 (by decide)) an))) ?_
                    refine r_lookP (E := ME25) (y522.Seller, y522.Buyer) (.int .i64 (pgetD (0 : Int) mm48 (y522.Seller, y522.Buyer))) rfl rfl rfl (MpP.lk MT25 (H2277).tl.g5) ?_ (wn_t rfl rfl (by decide) rfl hb605)
                    exact r_nil (n_lp ⟨_, rfl, undef, rfl, H2277⟩)
                  · intro η604 wd2284 Δ2285 hE2280 hR2281 hA2282 H2283
                    refine sp_op [(120, .bool (y522.Amount == 0)), (122, .int .i64 y522.Amount), (129, .int .i64 (pgetD (0 : Int) mm48 (y522.Seller, y522.Buyer)))] (ac (hE2280 3 (by decide)) (ac (hE2280 5 (by decide)) (ac (hE2280 12 (by decide)) an))) ?_
                    refine r_pure (.bool (y522.Amount != pgetD (0 : Int) mm48 (y522.Seller, y522.Buyer))) rfl ?_ (wn_t rfl rfl (by decide) rfl hb605)
                    exact r_nil (n_lp ⟨_, rfl, undef, rfl, H2283⟩)
                  · intro η604 wd2290 Δ2291 hE2286 hR2287 hA2288 H2289
                    refine sp_op [(120, .bool (y522.Amount == 0)), (130, .bool (y522.Amount != pgetD (0 : Int) mm48 (y522.Seller, y522.Buyer)))] (ac (hE2286 3 (by decide)) (ac (hE2286 13 (by decide)) an)) ?_
                    refine r_pick_f (.bool (y522.Amount != pgetD (0 : Int) mm48 (y522.Seller, y522.Buyer))) hb605 rfl rfl ?_
                    exact r_nil (n_lp ⟨_, rfl, undef, rfl, H2289⟩)
                  · intro η604 wd2296 Δ2297 hE2292 hR2293 hA2294 H2295
                    refine sp_op [(131, .bool (y522.Amount != pgetD (0 : Int) mm48 (y522.Seller, y522.Buyer)))] (ac (hE2292 14 (by decide)) an) ?_
                    refine r_pure (.bool (y522.Amount != pgetD (0 : Int) mm48 (y522.Seller, y522.Buyer))) rfl ?_
                    exact r_nil (n_lp ⟨_, rfl, undef, rfl, H2295⟩)
                  · intro η604 wd2302 Δ2303 hE2298 hR2299 hA2300 H2301
                    refine sp_op [(18, .int .i64 i517), (132, .bool (y522.Amount != pgetD (0 : Int) mm48 (y522.Seller, y522.Buyer)))] (ac rfl (ac (hE2298 15 (by decide)) an)) ?_
                    refine r_pure (.int .i64 i517) rfl ?_ (wn_t rfl rfl (by decide) rfl hb922)
                    exact r_nil (n_lp ⟨_, rfl, undef, rfl, H2301⟩)
                  · intro η604 wd2308 Δ2309 hE2304 hR2305 hA2306 H2307
                    refine sp_op [(132, .bool (y522.Amount != pgetD (0 : Int) mm48 (y522.Seller, y522.Buyer))), (133, .int .i64 i517)] (ac (hE2304 15 (by decide)) (ac (hE2304 16 (by decide)) an)) ?_
                    refine r_pure (.bool (decide (i517 > 0))) rfl ?_ (wn_t rfl rfl (by decide) rfl hb922)
                    exact r_nil (n_lp ⟨_, rfl, undef, rfl, H2307⟩)
                  · intro η604 wd2314 Δ2315 hE2310 hR2311 hA2312 H2313
                    refine sp_op [(132, .bool (y522.Amount != pgetD (0 : Int) mm48 (y522.Seller, y522.Buyer))), (134, .bool (decide (i517 > 0)))] (ac (hE2310 15 (by decide)) (ac (hE2310 17 (by decide)) an)) ?_
                    refine r_pure (.bool (decide (i517 > 0))) rfl ?_ (wn_t rfl rfl (by decide) rfl hb922)
                    exact r_nil (n_lp ⟨_, rfl, undef, rfl, H2313⟩)
                  · intro η604 wd2320 Δ2321 hE2316 hR2317 hA2318 H2319
                    refine sp_op [(135, .bool (decide (i517 > 0)))] (ac (hE2316 18 (by decide)) an) ?_
                    refine r_not (wn_f rfl rfl (by decide) rfl hb1239) ?_
                    exact r_nil (n_lp ⟨_, rfl, undef, rfl, H2319⟩)
                  · intro η604 wd2326 Δ2327 hE2322 hR2323 hA2324 H2325
                    refine sp_op [(135, .bool (decide (i517 > 0)))] (ac (hE2322 18 (by decide)) an) ?_
                    refine r_not (wn_f rfl rfl (by decide) rfl hb1239) ?_
                    exact r_nil (n_lp ⟨_, rfl, undef, rfl, H2325⟩)
                  · intro η604 wd2332 Δ2333 hE2328 hR2329 hA2330 H2331
                    refine sp_op [(135, .bool (decide (i517 > 0)))] (ac (hE2328 18 (by decide)) an) ?_
                    refine r_not (wn_f rfl rfl (by decide) rfl hb1239) ?_
                    exact r_nil (n_lp ⟨_, rfl, undef, rfl, H2331⟩)
                  · intro η604 wd2338 Δ2339 hE2334 hR2335 hA2336 H2337
                    refine sp_op [(135, .bool (decide (i517 > 0)))] (ac (hE2334 18 (by decide)) an) ?_
                    refine r_not (wn_f rfl rfl (by decide) rfl hb1239) ?_
                    exact r_nil (n_lp ⟨_, rfl, undef, rfl, H2337⟩)
                  · intro η604 wd2344 Δ2345 hE2340 hR2341 hA2342 H2343
                    refine sp_op [(135, .bool (decide (i517 > 0)))] (ac (hE2340 18 (by decide)) an) ?_
                    refine r_not (wn_f rfl rfl (by decide) rfl hb1239) ?_
                    exact r_nil (n_lp ⟨_, rfl, undef, rfl, H2343⟩)
                  · intro η604 wd2350 Δ2351 hE2346 hR2347 hA2348 H2349
                    refine sp_op [(135, .bool (decide (i517 > 0)))] (ac (hE2346 18 (by decide)) an) ?_
                    refine r_not (wn_f rfl rfl (by decide) rfl hb1239) ?_
                    exact r_nil (n_lp ⟨_, rfl, undef, rfl, H2349⟩)
                  · intro η604 wd2356 Δ2357 hE2352 hR2353 hA2354 H2355
                    refine sp_op [(135, .bool (decide (i517 > 0)))] (ac (hE2352 18 (by decide)) an) ?_
                    refine r_not (wn_f rfl rfl (by decide) rfl hb1239) ?_
                    exact r_nil (n_lp ⟨_, rfl, undef, rfl, H2355⟩)
                  · intro η604 wd2362 Δ2363 hE2358 hR2359 hA2360 H2361
                    refine sp_op [(135, .bool (decide (i517 > 0)))] (ac (hE2358 18 (by decide)) an) ?_
                    refine r_not (wn_f rfl rfl (by decide) rfl hb1239) ?_
                    exact r_nil (n_lp ⟨_, rfl, undef, rfl, H2361⟩)
                  · intro η604 wd2368 Δ2369 hE2364 hR2365 hA2366 H2367
                    refine sp_op [(135, .bool (decide (i517 > 0)))] (ac (hE2364 18 (by decide)) an) ?_
                    refine r_not (wn_f rfl rfl (by decide) rfl hb1239) ?_
                    exact r_nil (n_lp ⟨_, rfl, undef, rfl, H2367⟩)
                  · intro η604 wd2374 Δ2375 hE2370 hR2371 hA2372 H2373
                    refine sp_op [(135, .bool (decide (i517 > 0)))] (ac (hE2370 18 (by decide)) an) ?_
                    refine r_not (wn_f rfl rfl (by decide) rfl hb1239) ?_
                    exact r_nil (n_lp ⟨_, rfl, undef, rfl, H2373⟩)
                  · intro η604 wd2380 Δ2381 hE2376 hR2377 hA2378 H2379
                    refine sp_op [(145, undef)] (ac (hE2376 28 (by decide)) an) ?_
                    refine r_not (wn_u rfl rfl (by decide) rfl rfl) ?_
                    exact r_nil (n_lp ⟨_, rfl, undef, rfl, H2379⟩)
                  · intro η604 wd2386 Δ2387 hE2382 hR2383 hA2384 H2385
                    refine sp_op [(145, undef)] (ac (hE2382 28 (by decide)) an) ?_
                    refine r_not (wn_u rfl rfl (by decide) rfl rfl) ?_
                    exact r_nil (n_lp ⟨_, rfl, undef, rfl, H2385⟩)
                  · intro η604 wd2392 Δ2393 hE2388 hR2389 hA2390 H2391
                    refine sp_op [(145, undef)] (ac (hE2388 28 (by decide)) an) ?_
                    refine r_not (wn_u rfl rfl (by decide) rfl rfl) ?_
                    exact r_nil (n_lp ⟨_, rfl, undef, rfl, H2391⟩)
                  · intro η604 wd2398 Δ2399 hE2394 hR2395 hA2396 H2397
                    refine sp_op [(145, undef)] (ac (hE2394 28 (by decide)) an) ?_
                    refine r_not (wn_u rfl rfl (by decide) rfl rfl) ?_
                    exact r_nil (n_lp ⟨_, rfl, undef, rfl, H2397⟩)
                  · intro η604 wd2404 Δ2405 hE2400 hR2401 hA2402 H2403
                    refine sp_op [(145, undef)] (ac (hE2400 28 (by decide)) an) ?_
                    refine r_not (wn_u rfl rfl (by decide) rfl rfl) ?_
                    exact r_nil (n_lp ⟨_, rfl, undef, rfl, H2403⟩)
                  · intro η604 wd2410 Δ2411 hE2406 hR2407 hA2408 H2409
                    refine sp_op [(145, undef)] (ac (hE2406 28 (by decide)) an) ?_
                    refine r_not (wn_u rfl rfl (by decide) rfl rfl) ?_
                    exact r_nil (n_lp ⟨_, rfl, undef, rfl, H2409⟩)
                  · intro η604 wd2416 Δ2417 hE2412 hR2413 hA2414 H2415
                    refine sp_op [(145, undef)] (ac (hE2412 28 (by decide)) an) ?_
                    refine r_not (wn_u rfl rfl (by decide) rfl rfl) ?_
                    exact r_nil (n_lp ⟨_, rfl, undef, rfl, H2415⟩)
                  · intro η604 wd2422 Δ2423 hE2418 hR2419 hA2420 H2421
                    refine sp_op [(145, undef)] (ac (hE2418 28 (by decide)) an) ?_
                    refine r_not (wn_u rfl rfl (by decide) rfl rfl) ?_
                    exact r_nil (n_lp ⟨_, rfl, undef, rfl, H2421⟩)
                  · intro η604 wd2428 Δ2429 hE2424 hR2425 hA2426 H2427
                    refine sp_op [(145, undef)] (ac (hE2424 28 (by decide)) an) ?_
                    refine r_not (wn_u rfl rfl (by decide) rfl rfl) ?_
                    exact r_nil (n_lp ⟨_, rfl, undef, rfl, H2427⟩)
                  · intro η604 wd2434 Δ2435 hE2430 hR2431 hA2432 H2433
                    refine sp_op [(145, undef)] (ac (hE2430 28 (by decide)) an) ?_
                    refine r_not (wn_u rfl rfl (by decide) rfl rfl) ?_
                    exact r_nil (n_lp ⟨_, rfl, undef, rfl, H2433⟩)
                  · intro η604 wd2440 Δ2441 hE2436 hR2437 hA2438 H2439
                    refine sp_op [(155, undef)] (ac (hE2436 38 (by decide)) an) ?_
                    refine r_not (wn_u rfl rfl (by decide) rfl rfl) ?_
                    exact r_nil (n_lp ⟨_, rfl, undef, rfl, H2439⟩)
                  · intro η604 wd2446 Δ2447 hE2442 hR2443 hA2444 H2445
                    refine sp_op [(155, undef)] (ac (hE2442 38 (by decide)) an) ?_
                    refine r_not (wn_u rfl rfl (by decide) rfl rfl) ?_
                    exact r_nil (n_lp ⟨_, rfl, undef, rfl, H2445⟩)
                  · intro η604 wd2452 Δ2453 hE2448 hR2449 hA2450 H2451
                    refine sp_op [(155, undef)] (ac (hE2448 38 (by decide)) an) ?_
                    refine r_not (wn_u rfl rfl (by decide) rfl rfl) ?_
                    exact r_nil (n_lp ⟨_, rfl, undef, rfl, H2451⟩)
                  · intro η604 wd2458 Δ2459 hE2454 hR2455 hA2456 H2457
                    refine sp_op [(155, undef)] (ac (hE2454 38 (by decide)) an) ?_
                    refine r_not (wn_u rfl rfl (by decide) rfl rfl) ?_
                    exact r_nil (n_lp ⟨_, rfl, undef, rfl, H2457⟩)
                  · intro η604 wd2464 Δ2465 hE2460 hR2461 hA2462 H2463
                    refine sp_op [(155, undef)] (ac (hE2460 38 (by decide)) an) ?_
                    refine r_not (wn_u rfl rfl (by decide) rfl rfl) ?_
                    exact r_nil (n_lp ⟨_, rfl, undef, rfl, H2463⟩)
                  · intro η604 wd2470 Δ2471 hE2466 hR2467 hA2468 H2469
                    refine sp_op [(155, undef)] (ac (hE2466 38 (by decide)) an) ?_
                    refine r_not (wn_u rfl rfl (by decide) rfl rfl) ?_
                    exact r_nil (n_lp ⟨_, rfl, undef, rfl, H2469⟩)
                  · intro η604 wd2476 Δ2477 hE2472 hR2473 hA2474 H2475
                    refine sp_op [(155, undef)] (ac (hE2472 38 (by decide)) an) ?_
                    refine r_not (wn_u rfl rfl (by decide) rfl rfl) ?_
                    exact r_nil (n_lp ⟨_, rfl, undef, rfl, H2475⟩)
                  · intro η604 wd2482 Δ2483 hE2478 hR2479 hA2480 H2481
                    refine sp_op [(155, undef)] (ac (hE2478 38 (by decide)) an) ?_
                    refine r_not (wn_u rfl rfl (by decide) rfl rfl) ?_
                    exact r_nil (n_lp ⟨_, rfl, undef, rfl, H2481⟩)
                  · intro η604 wd2488 Δ2489 hE2484 hR2485 hA2486 H2487
                    refine sp_op [(155, undef)] (ac (hE2484 38 (by decide)) an) ?_
                    refine r_not (wn_u rfl rfl (by decide) rfl rfl) ?_
                    exact r_nil (n_lp ⟨_, rfl, undef, rfl, H2487⟩)
                  · intro η604 wd2494 Δ2495 hE2490 hR2491 hA2492 H2493
                    refine sp_op [(145, undef)] (ac (hE2490 28 (by decide)) an) ?_
                    refine r_not (wn_u rfl rfl (by decide) rfl rfl) ?_
                    exact r_nil (n_lp ⟨_, rfl, undef, rfl, H2493⟩)
                  · intro η604 wd2500 Δ2501 hE2496 hR2497 hA2498 H2499
                    refine sp_op [(135, .bool (decide (i517 > 0)))] (ac (hE2496 18 (by decide)) an) ?_
                    refine r_not (wn_f rfl rfl (by decide) rfl hb1239) ?_
                    exact r_nil (n_lp ⟨_, rfl, undef, rfl, H2499⟩)
                  · intro η604 wd2506 Δ2507 hE2502 hR2503 hA2504 H2505
                    refine sp_op [(132, .bool (y522.Amount != pgetD (0 : Int) mm48 (y522.Seller, y522.Buyer))), (135, .bool (decide (i517 > 0))), (166, undef)] (ac (hE2502 15 (by decide)) (ac (hE2502 18 (by decide)) (ac (hE2502 49 (by decide)) an))) ?_
                    refine r_pick_f (.bool false) hb1239 rfl rfl ?_ (wn_t rfl rfl (by decide) rfl hb922)
                    exact r_nil (n_lp ⟨_, rfl, undef, rfl, H2505⟩)
                  · intro η604 wd2512 Δ2513 hE2508 hR2509 hA2510 H2511
                    refine sp_op [(132, .bool (y522.Amount != pgetD (0 : Int) mm48 (y522.Seller, y522.Buyer))), (167, .bool false)] (ac (hE2508 15 (by decide)) (ac (hE2508 50 (by decide)) an)) ?_
                    refine r_pick_f (.bool false) hb922 rfl rfl ?_
                    exact r_nil (n_lp ⟨_, rfl, undef, rfl, H2511⟩)
                  · intro η604 wd2515 hV2516 H2514
                    have H2517 : Hp w0 (Bx b596 38 [.string y522.Seller, .string y522.Buyer, .int .i64 y522.Amount] :: Row K38 (.slice A40 xs43.length c42) xs43 :: Bx b13 53 [.slice A40 xs43.length c42] :: Row K38 (.slice A44 xs47.length c46) xs47 :: Bx b23 53 [.slice A44 xs47.length c46] :: MpP ME25 b27 mm48 :: Row K38 (.slice A474 y468.length c476) y468 :: Γ) wd2515 := H2514
                    refine n_frame ((3, .pointer (some ⟨b13, 0, none⟩)) :: (4, .pointer (some ⟨b23, 0, none⟩)) :: (5, .map (some b27)) :: (14, .slice A474 y468.length c476) :: (15, .int .i64 v499) :: (110, .slice A474 y468.length c476) :: (111, .int .i64 (y468.length : Int)) :: (112, .int .i64 i517) :: (121, .pointer (some ⟨b596, 2, none⟩)) :: (122, .int .i64 y522.Amount) :: (123, .map (some b27)) :: (124, .pointer (some ⟨b596, 0, none⟩)) :: (125, .string y522.Seller) :: (126, .pointer (some ⟨b596, 1, none⟩)) :: (127, .string y522.Buyer) :: (128, .agg #[.string y522.Seller, .string y522.Buyer]) :: (129, .int .i64 (pgetD (0 : Int) mm48 (y522.Seller, y522.Buyer))) :: (130, .bool (y522.Amount != pgetD (0 : Int) mm48 (y522.Seller, y522.Buyer))) :: (133, .int .i64 i517) :: (134, .bool (decide (i517 > 0))) :: (135, .bool (decide (i517 > 0))) :: (167, .bool false) :: (168, .bool false) :: []) (ac rfl (ac rfl (ac rfl (ac rfl (ac rfl (ac rfl (ac rfl (ac rfl (ac (hV2516 4 rfl) (ac (hV2516 5 rfl) (ac (hV2516 6 rfl) (ac (hV2516 7 rfl) (ac (hV2516 8 rfl) (ac (hV2516 9 rfl) (ac (hV2516 10 rfl) (ac (hV2516 11 rfl) (ac (hV2516 12 rfl) (ac (hV2516 13 rfl) (ac (hV2516 16 rfl) (ac (hV2516 17 rfl) (ac (hV2516 18 rfl) (ac (hV2516 50 rfl) (ac (hV2516 51 rfl) an))))))))))))))))))))))) ?_
                    refine n_cut ⟨false, upk (ac rfl (ac rfl (ac rfl (ac rfl (ac rfl (ac rfl (ac rfl (ac rfl (ac rfl an))))))))), H2517.d.u5.u5.u5.u5.u5.u5, hm⟩
          · rintro ρ w ⟨q601, ⟨base, rfl⟩, H602, hm⟩
            unfold scutagelaw24_CrossOrder.j2 at hm
            rcases ite_some hm with ⟨hb603, hm⟩ | ⟨hb603, hm⟩
            · refine st_condt hb603 rfl ?_
              refine st_seq ?_
              refine st_region ?_
              refine r_pure (.bool false) rfl ?_
              refine r_seq ?_
              have hq_ := Option.some.inj hm
              subst hq_
              have hq_ := Option.some.inj (show some (false : Bool) = some r0_ from hm514)
              subst hq_
              refine st_ret1 rfl rfl (Nat.le_of_ble_eq_true rfl) rfl ?_
              exact ⟨rfl, H602.d.d.d.d.d.d⟩
            · refine st_condf hb603 rfl ?_
              refine st_skip ?_
              refine n_bl ?_
              refine n_sq ?_
              refine st_region ?_
              refine r_pure (.int .i64 (w64 (i517 + 1))) rfl ?_
              refine r_pure (.int .i64 (w64 (i517 + 1))) rfl ?_
              refine r_nil ?_
              refine n_round (IH525 _ _ rfl _ _ _ ⟨i517 + 1, dn518 ++ [y522], rfl, range_more hxs519, range_len hi520, upk (ac rfl (ac rfl (ac rfl (ac rfl (ac rfl (ac rfl (ac rfl (ac hnx531 an)))))))), H602.u5.u5.u5.u5.u5.u5⟩ hm)
      · refine st_seq ?_
        refine st_region ?_
        refine r_next1 MJ25 (by simp) rfl H500.u4 ?_
        intro y504 ys505 hp506 wd2519 H2518
        rw [scutagelaw24_CrossOrder.l2.pm hp506] at hm
        rw [scutagelaw24_CrossOrder.l2] at hm
        refine r_pure (.bool true) rfl ?_
        refine r_seq ?_
        refine st_seq ?_
        refine st_condt rfl rfl ?_
        refine st_skip ?_
        refine n_sq ?_
        refine st_block ?_
        refine st_seq ?_
        refine st_region ?_
        refine r_entry rfl H2518.g0 ?_
        refine r_pure (.int .i64 y504.2) rfl ?_
        refine r_pure (.int .i64 y504.2) rfl ?_
        refine r_seq ?_
        refine st_seq ?_
        refine st_region ?_
        refine r_pure (.int .i64 y504.2) rfl ?_
        refine r_pure (.bool (y504.2 != 0)) rfl ?_
        refine r_seq ?_
        rcases ite_some hm with ⟨hb2520, hm⟩ | ⟨hb2520, hm⟩
        · refine st_condt hb2520 rfl ?_
          refine st_region ?_
          refine r_pure (.int .i64 v499) rfl ?_
          refine r_pure (.int .i64 (w64 (v499 + 1))) rfl ?_
          refine r_pure (.int .i64 (w64 (v499 + 1))) rfl ?_
          refine r_nil ?_
          refine n_bl ?_
          refine n_round (IH511 ys505 (by have h_ := hp506.length_eq; simp only [List.length_cons] at h_ ⊢; omega) _ _ _ ⟨w64 (v499 + 1), (some y504), rfl, upk (ac rfl (ac rfl (ac rfl (ac rfl (ac rfl (ac rfl an)))))), H2518.u5.u1.u5.u5.u5.u5⟩ hm)
        · refine st_condf hb2520 rfl ?_
          refine st_skip ?_
          refine n_bl ?_
          refine n_round (IH511 ys505 (by have h_ := hp506.length_eq; simp only [List.length_cons] at h_ ⊢; omega) _ _ _ ⟨v499, (some y504), rfl, upk (ac rfl (ac rfl (ac rfl (ac rfl (ac rfl (ac rfl an)))))), H2518.u5.u1.u5.u5.u5.u5⟩ hm)


end Go.Proofs.Ytfhekejaobmacaa
