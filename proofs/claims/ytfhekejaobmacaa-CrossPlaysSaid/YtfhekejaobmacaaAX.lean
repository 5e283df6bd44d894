/- The Go functions come to their models: printed by gen.py. -/
import Derived.Test.YtfhekejaobmacaaAX0
set_option linter.unusedVariables false
set_option linter.unusedSimpArgs false
set_option maxRecDepth 100000
namespace Go.Proofs.Ytfhekejaobmacaa
open Go Go.RowKit
attribute [local irreducible] W R N L Hp Row SlR Bx

set_option maxHeartbeats 2000000 in
theorem scutagelaw24_CrossPlays_ok {w0 w : World} {Γ : List (World → Prop)} (l_ : List scutagelaw24_Act) (A1 : Option Addr) (n6 c2 : Nat) (hn5 : n6 = l_.length) (hc3 : l_.length ≤ c2) (hv4 : ∀ u, Hp w0 Γ u → SlR K28 A1 l_ u) (rates : List Int) (A7 : Option Addr) (n12 c8 : Nat) (hn11 : n12 = rates.length) (hc9 : rates.length ≤ c8) (hv10 : ∀ u, Hp w0 Γ u → SlR K3 A7 rates u) (more : Int) (r0_ : Bool) (H : Hp w0 (Γ) w) (hm : scutagelaw24_CrossPlays l_ rates more = some r0_) : Calls Try.prog 4 #[.slice A1 n6 c2, .slice A7 n12 c8, .int .i64 more] w (fun e w => e = .returned (.bool r0_) ∧ Hp w0 (Γ) w) := by
  subst hn5
  subst hn11
  unfold scutagelaw24_CrossPlays at hm
  refine st_enter Try.func4 rfl Try.ntmps4 (Nat.le_of_ble_eq_true rfl) ?_
  refine st_seq ?_
  refine st_region ?_
  refine r_pure (.bool false) rfl ?_
  refine r_seq ?_
  refine st_seq ?_
  refine st_region ?_
  obtain ⟨y13, hy14, hm⟩ := bind_some hm
  refine r_callf Try.call5 (cross_New_ok  y13 H hy14) ?_
  rintro e16 wd15 ⟨b19, A20, n21, c22, rfl, H18⟩
  obtain rfl := (H18.g1).leneq
  refine ⟨_, rfl, ?_⟩
  refine r_build [.slice none 0 0] FL45 rfl ?_
  refine r_box [.slice none 0 0] H18 rfl ?_
  intro b23 wd25 H24
  refine r_pure (.pointer (some ⟨b19, 0, none⟩)) rfl ?_
  refine r_pure (.pointer (some ⟨b23, 0, none⟩)) rfl ?_
  refine r_seq ?_
  refine st_seq ?_
  refine st_seq ?_
  refine st_region ?_
  refine r_pure (.pointer (some ⟨b19, 0, none⟩)) rfl ?_
  refine r_eqn Try.underlying23 rfl rfl ?_
  refine r_seq ?_
  refine st_condf rfl rfl ?_
  refine st_skip ?_
  refine n_sq ?_
  refine st_seq ?_
  refine st_region ?_
  refine r_buildSliceF (K := K9) [(⟨#[97]⟩ : ByteArray), (⟨#[98]⟩ : ByteArray), (⟨#[99]⟩ : ByteArray), (⟨#[100]⟩ : ByteArray), (⟨#[101]⟩ : ByteArray), (⟨#[]⟩ : ByteArray)] EL29 rfl rfl rfl (by decide) (by decide) ⟨rfl, rfl, ⟨rfl, rfl, ⟨rfl, rfl, ⟨rfl, rfl, ⟨rfl, rfl, ⟨rfl, rfl, trivial⟩⟩⟩⟩⟩⟩ H24 ?_
  intro b26 wd28 H27
  refine r_pure (.slice (some ⟨b26, 0, none⟩) 6 6) rfl ?_
  refine r_seq ?_
  refine st_seq ?_
  refine st_seq ?_
  refine st_region ?_
  refine r_pure (.int .i64 0) rfl ?_
  refine r_seq ?_
  refine st_block ?_
  have H43 := H27.add (A := Row K47 (.slice none 0 0) []) Row.nil
  obtain ⟨tl51, hl52, hm50⟩ := bind_some hm
  refine st_loopF (scutagelaw24_CrossPlays.l1 l_) (fun s ρ w => ∃ xs42 : List cross_Row, ∃ xs47 : List scutageref19_Pair, ∃ v48 : Int, ∃ A39 : Option Addr, ∃ n40 : Nat, ∃ c41 : Nat, ∃ A44 : Option Addr, ∃ n45 : Nat, ∃ c46 : Nat, (xs42, xs47, v48) = s ∧ (∃ base, ρ = updl base [(0, .slice A1 l_.length c2), (1, .slice A7 rates.length c8), (2, .int .i64 more), (7, .pointer (some ⟨b19, 0, none⟩)), (8, .pointer (some ⟨b23, 0, none⟩)), (9, .slice (some ⟨b26, 0, none⟩) 6 6), (10, .int .i64 v48)]) ∧ Hp w0 (Row K38 (.slice A39 n40 c41) xs42 :: Bx b19 53 [.slice A39 n40 c41] :: Row K47 (.slice A44 n45 c46) xs47 :: Bx b23 45 [.slice A44 n45 c46] :: Row K9 (.slice (some ⟨b26, 0, none⟩) 6 6) [(⟨#[97]⟩ : ByteArray), (⟨#[98]⟩ : ByteArray), (⟨#[99]⟩ : ByteArray), (⟨#[100]⟩ : ByteArray), (⟨#[101]⟩ : ByteArray), (⟨#[]⟩ : ByteArray)] :: Γ) w) hl52 (fun _ => rfl) ⟨y13.f_l, ([] : List scutageref19_Pair), 0, A20, y13.f_l.length, c22, none, 0, 0, rfl, upk (ac rfl (ac rfl (ac rfl (ac rfl (ac rfl (ac rfl (ac rfl an))))))), H43.u1.u2.u2.u3.u4⟩ ?_
  rintro fuel58 IH60 s ρ w ⟨xs42, xs47, v48, A39, n40, c41, A44, n45, c46, rfl, ⟨base, rfl⟩, H49⟩ hm
  obtain rfl := (H49.g0).leneq
  obtain rfl := (H49.g2).leneq
  rw [scutagelaw24_CrossPlays.l1] at hm
  refine st_seq ?_
  refine st_cut (fun ρ w => ∃ q61 : Bool, (∃ base, ρ = updl base [(0, .slice A1 l_.length c2), (1, .slice A7 rates.length c8), (2, .int .i64 more), (7, .pointer (some ⟨b19, 0, none⟩)), (8, .pointer (some ⟨b23, 0, none⟩)), (9, .slice (some ⟨b26, 0, none⟩) 6 6), (10, .int .i64 v48), (37, .bool q61)]) ∧ Hp w0 (Row K38 (.slice A39 xs42.length c41) xs42 :: Bx b19 53 [.slice A39 xs42.length c41] :: Row K47 (.slice A44 xs47.length c46) xs47 :: Bx b23 45 [.slice A44 xs47.length c46] :: Row K9 (.slice (some ⟨b26, 0, none⟩) 6 6) [(⟨#[97]⟩ : ByteArray), (⟨#[98]⟩ : ByteArray), (⟨#[99]⟩ : ByteArray), (⟨#[100]⟩ : ByteArray), (⟨#[101]⟩ : ByteArray), (⟨#[]⟩ : ByteArray)] :: Γ) w ∧ scutagelaw24_CrossPlays.j1 v48 l_ xs42 xs47 (scutagelaw24_CrossPlays.l1 l_ fuel58) q61 = some tl51) ?_ ?_
  · refine st_region ?_
    refine r_pure (.int .i64 v48) rfl ?_
    refine r_pure (.slice A1 l_.length c2) rfl ?_
    refine r_len Try.underlying22 rfl ?_
    refine r_pure (.bool (decide (v48 < (l_.length : Int)))) rfl ?_
    refine r_pure (.bool (decide (v48 < (l_.length : Int)))) rfl ?_
    rcases ite_some hm with ⟨hb423, hm⟩ | ⟨hb423, hm⟩
    · refine r_pure (.int .i64 v48) rfl ?_ (wn_t rfl rfl (by decide) rfl hb423)
      refine r_pure (.bool (decide (v48 < 24))) rfl ?_ (wn_t rfl rfl (by decide) rfl hb423)
      refine r_pick_t (.bool (decide (v48 < 24))) hb423 rfl rfl ?_
      refine r_nil ?_
      refine n_cut ⟨decide (v48 < 24), upk (ac rfl (ac rfl (ac rfl (ac rfl (ac rfl (ac rfl (ac rfl (ac rfl an)))))))), H49.u4.u4.u4.u4.u4, hm⟩
    · refine r_not (wn_f rfl rfl (by decide) rfl hb423) ?_
      refine r_not (wn_f rfl rfl (by decide) rfl hb423) ?_
      refine r_pick_f (.bool false) hb423 rfl rfl ?_
      refine r_nil ?_
      refine n_cut ⟨false, upk (ac rfl (ac rfl (ac rfl (ac rfl (ac rfl (ac rfl (ac rfl (ac rfl an)))))))), H49.u4.u4.u4.u4.u4, hm⟩
  · rintro ρ w ⟨q61, ⟨base, rfl⟩, H62, hm⟩
    unfold scutagelaw24_CrossPlays.j1 at hm
    rcases ite_some hm with ⟨hb63, hm⟩ | ⟨hb63, hm⟩
    · refine st_condt hb63 rfl ?_
      refine st_skip ?_
      refine n_sq ?_
      refine st_seq ?_
      refine st_block ?_
      refine st_seq ?_
      refine st_region ?_
      refine r_pure (.slice A1 l_.length c2) rfl ?_
      refine r_pure (.int .i64 v48) rfl ?_
      obtain ⟨⟨h064, h165⟩, hm⟩ := gd_some hm
      have hj66 := rd_get h064 h165
      have hA67 := (hv4 _ H62.d.d.d.d.d).adO hj66
      refine r_ix IX22 rfl rfl hA67 h064 h165 ?_
      refine r_ldA [.int .i64 ((rd l_ v48).Seller), .int .i64 ((rd l_ v48).Buyer), .int .i64 ((rd l_ v48).f_N)] LD28 rfl rfl ((hv4 _ H62.d.d.d.d.d).csA hA67 hj66) ?_
      refine r_alloc [.int .i64 0, .int .i64 0, .int .i64 0] Try.zeroValue28 H62 rfl ?_
      intro b68 wd70 H69
      refine r_stA [.int .i64 ((rd l_ v48).Seller), .int .i64 ((rd l_ v48).Buyer), .int .i64 ((rd l_ v48).f_N)] LD28 rfl rfl rfl rfl H69 (Nat.le_of_ble_eq_true rfl) rfl ?_
      intro wd72 H71
      refine r_seq ?_
      refine st_seq ?_
      obtain ⟨y74, hy75, hm⟩ := bind_some hm
      obtain ⟨⟨h080, h181⟩, hm⟩ := gd_some hm
      have hj82 := rd_get h080 h181
      obtain ⟨y83, hy84, hm⟩ := bind_some hm
      obtain ⟨⟨h089, h190⟩, hm⟩ := gd_some hm
      have hj91 := rd_get h089 h190
      refine Flow.run' [[], [], [1], [1, 2], [1, 2, 3], [0, 1, 2, 3, 4], [0, 1, 2, 3, 4, 5], [], [], [8], [1, 2, 3, 8, 9], [1, 2, 3, 8, 9, 10], [1, 2, 3, 7, 8, 9, 10, 11], [1, 2, 3, 7, 8, 9, 10, 11, 12], [0, 1, 2, 3, 4, 5, 6, 8, 9, 10], [0, 1, 2, 3, 4, 5, 6, 7, 8, 9, 10, 11, 12, 13, 14]] [(44, 0), (45, 1), (46, 2), (47, 3), (48, 4), (49, 5), (50, 6), (51, 7), (52, 8), (53, 9), (54, 10), (55, 11), (56, 12), (57, 13), (12, 14), (13, 15)] [(fun η73 v => v.1 = .slice (some ⟨b26, 0, none⟩) 6 6), (fun η73 v => v.1 = .pointer (some ⟨b68, 0, none⟩)), (fun η73 v => v.1 = .int .i64 ((rd l_ v48).Seller)), (fun η73 v => v.1 = .int .i64 y74), (fun η73 v => v.1 = .int .i64 (Int.tmod y74 6)), (fun η73 v => v.1 = .pointer (some ((⟨b26, 0, none⟩ : Addr).add (Int.toNat (Int.tmod y74 6) * 1)))), (fun η73 v => v.1 = .string (rd [(⟨#[97]⟩ : ByteArray), (⟨#[98]⟩ : ByteArray), (⟨#[99]⟩ : ByteArray), (⟨#[100]⟩ : ByteArray), (⟨#[101]⟩ : ByteArray), (⟨#[]⟩ : ByteArray)] (Int.tmod y74 6))), (fun η73 v => v.1 = .slice (some ⟨b26, 0, none⟩) 6 6), (fun η73 v => v.1 = .pointer (some ⟨b68, 1, none⟩)), (fun η73 v => v.1 = .int .i64 ((rd l_ v48).Buyer)), (fun η73 v => v.1 = .int .i64 y83), (fun η73 v => v.1 = .int .i64 (Int.tmod y83 6)), (fun η73 v => v.1 = .pointer (some ((⟨b26, 0, none⟩ : Addr).add (Int.toNat (Int.tmod y83 6) * 1)))), (fun η73 v => v.1 = .string (rd [(⟨#[97]⟩ : ByteArray), (⟨#[98]⟩ : ByteArray), (⟨#[99]⟩ : ByteArray), (⟨#[100]⟩ : ByteArray), (⟨#[101]⟩ : ByteArray), (⟨#[]⟩ : ByteArray)] (Int.tmod y83 6))), (fun η73 v => v.1 = .string (rd [(⟨#[97]⟩ : ByteArray), (⟨#[98]⟩ : ByteArray), (⟨#[99]⟩ : ByteArray), (⟨#[100]⟩ : ByteArray), (⟨#[101]⟩ : ByteArray), (⟨#[]⟩ : ByteArray)] (Int.tmod y74 6))), (fun η73 v => v.1 = .string (rd [(⟨#[97]⟩ : ByteArray), (⟨#[98]⟩ : ByteArray), (⟨#[99]⟩ : ByteArray), (⟨#[100]⟩ : ByteArray), (⟨#[101]⟩ : ByteArray), (⟨#[]⟩ : ByteArray)] (Int.tmod y83 6)))] [] rfl (by kernel_rfl) (by kernel_rfl) H71 ⟨?_, ?_, ?_, ?_, ?_, ?_, ?_, ?_, ?_, ?_, ?_, ?_, ?_, ?_, ?_, ?_, trivial⟩ ?_
      · intro η73 wd95 Δ96 hE92 hR93 H94
        have H94 : Hp w0 ((Δ96 ++ (Bx b68 28 [.int .i64 ((rd l_ v48).Seller), .int .i64 ((rd l_ v48).Buyer), .int .i64 ((rd l_ v48).f_N)] :: Row K38 (.slice A39 xs42.length c41) xs42 :: Bx b19 53 [.slice A39 xs42.length c41] :: Row K47 (.slice A44 xs47.length c46) xs47 :: Bx b23 45 [.slice A44 xs47.length c46] :: Row K9 (.slice (some ⟨b26, 0, none⟩) 6 6) [(⟨#[97]⟩ : ByteArray), (⟨#[98]⟩ : ByteArray), (⟨#[99]⟩ : ByteArray), (⟨#[100]⟩ : ByteArray), (⟨#[101]⟩ : ByteArray), (⟨#[]⟩ : ByteArray)] :: Γ))) wd95 := H94
        refine sp_op [(9, .slice (some ⟨b26, 0, none⟩) 6 6)] (ac rfl an) ?_
        refine r_pure (.slice (some ⟨b26, 0, none⟩) 6 6) rfl ?_
        exact r_nil (n_lp ⟨_, rfl, undef, rfl, H94⟩)
      · intro η73 wd100 Δ101 hE97 hR98 H99
        have H99 : Hp w0 ((Δ101 ++ (Bx b68 28 [.int .i64 ((rd l_ v48).Seller), .int .i64 ((rd l_ v48).Buyer), .int .i64 ((rd l_ v48).f_N)] :: Row K38 (.slice A39 xs42.length c41) xs42 :: Bx b19 53 [.slice A39 xs42.length c41] :: Row K47 (.slice A44 xs47.length c46) xs47 :: Bx b23 45 [.slice A44 xs47.length c46] :: Row K9 (.slice (some ⟨b26, 0, none⟩) 6 6) [(⟨#[97]⟩ : ByteArray), (⟨#[98]⟩ : ByteArray), (⟨#[99]⟩ : ByteArray), (⟨#[100]⟩ : ByteArray), (⟨#[101]⟩ : ByteArray), (⟨#[]⟩ : ByteArray)] :: Γ))) wd100 := H99
        refine sp_op [(11, .pointer (some ⟨b68, 0, none⟩))] (ac rfl an) ?_
        refine r_fa FA28_0 ⟨b68, 0, none⟩ rfl rfl ?_
        exact r_nil (n_lp ⟨_, rfl, undef, rfl, H99⟩)
      · intro η73 wd105 Δ106 hE102 hR103 H104
        have H104 : Hp w0 ((Δ106 ++ (Bx b68 28 [.int .i64 ((rd l_ v48).Seller), .int .i64 ((rd l_ v48).Buyer), .int .i64 ((rd l_ v48).f_N)] :: Row K38 (.slice A39 xs42.length c41) xs42 :: Bx b19 53 [.slice A39 xs42.length c41] :: Row K47 (.slice A44 xs47.length c46) xs47 :: Bx b23 45 [.slice A44 xs47.length c46] :: Row K9 (.slice (some ⟨b26, 0, none⟩) 6 6) [(⟨#[97]⟩ : ByteArray), (⟨#[98]⟩ : ByteArray), (⟨#[99]⟩ : ByteArray), (⟨#[100]⟩ : ByteArray), (⟨#[101]⟩ : ByteArray), (⟨#[]⟩ : ByteArray)] :: Γ))) wd105 := H104
        refine sp_op [(45, .pointer (some ⟨b68, 0, none⟩))] (ac (hE102 1 (by decide)) an) ?_
        refine r_ld1 (.int .i64 ((rd l_ v48).Seller)) LD3 rfl (((H104).tl.g0).cell _ rfl) ?_
        exact r_nil (n_lp ⟨_, rfl, undef, rfl, H104⟩)
      · intro η73 wd110 Δ111 hE107 hR108 H109
        have H109 : Hp w0 ((Δ111 ++ (Bx b68 28 [.int .i64 ((rd l_ v48).Seller), .int .i64 ((rd l_ v48).Buyer), .int .i64 ((rd l_ v48).f_N)] :: Row K38 (.slice A39 xs42.length c41) xs42 :: Bx b19 53 [.slice A39 xs42.length c41] :: Row K47 (.slice A44 xs47.length c46) xs47 :: Bx b23 45 [.slice A44 xs47.length c46] :: Row K9 (.slice (some ⟨b26, 0, none⟩) 6 6) [(⟨#[97]⟩ : ByteArray), (⟨#[98]⟩ : ByteArray), (⟨#[99]⟩ : ByteArray), (⟨#[100]⟩ : ByteArray), (⟨#[101]⟩ : ByteArray), (⟨#[]⟩ : ByteArray)] :: Γ))) wd110 := H109
        refine sp_op [(46, .int .i64 ((rd l_ v48).Seller))] (ac (hE107 2 (by decide)) an) ?_
        refine r_callf Try.call6 (scutagekeep_Within_ok ((rd l_ v48).Seller) 31 y74 H109 hy75) ?_
        rintro e115 wd114 ⟨rfl, H117⟩
        refine ⟨_, rfl, ?_⟩
        exact r_nil (n_lp ⟨_, rfl, undef, rfl, H117⟩)
      · intro η73 wd121 Δ122 hE118 hR119 H120
        have H120 : Hp w0 ((Δ122 ++ (Bx b68 28 [.int .i64 ((rd l_ v48).Seller), .int .i64 ((rd l_ v48).Buyer), .int .i64 ((rd l_ v48).f_N)] :: Row K38 (.slice A39 xs42.length c41) xs42 :: Bx b19 53 [.slice A39 xs42.length c41] :: Row K47 (.slice A44 xs47.length c46) xs47 :: Bx b23 45 [.slice A44 xs47.length c46] :: Row K9 (.slice (some ⟨b26, 0, none⟩) 6 6) [(⟨#[97]⟩ : ByteArray), (⟨#[98]⟩ : ByteArray), (⟨#[99]⟩ : ByteArray), (⟨#[100]⟩ : ByteArray), (⟨#[101]⟩ : ByteArray), (⟨#[]⟩ : ByteArray)] :: Γ))) wd121 := H120
        refine sp_op [(47, .int .i64 y74)] (ac (hE118 3 (by decide)) an) ?_
        refine r_rem (by decide) rfl rfl ?_
        exact r_nil (n_lp ⟨_, rfl, undef, rfl, H120⟩)
      · intro η73 wd126 Δ127 hE123 hR124 H125
        have H125 : Hp w0 ((Δ127 ++ (Bx b68 28 [.int .i64 ((rd l_ v48).Seller), .int .i64 ((rd l_ v48).Buyer), .int .i64 ((rd l_ v48).f_N)] :: Row K38 (.slice A39 xs42.length c41) xs42 :: Bx b19 53 [.slice A39 xs42.length c41] :: Row K47 (.slice A44 xs47.length c46) xs47 :: Bx b23 45 [.slice A44 xs47.length c46] :: Row K9 (.slice (some ⟨b26, 0, none⟩) 6 6) [(⟨#[97]⟩ : ByteArray), (⟨#[98]⟩ : ByteArray), (⟨#[99]⟩ : ByteArray), (⟨#[100]⟩ : ByteArray), (⟨#[101]⟩ : ByteArray), (⟨#[]⟩ : ByteArray)] :: Γ))) wd126 := H125
        refine sp_op [(44, .slice (some ⟨b26, 0, none⟩) 6 6), (48, .int .i64 (Int.tmod y74 6))] (ac (hE123 0 (by decide)) (ac (hE123 4 (by decide)) an)) ?_
        refine r_ix IX29 rfl rfl rfl h080 (by have h1_ := ((H125).tl.g5).leneq; have h2_ := h181; rw [← h1_] at h2_; exact h2_) ?_
        exact r_nil (n_lp ⟨_, rfl, undef, rfl, H125⟩)
      · intro η73 wd134 Δ135 hE131 hR132 H133
        have H133 : Hp w0 ((Δ135 ++ (Bx b68 28 [.int .i64 ((rd l_ v48).Seller), .int .i64 ((rd l_ v48).Buyer), .int .i64 ((rd l_ v48).f_N)] :: Row K38 (.slice A39 xs42.length c41) xs42 :: Bx b19 53 [.slice A39 xs42.length c41] :: Row K47 (.slice A44 xs47.length c46) xs47 :: Bx b23 45 [.slice A44 xs47.length c46] :: Row K9 (.slice (some ⟨b26, 0, none⟩) 6 6) [(⟨#[97]⟩ : ByteArray), (⟨#[98]⟩ : ByteArray), (⟨#[99]⟩ : ByteArray), (⟨#[100]⟩ : ByteArray), (⟨#[101]⟩ : ByteArray), (⟨#[]⟩ : ByteArray)] :: Γ))) wd134 := H133
        refine sp_op [(49, .pointer (some ((⟨b26, 0, none⟩ : Addr).add (Int.toNat (Int.tmod y74 6) * 1))))] (ac (hE131 5 (by decide)) an) ?_
        refine r_ld1 (.string (rd [(⟨#[97]⟩ : ByteArray), (⟨#[98]⟩ : ByteArray), (⟨#[99]⟩ : ByteArray), (⟨#[100]⟩ : ByteArray), (⟨#[101]⟩ : ByteArray), (⟨#[]⟩ : ByteArray)] (Int.tmod y74 6))) LD9 rfl (((H133).tl.g5.rd).c0A rfl hj82 _ rfl) ?_
        exact r_nil (n_lp ⟨_, rfl, undef, rfl, H133⟩)
      · intro η73 wd139 Δ140 hE136 hR137 H138
        have H138 : Hp w0 ((Δ140 ++ (Bx b68 28 [.int .i64 ((rd l_ v48).Seller), .int .i64 ((rd l_ v48).Buyer), .int .i64 ((rd l_ v48).f_N)] :: Row K38 (.slice A39 xs42.length c41) xs42 :: Bx b19 53 [.slice A39 xs42.length c41] :: Row K47 (.slice A44 xs47.length c46) xs47 :: Bx b23 45 [.slice A44 xs47.length c46] :: Row K9 (.slice (some ⟨b26, 0, none⟩) 6 6) [(⟨#[97]⟩ : ByteArray), (⟨#[98]⟩ : ByteArray), (⟨#[99]⟩ : ByteArray), (⟨#[100]⟩ : ByteArray), (⟨#[101]⟩ : ByteArray), (⟨#[]⟩ : ByteArray)] :: Γ))) wd139 := H138
        refine sp_op [(9, .slice (some ⟨b26, 0, none⟩) 6 6)] (ac rfl an) ?_
        refine r_pure (.slice (some ⟨b26, 0, none⟩) 6 6) rfl ?_
        exact r_nil (n_lp ⟨_, rfl, undef, rfl, H138⟩)
      · intro η73 wd144 Δ145 hE141 hR142 H143
        have H143 : Hp w0 ((Δ145 ++ (Bx b68 28 [.int .i64 ((rd l_ v48).Seller), .int .i64 ((rd l_ v48).Buyer), .int .i64 ((rd l_ v48).f_N)] :: Row K38 (.slice A39 xs42.length c41) xs42 :: Bx b19 53 [.slice A39 xs42.length c41] :: Row K47 (.slice A44 xs47.length c46) xs47 :: Bx b23 45 [.slice A44 xs47.length c46] :: Row K9 (.slice (some ⟨b26, 0, none⟩) 6 6) [(⟨#[97]⟩ : ByteArray), (⟨#[98]⟩ : ByteArray), (⟨#[99]⟩ : ByteArray), (⟨#[100]⟩ : ByteArray), (⟨#[101]⟩ : ByteArray), (⟨#[]⟩ : ByteArray)] :: Γ))) wd144 := H143
        refine sp_op [(11, .pointer (some ⟨b68, 0, none⟩))] (ac rfl an) ?_
        refine r_fa FA28_1 ⟨b68, 1, none⟩ rfl rfl ?_
        exact r_nil (n_lp ⟨_, rfl, undef, rfl, H143⟩)
      · intro η73 wd149 Δ150 hE146 hR147 H148
        have H148 : Hp w0 ((Δ150 ++ (Bx b68 28 [.int .i64 ((rd l_ v48).Seller), .int .i64 ((rd l_ v48).Buyer), .int .i64 ((rd l_ v48).f_N)] :: Row K38 (.slice A39 xs42.length c41) xs42 :: Bx b19 53 [.slice A39 xs42.length c41] :: Row K47 (.slice A44 xs47.length c46) xs47 :: Bx b23 45 [.slice A44 xs47.length c46] :: Row K9 (.slice (some ⟨b26, 0, none⟩) 6 6) [(⟨#[97]⟩ : ByteArray), (⟨#[98]⟩ : ByteArray), (⟨#[99]⟩ : ByteArray), (⟨#[100]⟩ : ByteArray), (⟨#[101]⟩ : ByteArray), (⟨#[]⟩ : ByteArray)] :: Γ))) wd149 := H148
        refine sp_op [(52, .pointer (some ⟨b68, 1, none⟩))] (ac (hE146 8 (by decide)) an) ?_
        refine r_ld1 (.int .i64 ((rd l_ v48).Buyer)) LD3 rfl (((H148).tl.g0).cell _ rfl) ?_
        exact r_nil (n_lp ⟨_, rfl, undef, rfl, H148⟩)
      · intro η73 wd154 Δ155 hE151 hR152 H153
        have H153 : Hp w0 ((Δ155 ++ (Bx b68 28 [.int .i64 ((rd l_ v48).Seller), .int .i64 ((rd l_ v48).Buyer), .int .i64 ((rd l_ v48).f_N)] :: Row K38 (.slice A39 xs42.length c41) xs42 :: Bx b19 53 [.slice A39 xs42.length c41] :: Row K47 (.slice A44 xs47.length c46) xs47 :: Bx b23 45 [.slice A44 xs47.length c46] :: Row K9 (.slice (some ⟨b26, 0, none⟩) 6 6) [(⟨#[97]⟩ : ByteArray), (⟨#[98]⟩ : ByteArray), (⟨#[99]⟩ : ByteArray), (⟨#[100]⟩ : ByteArray), (⟨#[101]⟩ : ByteArray), (⟨#[]⟩ : ByteArray)] :: Γ))) wd154 := H153
        refine sp_op [(53, .int .i64 ((rd l_ v48).Buyer))] (ac (hE151 9 (by decide)) an) ?_
        refine r_callf Try.call6 (scutagekeep_Within_ok ((rd l_ v48).Buyer) 31 y83 H153 hy84) ?_
        rintro e159 wd158 ⟨rfl, H161⟩
        refine ⟨_, rfl, ?_⟩
        exact r_nil (n_lp ⟨_, rfl, undef, rfl, H161⟩)
      · intro η73 wd165 Δ166 hE162 hR163 H164
        have H164 : Hp w0 ((Δ166 ++ (Bx b68 28 [.int .i64 ((rd l_ v48).Seller), .int .i64 ((rd l_ v48).Buyer), .int .i64 ((rd l_ v48).f_N)] :: Row K38 (.slice A39 xs42.length c41) xs42 :: Bx b19 53 [.slice A39 xs42.length c41] :: Row K47 (.slice A44 xs47.length c46) xs47 :: Bx b23 45 [.slice A44 xs47.length c46] :: Row K9 (.slice (some ⟨b26, 0, none⟩) 6 6) [(⟨#[97]⟩ : ByteArray), (⟨#[98]⟩ : ByteArray), (⟨#[99]⟩ : ByteArray), (⟨#[100]⟩ : ByteArray), (⟨#[101]⟩ : ByteArray), (⟨#[]⟩ : ByteArray)] :: Γ))) wd165 := H164
        refine sp_op [(54, .int .i64 y83)] (ac (hE162 10 (by decide)) an) ?_
        refine r_rem (by decide) rfl rfl ?_
        exact r_nil (n_lp ⟨_, rfl, undef, rfl, H164⟩)
      · intro η73 wd170 Δ171 hE167 hR168 H169
        have H169 : Hp w0 ((Δ171 ++ (Bx b68 28 [.int .i64 ((rd l_ v48).Seller), .int .i64 ((rd l_ v48).Buyer), .int .i64 ((rd l_ v48).f_N)] :: Row K38 (.slice A39 xs42.length c41) xs42 :: Bx b19 53 [.slice A39 xs42.length c41] :: Row K47 (.slice A44 xs47.length c46) xs47 :: Bx b23 45 [.slice A44 xs47.length c46] :: Row K9 (.slice (some ⟨b26, 0, none⟩) 6 6) [(⟨#[97]⟩ : ByteArray), (⟨#[98]⟩ : ByteArray), (⟨#[99]⟩ : ByteArray), (⟨#[100]⟩ : ByteArray), (⟨#[101]⟩ : ByteArray), (⟨#[]⟩ : ByteArray)] :: Γ))) wd170 := H169
        refine sp_op [(51, .slice (some ⟨b26, 0, none⟩) 6 6), (55, .int .i64 (Int.tmod y83 6))] (ac (hE167 7 (by decide)) (ac (hE167 11 (by decide)) an)) ?_
        refine r_ix IX29 rfl rfl rfl h089 (by have h1_ := ((H169).tl.g5).leneq; have h2_ := h190; rw [← h1_] at h2_; exact h2_) ?_
        exact r_nil (n_lp ⟨_, rfl, undef, rfl, H169⟩)
      · intro η73 wd178 Δ179 hE175 hR176 H177
        have H177 : Hp w0 ((Δ179 ++ (Bx b68 28 [.int .i64 ((rd l_ v48).Seller), .int .i64 ((rd l_ v48).Buyer), .int .i64 ((rd l_ v48).f_N)] :: Row K38 (.slice A39 xs42.length c41) xs42 :: Bx b19 53 [.slice A39 xs42.length c41] :: Row K47 (.slice A44 xs47.length c46) xs47 :: Bx b23 45 [.slice A44 xs47.length c46] :: Row K9 (.slice (some ⟨b26, 0, none⟩) 6 6) [(⟨#[97]⟩ : ByteArray), (⟨#[98]⟩ : ByteArray), (⟨#[99]⟩ : ByteArray), (⟨#[100]⟩ : ByteArray), (⟨#[101]⟩ : ByteArray), (⟨#[]⟩ : ByteArray)] :: Γ))) wd178 := H177
        refine sp_op [(56, .pointer (some ((⟨b26, 0, none⟩ : Addr).add (Int.toNat (Int.tmod y83 6) * 1))))] (ac (hE175 12 (by decide)) an) ?_
        refine r_ld1 (.string (rd [(⟨#[97]⟩ : ByteArray), (⟨#[98]⟩ : ByteArray), (⟨#[99]⟩ : ByteArray), (⟨#[100]⟩ : ByteArray), (⟨#[101]⟩ : ByteArray), (⟨#[]⟩ : ByteArray)] (Int.tmod y83 6))) LD9 rfl (((H177).tl.g5.rd).c0A rfl hj91 _ rfl) ?_
        exact r_nil (n_lp ⟨_, rfl, undef, rfl, H177⟩)
      · intro η73 wd183 Δ184 hE180 hR181 H182
        have H182 : Hp w0 ((Δ184 ++ (Bx b68 28 [.int .i64 ((rd l_ v48).Seller), .int .i64 ((rd l_ v48).Buyer), .int .i64 ((rd l_ v48).f_N)] :: Row K38 (.slice A39 xs42.length c41) xs42 :: Bx b19 53 [.slice A39 xs42.length c41] :: Row K47 (.slice A44 xs47.length c46) xs47 :: Bx b23 45 [.slice A44 xs47.length c46] :: Row K9 (.slice (some ⟨b26, 0, none⟩) 6 6) [(⟨#[97]⟩ : ByteArray), (⟨#[98]⟩ : ByteArray), (⟨#[99]⟩ : ByteArray), (⟨#[100]⟩ : ByteArray), (⟨#[101]⟩ : ByteArray), (⟨#[]⟩ : ByteArray)] :: Γ))) wd183 := H182
        refine sp_op [(50, .string (rd [(⟨#[97]⟩ : ByteArray), (⟨#[98]⟩ : ByteArray), (⟨#[99]⟩ : ByteArray), (⟨#[100]⟩ : ByteArray), (⟨#[101]⟩ : ByteArray), (⟨#[]⟩ : ByteArray)] (Int.tmod y74 6)))] (ac (hE180 6 (by decide)) an) ?_
        refine r_pure (.string (rd [(⟨#[97]⟩ : ByteArray), (⟨#[98]⟩ : ByteArray), (⟨#[99]⟩ : ByteArray), (⟨#[100]⟩ : ByteArray), (⟨#[101]⟩ : ByteArray), (⟨#[]⟩ : ByteArray)] (Int.tmod y74 6))) rfl ?_
        exact r_nil (n_lp ⟨_, rfl, undef, rfl, H182⟩)
      · intro η73 wd188 Δ189 hE185 hR186 H187
        have H187 : Hp w0 ((Δ189 ++ (Bx b68 28 [.int .i64 ((rd l_ v48).Seller), .int .i64 ((rd l_ v48).Buyer), .int .i64 ((rd l_ v48).f_N)] :: Row K38 (.slice A39 xs42.length c41) xs42 :: Bx b19 53 [.slice A39 xs42.length c41] :: Row K47 (.slice A44 xs47.length c46) xs47 :: Bx b23 45 [.slice A44 xs47.length c46] :: Row K9 (.slice (some ⟨b26, 0, none⟩) 6 6) [(⟨#[97]⟩ : ByteArray), (⟨#[98]⟩ : ByteArray), (⟨#[99]⟩ : ByteArray), (⟨#[100]⟩ : ByteArray), (⟨#[101]⟩ : ByteArray), (⟨#[]⟩ : ByteArray)] :: Γ))) wd188 := H187
        refine sp_op [(57, .string (rd [(⟨#[97]⟩ : ByteArray), (⟨#[98]⟩ : ByteArray), (⟨#[99]⟩ : ByteArray), (⟨#[100]⟩ : ByteArray), (⟨#[101]⟩ : ByteArray), (⟨#[]⟩ : ByteArray)] (Int.tmod y83 6)))] (ac (hE185 13 (by decide)) an) ?_
        refine r_pure (.string (rd [(⟨#[97]⟩ : ByteArray), (⟨#[98]⟩ : ByteArray), (⟨#[99]⟩ : ByteArray), (⟨#[100]⟩ : ByteArray), (⟨#[101]⟩ : ByteArray), (⟨#[]⟩ : ByteArray)] (Int.tmod y83 6))) rfl ?_
        exact r_nil (n_lp ⟨_, rfl, undef, rfl, H187⟩)
      · intro η73 wd191 hV192 H190
        have H193 : Hp w0 (Bx b68 28 [.int .i64 ((rd l_ v48).Seller), .int .i64 ((rd l_ v48).Buyer), .int .i64 ((rd l_ v48).f_N)] :: Row K38 (.slice A39 xs42.length c41) xs42 :: Bx b19 53 [.slice A39 xs42.length c41] :: Row K47 (.slice A44 xs47.length c46) xs47 :: Bx b23 45 [.slice A44 xs47.length c46] :: Row K9 (.slice (some ⟨b26, 0, none⟩) 6 6) [(⟨#[97]⟩ : ByteArray), (⟨#[98]⟩ : ByteArray), (⟨#[99]⟩ : ByteArray), (⟨#[100]⟩ : ByteArray), (⟨#[101]⟩ : ByteArray), (⟨#[]⟩ : ByteArray)] :: Γ) wd191 := H190
        refine n_frame [(0, .slice A1 l_.length c2), (1, .slice A7 rates.length c8), (2, .int .i64 more), (7, .pointer (some ⟨b19, 0, none⟩)), (8, .pointer (some ⟨b23, 0, none⟩)), (9, .slice (some ⟨b26, 0, none⟩) 6 6), (10, .int .i64 v48), (11, .pointer (some ⟨b68, 0, none⟩)), (12, .string (rd [(⟨#[97]⟩ : ByteArray), (⟨#[98]⟩ : ByteArray), (⟨#[99]⟩ : ByteArray), (⟨#[100]⟩ : ByteArray), (⟨#[101]⟩ : ByteArray), (⟨#[]⟩ : ByteArray)] (Int.tmod y74 6))), (13, .string (rd [(⟨#[97]⟩ : ByteArray), (⟨#[98]⟩ : ByteArray), (⟨#[99]⟩ : ByteArray), (⟨#[100]⟩ : ByteArray), (⟨#[101]⟩ : ByteArray), (⟨#[]⟩ : ByteArray)] (Int.tmod y83 6)))] (ac rfl (ac rfl (ac rfl (ac rfl (ac rfl (ac rfl (ac rfl (ac rfl (ac (hV192 14 rfl) (ac (hV192 15 rfl) an)))))))))) ?_
        refine n_sq ?_
        refine st_seq ?_
        refine st_region ?_
        refine r_fa FA28_2 ⟨b68, 2, none⟩ rfl rfl ?_
        refine r_ld1 (.int .i64 ((rd l_ v48).f_N)) LD3 rfl ((H193.g0).cell _ rfl) ?_
        obtain ⟨y194, hy195, hm⟩ := bind_some hm
        refine r_callf Try.call11 (scutageplay_Amount_ok ((rd l_ v48).f_N) y194 H193 hy195) ?_
        rintro e197 wd196 ⟨rfl, H199⟩
        refine ⟨_, rfl, ?_⟩
        refine r_pure (.int .i64 y194) rfl ?_
        refine r_seq ?_
        refine st_cut (fun ρ w => ∃ v200 : Int, (∃ base, ρ = updl base [(0, .slice A1 l_.length c2), (1, .slice A7 rates.length c8), (2, .int .i64 more), (7, .pointer (some ⟨b19, 0, none⟩)), (8, .pointer (some ⟨b23, 0, none⟩)), (9, .slice (some ⟨b26, 0, none⟩) 6 6), (10, .int .i64 v48), (12, .string (rd [(⟨#[97]⟩ : ByteArray), (⟨#[98]⟩ : ByteArray), (⟨#[99]⟩ : ByteArray), (⟨#[100]⟩ : ByteArray), (⟨#[101]⟩ : ByteArray), (⟨#[]⟩ : ByteArray)] (Int.tmod y74 6))), (13, .string (rd [(⟨#[97]⟩ : ByteArray), (⟨#[98]⟩ : ByteArray), (⟨#[99]⟩ : ByteArray), (⟨#[100]⟩ : ByteArray), (⟨#[101]⟩ : ByteArray), (⟨#[]⟩ : ByteArray)] (Int.tmod y83 6))), (14, .int .i64 v200)]) ∧ Hp w0 (Row K38 (.slice A39 xs42.length c41) xs42 :: Bx b19 53 [.slice A39 xs42.length c41] :: Row K47 (.slice A44 xs47.length c46) xs47 :: Bx b23 45 [.slice A44 xs47.length c46] :: Row K9 (.slice (some ⟨b26, 0, none⟩) 6 6) [(⟨#[97]⟩ : ByteArray), (⟨#[98]⟩ : ByteArray), (⟨#[99]⟩ : ByteArray), (⟨#[100]⟩ : ByteArray), (⟨#[101]⟩ : ByteArray), (⟨#[]⟩ : ByteArray)] :: Γ) w ∧ scutagelaw24_CrossPlays.j2 v48 xs42 y74 y83 xs47 (scutagelaw24_CrossPlays.l1 l_ fuel58) v200 = some tl51) ?_ ?_
        · refine st_seq ?_
          refine st_region ?_
          refine r_fa FA28_2 ⟨b68, 2, none⟩ rfl rfl ?_
          refine r_ld1 (.int .i64 ((rd l_ v48).f_N)) LD3 rfl ((H199.g0).cell _ rfl) ?_
          refine r_rem (by decide) rfl rfl ?_
          refine r_pure (.bool (Int.tmod ((rd l_ v48).f_N) 3 != 0)) rfl ?_
          refine r_seq ?_
          rcases ite_some hm with ⟨hb245, hm⟩ | ⟨hb245, hm⟩
          · refine st_condt hb245 rfl ?_
            refine st_region ?_
            refine r_pure (.int .i64 y194) rfl ?_
            refine r_pure (.int .i64 y194) rfl ?_
            refine r_pure (.int .i64 (w64 (0 - y194))) rfl ?_
            refine r_max rfl rfl ?_
            refine r_pure (.int .i64 (mx y194 (w64 (0 - y194)))) rfl ?_
            refine r_nil ?_
            refine n_cut ⟨mx y194 (w64 (0 - y194)), upk (ac rfl (ac rfl (ac rfl (ac rfl (ac rfl (ac rfl (ac rfl (ac rfl (ac rfl (ac rfl an)))))))))), H199.d.u4.u4.u4.u4.u4, hm⟩
          · refine st_condf hb245 rfl ?_
            refine st_skip ?_
            refine n_cut ⟨y194, upk (ac rfl (ac rfl (ac rfl (ac rfl (ac rfl (ac rfl (ac rfl (ac rfl (ac rfl (ac rfl an)))))))))), H199.d.u4.u4.u4.u4.u4, hm⟩
        · rintro ρ w ⟨v200, ⟨base, rfl⟩, H201, hm⟩
          unfold scutagelaw24_CrossPlays.j2 at hm
          refine st_cut (fun ρ w => (∃ base, ρ = updl base [(0, .slice A1 l_.length c2), (1, .slice A7 rates.length c8), (2, .int .i64 more), (7, .pointer (some ⟨b19, 0, none⟩)), (8, .pointer (some ⟨b23, 0, none⟩)), (9, .slice (some ⟨b26, 0, none⟩) 6 6), (10, .int .i64 v48), (12, .string (rd [(⟨#[97]⟩ : ByteArray), (⟨#[98]⟩ : ByteArray), (⟨#[99]⟩ : ByteArray), (⟨#[100]⟩ : ByteArray), (⟨#[101]⟩ : ByteArray), (⟨#[]⟩ : ByteArray)] (Int.tmod y74 6))), (13, .string (rd [(⟨#[97]⟩ : ByteArray), (⟨#[98]⟩ : ByteArray), (⟨#[99]⟩ : ByteArray), (⟨#[100]⟩ : ByteArray), (⟨#[101]⟩ : ByteArray), (⟨#[]⟩ : ByteArray)] (Int.tmod y83 6))), (14, .int .i64 v200)]) ∧ Hp w0 (Row K38 (.slice A39 xs42.length c41) xs42 :: Bx b19 53 [.slice A39 xs42.length c41] :: Row K47 (.slice A44 xs47.length c46) xs47 :: Bx b23 45 [.slice A44 xs47.length c46] :: Row K9 (.slice (some ⟨b26, 0, none⟩) 6 6) [(⟨#[97]⟩ : ByteArray), (⟨#[98]⟩ : ByteArray), (⟨#[99]⟩ : ByteArray), (⟨#[100]⟩ : ByteArray), (⟨#[101]⟩ : ByteArray), (⟨#[]⟩ : ByteArray)] :: Γ) w ∧ scutagelaw24_CrossPlays.j3 xs42 y74 y83 v200 xs47 (scutagelaw24_CrossPlays.l1 l_ fuel58) v48 = some tl51) ?_ ?_
          · refine st_seq ?_
            refine st_region ?_
            refine r_pure (.int .i64 v48) rfl ?_
            refine r_pure (.bool (v48 == 9)) rfl ?_
            refine r_seq ?_
            rcases ite_some hm with ⟨hb224, hm⟩ | ⟨hb224, hm⟩
            · refine st_condt hb224 rfl ?_
              refine st_seq ?_
              refine st_region ?_
              refine r_pure (.pointer (some ⟨b19, 0, none⟩)) rfl ?_
              obtain ⟨y225, hy226, hm⟩ := bind_some hm
              refine r_callf Try.call12 (cross_Cross_Clone_ok b19 (⟨xs42⟩ : cross_Cross) A39 xs42.length c41 rfl (((H201).g0).cap) (fun _ H => (H.g0.rd)) (fun _ H => (H.g1)) y225 H201 hy226) ?_
              rintro e228 wd227 ⟨b231, A232, n233, c234, rfl, H230⟩
              obtain rfl := (H230.g1).leneq
              refine ⟨_, rfl, ?_⟩
              refine r_pure (.pointer (some ⟨b231, 0, none⟩)) rfl ?_
              refine r_seq ?_
              refine st_seq ?_
              refine st_seq ?_
              refine st_region ?_
              refine r_pure (.pointer (some ⟨b231, 0, none⟩)) rfl ?_
              refine r_eqn Try.underlying23 rfl rfl ?_
              refine r_seq ?_
              refine st_condf rfl rfl ?_
              refine st_skip ?_
              refine n_sq ?_
              refine st_region ?_
              refine r_pure (.pointer (some ⟨b231, 0, none⟩)) rfl ?_
              obtain ⟨⟨y235, y236⟩, hy237, hm⟩ := bind_some hm
              refine r_callf Try.call7 (cross_Cross_Add_ok b231 (⟨y225.f_l⟩ : cross_Cross) A232 c234 (⟨#[97]⟩ : ByteArray) (⟨#[122]⟩ : ByteArray) 5 y235 y236 H230.u1.u1 hy237) ?_
              rintro e239 wd238 ⟨A242, n243, c244, rfl, H241⟩
              obtain rfl := (H241.g1).leneq
              refine ⟨_, rfl, ?_⟩
              refine r_nil ?_
              refine n_cut ⟨upk (ac rfl (ac rfl (ac rfl (ac rfl (ac rfl (ac rfl (ac rfl (ac rfl (ac rfl (ac rfl an)))))))))), H241.d.d.u4.u4.u4.u4.u4, hm⟩
            · refine st_condf hb224 rfl ?_
              refine st_skip ?_
              refine n_cut ⟨upk (ac rfl (ac rfl (ac rfl (ac rfl (ac rfl (ac rfl (ac rfl (ac rfl (ac rfl (ac rfl an)))))))))), H201.u4.u4.u4.u4.u4, hm⟩
          · rintro ρ w ⟨⟨base, rfl⟩, H202, hm⟩
            unfold scutagelaw24_CrossPlays.j3 at hm
            refine st_seq ?_
            refine st_region ?_
            refine r_pure (.pointer (some ⟨b19, 0, none⟩)) rfl ?_
            refine r_pure (.string (rd [(⟨#[97]⟩ : ByteArray), (⟨#[98]⟩ : ByteArray), (⟨#[99]⟩ : ByteArray), (⟨#[100]⟩ : ByteArray), (⟨#[101]⟩ : ByteArray), (⟨#[]⟩ : ByteArray)] (Int.tmod y74 6))) rfl ?_
            refine r_pure (.string (rd [(⟨#[97]⟩ : ByteArray), (⟨#[98]⟩ : ByteArray), (⟨#[99]⟩ : ByteArray), (⟨#[100]⟩ : ByteArray), (⟨#[101]⟩ : ByteArray), (⟨#[]⟩ : ByteArray)] (Int.tmod y83 6))) rfl ?_
            refine r_pure (.int .i64 v200) rfl ?_
            obtain ⟨⟨y203, y204⟩, hy205, hm⟩ := bind_some hm
            refine r_callf Try.call7 (cross_Cross_Add_ok b19 (⟨xs42⟩ : cross_Cross) A39 c41 (rd [(⟨#[97]⟩ : ByteArray), (⟨#[98]⟩ : ByteArray), (⟨#[99]⟩ : ByteArray), (⟨#[100]⟩ : ByteArray), (⟨#[101]⟩ : ByteArray), (⟨#[]⟩ : ByteArray)] (Int.tmod y74 6)) (rd [(⟨#[97]⟩ : ByteArray), (⟨#[98]⟩ : ByteArray), (⟨#[99]⟩ : ByteArray), (⟨#[100]⟩ : ByteArray), (⟨#[101]⟩ : ByteArray), (⟨#[]⟩ : ByteArray)] (Int.tmod y83 6)) v200 y203 y204 H202.u1 hy205) ?_
            rintro e207 wd206 ⟨A210, n211, c212, rfl, H209⟩
            obtain rfl := (H209.g1).leneq
            refine ⟨_, rfl, ?_⟩
            refine r_pure (.pointer (some ⟨b23, 0, none⟩)) rfl ?_
            refine r_pure (.string (rd [(⟨#[97]⟩ : ByteArray), (⟨#[98]⟩ : ByteArray), (⟨#[99]⟩ : ByteArray), (⟨#[100]⟩ : ByteArray), (⟨#[101]⟩ : ByteArray), (⟨#[]⟩ : ByteArray)] (Int.tmod y74 6))) rfl ?_
            refine r_pure (.string (rd [(⟨#[97]⟩ : ByteArray), (⟨#[98]⟩ : ByteArray), (⟨#[99]⟩ : ByteArray), (⟨#[100]⟩ : ByteArray), (⟨#[101]⟩ : ByteArray), (⟨#[]⟩ : ByteArray)] (Int.tmod y83 6))) rfl ?_
            refine r_pure (.int .i64 v200) rfl ?_
            obtain ⟨⟨y213, y214⟩, hy215, hm⟩ := bind_some hm
            refine r_callf Try.call13 (scutageref19_Cross_Add_ok b23 (⟨xs47⟩ : scutageref19_Cross) A44 c46 (rd [(⟨#[97]⟩ : ByteArray), (⟨#[98]⟩ : ByteArray), (⟨#[99]⟩ : ByteArray), (⟨#[100]⟩ : ByteArray), (⟨#[101]⟩ : ByteArray), (⟨#[]⟩ : ByteArray)] (Int.tmod y74 6)) (rd [(⟨#[97]⟩ : ByteArray), (⟨#[98]⟩ : ByteArray), (⟨#[99]⟩ : ByteArray), (⟨#[100]⟩ : ByteArray), (⟨#[101]⟩ : ByteArray), (⟨#[]⟩ : ByteArray)] (Int.tmod y83 6)) v200 y213 y214 H209.u2.u3 hy215) ?_
            rintro e217 wd216 ⟨A220, n221, c222, rfl, H219⟩
            obtain rfl := (H219.g1).leneq
            refine ⟨_, rfl, ?_⟩
            refine r_pure (.bool (y203 != y213)) rfl ?_
            refine r_seq ?_
            rcases ite_some hm with ⟨hb223, hm⟩ | ⟨hb223, hm⟩
            · refine st_condt hb223 rfl ?_
              refine st_seq ?_
              refine st_region ?_
              refine r_pure (.bool false) rfl ?_
              refine r_seq ?_
              have hq_ := Option.some.inj hm
              subst hq_
              have hq_ := Option.some.inj (show some (false : Bool) = some r0_ from hm50)
              subst hq_
              refine st_ret1 rfl rfl (Nat.le_of_ble_eq_true rfl) rfl ?_
              exact ⟨rfl, H219.d.d.d.d.d⟩
            · refine st_condf hb223 rfl ?_
              refine st_skip ?_
              refine n_bl ?_
              refine n_sq ?_
              refine st_region ?_
              refine r_pure (.int .i64 v48) rfl ?_
              refine r_pure (.int .i64 (w64 (v48 + 1))) rfl ?_
              refine r_pure (.int .i64 (w64 (v48 + 1))) rfl ?_
              refine r_nil ?_
              refine n_round (IH60 _ _ _ ⟨y204.f_l, y214.f_R, w64 (v48 + 1), A210, y204.f_l.length, c212, A220, y214.f_R.length, c222, rfl, upk (ac rfl (ac rfl (ac rfl (ac rfl (ac rfl (ac rfl (ac rfl an))))))), H219.u4.u1.u2.u3.u4⟩ hm)
    · refine st_condf hb63 rfl ?_
      have hq_ := Option.some.inj hm
      refine st_exit rfl ?_
      subst hq_
      refine n_sq ?_
      refine st_seq ?_
      refine st_region ?_
      refine r_pure (.pointer (some ⟨b19, 0, none⟩)) rfl ?_
      obtain ⟨y246, hy247, hm⟩ := bind_some hm50
      refine r_callf Try.call8 (cross_Cross_Rows_ok b19 (⟨xs42⟩ : cross_Cross) A39 xs42.length c41 rfl (((H62).g0).cap) (fun _ H => (H.g0.rd)) (fun _ H => (H.g1)) y246 H62 hy247) ?_
      rintro e249 wd248 ⟨A252, n253, c254, rfl, H251⟩
      obtain rfl := (H251.g0).leneq
      refine ⟨_, rfl, ?_⟩
      refine r_pure (.slice A252 y246.length c254) rfl ?_
      refine r_seq ?_
      refine st_seq ?_
      refine st_seq ?_
      refine st_region ?_
      refine r_pure (.slice A252 y246.length c254) rfl ?_
      refine r_len Try.underlying34 rfl ?_
      refine r_pure (.pointer (some ⟨b23, 0, none⟩)) rfl ?_
      refine r_pure (.pointer (some ⟨b23, 0, none⟩)) rfl ?_
      refine r_fa FA45_0 ⟨b23, 0, none⟩ rfl rfl ?_
      refine r_ld1 (.slice A44 xs47.length c46) LD43 rfl ((H251.g4).cell _ rfl) ?_
      refine r_len Try.underlying43 rfl ?_
      refine r_pure (.bool ((y246.length : Int) != (xs47.length : Int))) rfl ?_
      refine r_seq ?_
      rcases ite_some hm with ⟨hb255, hm⟩ | ⟨hb255, hm⟩
      · refine st_condt hb255 rfl ?_
        refine st_seq ?_
        refine st_region ?_
        refine r_pure (.bool false) rfl ?_
        refine r_seq ?_
        have hq_ := Option.some.inj hm
        subst hq_
        refine st_ret1 rfl rfl (Nat.le_of_ble_eq_true rfl) rfl ?_
        exact ⟨rfl, H251.d.d.d.d.d.d⟩
      · refine st_condf hb255 rfl ?_
        refine st_skip ?_
        refine n_sq ?_
        refine st_seq ?_
        refine st_region ?_
        refine r_pure (.slice none 0 0) rfl ?_
        refine r_seq ?_
        refine st_seq ?_
        refine st_seq ?_
        refine st_region ?_
        refine r_pure (.slice A252 y246.length c254) rfl ?_
        refine r_len Try.underlying34 rfl ?_
        refine r_pure (.int .i64 0) rfl ?_
        refine r_seq ?_
        refine st_block ?_
        have H261 := H251.add (A := Row K3 (.slice none 0 0) []) Row.nil
        have hlim285 := (H261.g1.rd).lim
        obtain ⟨tl268, hl269, hm267⟩ := bind_some hm
        refine st_loopL (scutagelaw24_CrossPlays.l2 xs47 rates) (fun ys274 s ρ w => ∃ i270 : Int, ∃ xs265 : List Int, ∃ dn271 : List cross_Row, ∃ A262 : Option Addr, ∃ n263 : Nat, ∃ c264 : Nat, (i270, xs265) = s ∧ y246 = dn271 ++ ys274 ∧ i270 = (dn271.length : Int) ∧ (∃ base, ρ = updl base [(1, .slice A7 rates.length c8), (2, .int .i64 more), (8, .pointer (some ⟨b23, 0, none⟩)), (16, .slice A252 y246.length c254), (17, .slice A262 n263 c264), (99, .int .i64 (y246.length : Int)), (100, .int .i64 i270)]) ∧ Hp w0 (Row K47 (.slice A44 xs47.length c46) xs47 :: Bx b23 45 [.slice A44 xs47.length c46] :: Row K38 (.slice A252 y246.length c254) y246 :: Row K3 (.slice A262 n263 c264) xs265 :: Γ) w) hl269 ⟨0, ([] : List Int), [], none, 0, 0, rfl, rfl, rfl, upk (ac rfl (ac rfl (ac rfl (ac rfl (ac rfl (ac rfl (ac rfl an))))))), H261.u2.d.u2.d.u4.d.u1.u3.u3⟩ ?_
        rintro m ys274 IH278 s ρ w ⟨i270, xs265, dn271, A262, n263, c264, rfl, hxs272, hi273, ⟨base, rfl⟩, H266⟩ hm
        obtain rfl := (H266.g3).leneq
        rcases ys274 with _ | ⟨y275, ys274⟩
        · rw [scutagelaw24_CrossPlays.l2] at hm
          have hb279 := range_end hxs272 hi273
          refine st_seq ?_
          refine st_region ?_
          refine r_pure (.bool (decide (i270 < (y246.length : Int)))) rfl ?_
          refine r_seq ?_
          refine st_seq ?_
          refine st_condf hb279 rfl ?_
          have hq_ := Option.some.inj hm
          refine st_exit rfl ?_
          subst hq_
          refine n_sq ?_
          refine st_cut (fun ρ w => ∃ A286 : Option Addr, ∃ n287 : Nat, ∃ c288 : Nat, ∃ xs289 : List Int, (∃ base, ρ = updl base [(8, .pointer (some ⟨b23, 0, none⟩)), (16, .slice A252 y246.length c254), (17, .slice A286 n287 c288)]) ∧ Hp w0 (Row K47 (.slice A44 xs47.length c46) xs47 :: Bx b23 45 [.slice A44 xs47.length c46] :: Row K38 (.slice A252 y246.length c254) y246 :: Row K3 (.slice A286 n287 c288) xs289 :: Γ) w ∧ scutagelaw24_CrossPlays.j4 y246 xs47 xs289 = some r0_) ?_ ?_
          · refine st_seq ?_
            refine st_region ?_
            refine r_pure (.int .i64 more) rfl ?_
            refine r_rem (by decide) rfl rfl ?_
            refine r_pure (.bool (Int.tmod more 7 == 6)) rfl ?_
            refine r_seq ?_
            rcases ite_some hm267 with ⟨hb315, hm⟩ | ⟨hb315, hm⟩
            · refine st_condt hb315 rfl ?_
              refine st_region ?_
              refine r_pure (.slice A262 xs265.length c264) rfl ?_
              refine r_buildSlice (K := K3) ([5] : List Int) EL41 rfl rfl rfl (by decide) (by decide) rfl H266 ?_
              intro b316 wd318 H317
              obtain ⟨hf319, hm⟩ := gd_some hm
              refine r_append (K := K3) (ys := ([5] : List Int)) AP41 rfl rfl rfl rfl H317.u4 (((H317.u4).g1).src) (fit_le hf319 (by decide)) ?_
              intro A320 c321 wd322 H323
              refine r_pure (.slice A320 ((xs265 ++ ([5] : List Int)).length) c321) rfl ?_
              refine r_nil ?_
              refine n_cut ⟨A320, (xs265 ++ ([5] : List Int)).length, c321, xs265 ++ ([5] : List Int), upk (ac rfl (ac rfl (ac rfl an))), H323.u1.d.u3.u3.u3, hm⟩
            · refine st_condf hb315 rfl ?_
              refine st_skip ?_
              refine n_cut ⟨A262, xs265.length, c264, xs265, upk (ac rfl (ac rfl (ac rfl an))), H266.u3.u3.u3.u3, hm⟩
          · rintro ρ w ⟨A286, n287, c288, xs289, ⟨base, rfl⟩, H290, hm⟩
            obtain rfl := (H290.g3).leneq
            unfold scutagelaw24_CrossPlays.j4 at hm
            refine st_seq ?_
            refine st_region ?_
            refine r_pure (.slice A252 y246.length c254) rfl ?_
            refine r_pure (.slice A286 xs289.length c288) rfl ?_
            obtain ⟨⟨y291, y292⟩, hy293, hm⟩ := bind_some hm
            refine r_callf Try.call15 (cross_Asset_ok y246 A252 y246.length c254 rfl (((H290).g2).cap) (fun _ H => (H.g2.rd)) xs289 A286 xs289.length c288 rfl (((H290).g3).cap) (fun _ H => (H.g3.rd)) y291 y292 H290 hy293) ?_
            rintro e295 wd294 ⟨rfl, H297⟩
            refine ⟨_, rfl, ?_⟩
            refine r_pure (.tuple #[.int .i64 y291, .int .i64 y292]) rfl ?_
            refine r_pure (.int .i64 y291) rfl ?_
            refine r_pure (.int .i64 y292) rfl ?_
            refine r_pure (.int .i64 y291) rfl ?_
            refine r_pure (.int .i64 y292) rfl ?_
            refine r_seq ?_
            refine st_seq ?_
            refine st_region ?_
            refine r_pure (.pointer (some ⟨b23, 0, none⟩)) rfl ?_
            refine r_pure (.pointer (some ⟨b23, 0, none⟩)) rfl ?_
            refine r_fa FA45_0 ⟨b23, 0, none⟩ rfl rfl ?_
            refine r_ld1 (.slice A44 xs47.length c46) LD43 rfl ((H297.g1).cell _ rfl) ?_
            refine r_pure (.slice A286 xs289.length c288) rfl ?_
            obtain ⟨⟨y298, y299⟩, hy300, hm⟩ := bind_some hm
            refine r_callf Try.call16 (scutageref19_Asset_ok xs47 A44 xs47.length c46 rfl (((H297).g0).cap) (fun _ H => (H.g0.rd)) xs289 A286 xs289.length c288 rfl (((H297).g3).cap) (fun _ H => (H.g3.rd)) y298 y299 H297 hy300) ?_
            rintro e302 wd301 ⟨rfl, H304⟩
            refine ⟨_, rfl, ?_⟩
            refine r_pure (.tuple #[.int .i64 y298, .int .i64 y299]) rfl ?_
            refine r_pure (.int .i64 y298) rfl ?_
            refine r_pure (.int .i64 y299) rfl ?_
            refine r_pure (.int .i64 y298) rfl ?_
            refine r_pure (.int .i64 y299) rfl ?_
            refine r_seq ?_
            refine st_cut (fun ρ w => ∃ q305 : Bool, (∃ base, ρ = updl base [(6, .bool q305)]) ∧ Hp w0 (Γ) w ∧ scutagelaw24_CrossPlays.j5 q305 = some r0_) ?_ ?_
            · refine st_region ?_
              refine r_pure (.int .i64 y291) rfl ?_
              refine r_pure (.int .i64 y298) rfl ?_
              refine r_pure (.bool (y291 == y298)) rfl ?_
              refine r_pure (.bool (y291 == y298)) rfl ?_
              rcases ite_some hm with ⟨hb307, hm⟩ | ⟨hb307, hm⟩
              · refine r_pure (.int .i64 y292) rfl ?_ (wn_t rfl rfl (by decide) rfl hb307)
                refine r_pure (.int .i64 y299) rfl ?_ (wn_t rfl rfl (by decide) rfl hb307)
                refine r_pure (.bool (y292 == y299)) rfl ?_ (wn_t rfl rfl (by decide) rfl hb307)
                refine r_pick_t (.bool (y292 == y299)) hb307 rfl rfl ?_
                refine r_pure (.bool (y292 == y299)) rfl ?_
                rcases ite_some hm with ⟨hb308, hm⟩ | ⟨hb308, hm⟩
                · obtain ⟨y309, hy310, hm⟩ := bind_some hm
                  refine r_callf Try.call10 (scutagelaw24_wakes_ok  y309 H304 hy310) ?_ (wn_t rfl rfl (by decide) rfl hb308)
                  rintro e312 wd311 ⟨rfl, H314⟩
                  refine ⟨_, rfl, ?_⟩
                  refine r_pick_t (.bool y309) hb308 rfl rfl ?_
                  refine r_pure (.bool y309) rfl ?_
                  refine r_nil ?_
                  refine n_cut ⟨y309, upk (ac rfl an), H314.d.d.d.d, hm⟩
                · refine r_not (wn_f rfl rfl (by decide) rfl hb308) ?_
                  refine r_pick_f (.bool false) hb308 rfl rfl ?_
                  refine r_pure (.bool false) rfl ?_
                  refine r_nil ?_
                  refine n_cut ⟨false, upk (ac rfl an), H304.d.d.d.d, hm⟩
              · refine r_not (wn_f rfl rfl (by decide) rfl hb307) ?_
                refine r_not (wn_f rfl rfl (by decide) rfl hb307) ?_
                refine r_not (wn_f rfl rfl (by decide) rfl hb307) ?_
                refine r_pick_f (.bool false) hb307 rfl rfl ?_
                refine r_pure (.bool false) rfl ?_
                refine r_not (wn_f rfl rfl (by decide) rfl rfl) ?_
                refine r_pick_f (.bool false) rfl rfl rfl ?_
                refine r_pure (.bool false) rfl ?_
                refine r_nil ?_
                refine n_cut ⟨false, upk (ac rfl an), H304.d.d.d.d, hm⟩
            · rintro ρ w ⟨q305, ⟨base, rfl⟩, H306, hm⟩
              unfold scutagelaw24_CrossPlays.j5 at hm
              have hq_ := Option.some.inj hm
              subst hq_
              refine st_ret1 rfl rfl (Nat.le_of_ble_eq_true rfl) rfl ?_
              exact ⟨rfl, H306⟩
        · rw [scutagelaw24_CrossPlays.l2] at hm
          have hb280 := range_in hxs272 hi273
          obtain ⟨h0281, h1282, hj283⟩ := range_ix hxs272 hi273
          have hnx284 := range_next hxs272 hi273 hlim285
          refine st_seq ?_
          refine st_region ?_
          refine r_pure (.bool (decide (i270 < (y246.length : Int)))) rfl ?_
          refine r_seq ?_
          refine st_seq ?_
          refine st_condt hb280 rfl ?_
          refine st_skip ?_
          refine n_sq ?_
          refine st_seq ?_
          refine st_block ?_
          refine st_seq ?_
          refine st_region ?_
          refine r_pure (.int .i64 i270) rfl ?_
          refine r_pure (.int .i64 i270) rfl ?_
          refine r_seq ?_
          refine st_seq ?_
          refine st_seq ?_
          obtain ⟨⟨h0326, h1327⟩, hm⟩ := gd_some hm
          have hj328 := rd_get h0326 h1327
          refine Flow.run' [[], [], [0, 1], [0, 1, 2], [], [4], [4, 5], [4, 5, 6], [], [4, 5, 6, 7, 8], [4, 5, 6, 7, 8, 9], [0, 1, 2, 3, 4, 5, 6, 7, 8, 9, 10]] [(103, 0), (104, 1), (105, 2), (106, 3), (107, 4), (108, 5), (109, 6), (110, 7), (111, 8), (112, 9), (113, 10), (114, 11)] [(fun η324 v => v.1 = .slice A252 y246.length c254), (fun η324 v => v.1 = .int .i64 i270), (fun η324 v => v.1 = .pointer (some ((oA A252).add (Int.toNat i270 * 3)))), (fun η324 v => v.1 = .agg #[.string y275.Seller, .string y275.Buyer, .int .i64 y275.Amount]), (fun η324 v => v.1 = .pointer (some ⟨b23, 0, none⟩)), (fun η324 v => v.1 = .pointer (some ⟨b23, 0, none⟩)), (fun η324 v => v.1 = .pointer (some ⟨b23, 0, none⟩)), (fun η324 v => v.1 = .slice A44 xs47.length c46), (fun η324 v => v.1 = .int .i64 i270), (fun η324 v => v.1 = .pointer (some ((oA A44).add (Int.toNat i270 * 3)))), (fun η324 v => v.1 = .agg #[.string ((rd xs47 i270).Seller), .string ((rd xs47 i270).Buyer), .int .i64 ((rd xs47 i270).Amount)]), (fun η324 v => v.1 = .bool (!(y275.Seller.toList == ((rd xs47 i270).Seller).toList && (y275.Buyer.toList == ((rd xs47 i270).Buyer).toList && (y275.Amount == ((rd xs47 i270).Amount))))))] [] rfl (by kernel_rfl) (by kernel_rfl) H266 ⟨?_, ?_, ?_, ?_, ?_, ?_, ?_, ?_, ?_, ?_, ?_, ?_, trivial⟩ ?_
          · intro η324 wd333 Δ334 hE330 hR331 H332
            have H332 : Hp w0 ((Δ334 ++ (Row K47 (.slice A44 xs47.length c46) xs47 :: Bx b23 45 [.slice A44 xs47.length c46] :: Row K38 (.slice A252 y246.length c254) y246 :: Row K3 (.slice A262 xs265.length c264) xs265 :: Γ))) wd333 := H332
            refine sp_op [(16, .slice A252 y246.length c254)] (ac rfl an) ?_
            refine r_pure (.slice A252 y246.length c254) rfl ?_
            exact r_nil (n_lp ⟨_, rfl, undef, rfl, H332⟩)
          · intro η324 wd338 Δ339 hE335 hR336 H337
            have H337 : Hp w0 ((Δ339 ++ (Row K47 (.slice A44 xs47.length c46) xs47 :: Bx b23 45 [.slice A44 xs47.length c46] :: Row K38 (.slice A252 y246.length c254) y246 :: Row K3 (.slice A262 xs265.length c264) xs265 :: Γ))) wd338 := H337
            refine sp_op [(18, .int .i64 i270)] (ac rfl an) ?_
            refine r_pure (.int .i64 i270) rfl ?_
            exact r_nil (n_lp ⟨_, rfl, undef, rfl, H337⟩)
          · intro η324 wd343 Δ344 hE340 hR341 H342
            have H342 : Hp w0 ((Δ344 ++ (Row K47 (.slice A44 xs47.length c46) xs47 :: Bx b23 45 [.slice A44 xs47.length c46] :: Row K38 (.slice A252 y246.length c254) y246 :: Row K3 (.slice A262 xs265.length c264) xs265 :: Γ))) wd343 := H342
            refine sp_op [(103, .slice A252 y246.length c254), (104, .int .i64 i270)] (ac (hE340 0 (by decide)) (ac (hE340 1 (by decide)) an)) ?_
            have hA345 := ((H342).tl.g2.rd).adO hj283
            refine r_ix IX34 rfl rfl hA345 h0281 h1282 ?_
            exact r_nil (n_lp ⟨_, rfl, undef, rfl, H342⟩)
          · intro η324 wd349 Δ350 hE346 hR347 H348
            have H348 : Hp w0 ((Δ350 ++ (Row K47 (.slice A44 xs47.length c46) xs47 :: Bx b23 45 [.slice A44 xs47.length c46] :: Row K38 (.slice A252 y246.length c254) y246 :: Row K3 (.slice A262 xs265.length c264) xs265 :: Γ))) wd349 := H348
            refine sp_op [(105, .pointer (some ((oA A252).add (Int.toNat i270 * 3))))] (ac (hE346 2 (by decide)) an) ?_
            have hA351 := ((H348).tl.g2.rd).adO hj283
            refine r_ldA [.string y275.Seller, .string y275.Buyer, .int .i64 y275.Amount] LD38 rfl rfl (((H348).tl.g2.rd).csA hA351 hj283) ?_
            exact r_nil (n_lp ⟨_, rfl, undef, rfl, H348⟩)
          · intro η324 wd355 Δ356 hE352 hR353 H354
            have H354 : Hp w0 ((Δ356 ++ (Row K47 (.slice A44 xs47.length c46) xs47 :: Bx b23 45 [.slice A44 xs47.length c46] :: Row K38 (.slice A252 y246.length c254) y246 :: Row K3 (.slice A262 xs265.length c264) xs265 :: Γ))) wd355 := H354
            refine sp_op [(8, .pointer (some ⟨b23, 0, none⟩))] (ac rfl an) ?_
            refine r_pure (.pointer (some ⟨b23, 0, none⟩)) rfl ?_
            exact r_nil (n_lp ⟨_, rfl, undef, rfl, H354⟩)
          · intro η324 wd360 Δ361 hE357 hR358 H359
            have H359 : Hp w0 ((Δ361 ++ (Row K47 (.slice A44 xs47.length c46) xs47 :: Bx b23 45 [.slice A44 xs47.length c46] :: Row K38 (.slice A252 y246.length c254) y246 :: Row K3 (.slice A262 xs265.length c264) xs265 :: Γ))) wd360 := H359
            refine sp_op [(107, .pointer (some ⟨b23, 0, none⟩))] (ac (hE357 4 (by decide)) an) ?_
            refine r_pure (.pointer (some ⟨b23, 0, none⟩)) rfl ?_
            exact r_nil (n_lp ⟨_, rfl, undef, rfl, H359⟩)
          · intro η324 wd365 Δ366 hE362 hR363 H364
            have H364 : Hp w0 ((Δ366 ++ (Row K47 (.slice A44 xs47.length c46) xs47 :: Bx b23 45 [.slice A44 xs47.length c46] :: Row K38 (.slice A252 y246.length c254) y246 :: Row K3 (.slice A262 xs265.length c264) xs265 :: Γ))) wd365 := H364
            refine sp_op [(108, .pointer (some ⟨b23, 0, none⟩))] (ac (hE362 5 (by decide)) an) ?_
            refine r_fa FA45_0 ⟨b23, 0, none⟩ rfl rfl ?_
            exact r_nil (n_lp ⟨_, rfl, undef, rfl, H364⟩)
          · intro η324 wd370 Δ371 hE367 hR368 H369
            have H369 : Hp w0 ((Δ371 ++ (Row K47 (.slice A44 xs47.length c46) xs47 :: Bx b23 45 [.slice A44 xs47.length c46] :: Row K38 (.slice A252 y246.length c254) y246 :: Row K3 (.slice A262 xs265.length c264) xs265 :: Γ))) wd370 := H369
            refine sp_op [(109, .pointer (some ⟨b23, 0, none⟩))] (ac (hE367 6 (by decide)) an) ?_
            refine r_ld1 (.slice A44 xs47.length c46) LD43 rfl (((H369).tl.g1).cell _ rfl) ?_
            exact r_nil (n_lp ⟨_, rfl, undef, rfl, H369⟩)
          · intro η324 wd375 Δ376 hE372 hR373 H374
            have H374 : Hp w0 ((Δ376 ++ (Row K47 (.slice A44 xs47.length c46) xs47 :: Bx b23 45 [.slice A44 xs47.length c46] :: Row K38 (.slice A252 y246.length c254) y246 :: Row K3 (.slice A262 xs265.length c264) xs265 :: Γ))) wd375 := H374
            refine sp_op [(18, .int .i64 i270)] (ac rfl an) ?_
            refine r_pure (.int .i64 i270) rfl ?_
            exact r_nil (n_lp ⟨_, rfl, undef, rfl, H374⟩)
          · intro η324 wd380 Δ381 hE377 hR378 H379
            have H379 : Hp w0 ((Δ381 ++ (Row K47 (.slice A44 xs47.length c46) xs47 :: Bx b23 45 [.slice A44 xs47.length c46] :: Row K38 (.slice A252 y246.length c254) y246 :: Row K3 (.slice A262 xs265.length c264) xs265 :: Γ))) wd380 := H379
            refine sp_op [(110, .slice A44 xs47.length c46), (111, .int .i64 i270)] (ac (hE377 7 (by decide)) (ac (hE377 8 (by decide)) an)) ?_
            have hA385 := ((H379).tl.g0.rd).adO hj328
            refine r_ix IX43 rfl rfl hA385 h0326 h1327 ?_
            exact r_nil (n_lp ⟨_, rfl, undef, rfl, H379⟩)
          · intro η324 wd389 Δ390 hE386 hR387 H388
            have H388 : Hp w0 ((Δ390 ++ (Row K47 (.slice A44 xs47.length c46) xs47 :: Bx b23 45 [.slice A44 xs47.length c46] :: Row K38 (.slice A252 y246.length c254) y246 :: Row K3 (.slice A262 xs265.length c264) xs265 :: Γ))) wd389 := H388
            refine sp_op [(112, .pointer (some ((oA A44).add (Int.toNat i270 * 3))))] (ac (hE386 9 (by decide)) an) ?_
            have hA391 := ((H388).tl.g0.rd).adO hj328
            refine r_ldA [.string ((rd xs47 i270).Seller), .string ((rd xs47 i270).Buyer), .int .i64 ((rd xs47 i270).Amount)] LD47 rfl rfl (((H388).tl.g0.rd).csA hA391 hj328) ?_
            exact r_nil (n_lp ⟨_, rfl, undef, rfl, H388⟩)
          · intro η324 wd395 Δ396 hE392 hR393 H394
            have H394 : Hp w0 ((Δ396 ++ (Row K47 (.slice A44 xs47.length c46) xs47 :: Bx b23 45 [.slice A44 xs47.length c46] :: Row K38 (.slice A252 y246.length c254) y246 :: Row K3 (.slice A262 xs265.length c264) xs265 :: Γ))) wd395 := H394
            refine sp_op [(106, .agg #[.string y275.Seller, .string y275.Buyer, .int .i64 y275.Amount]), (113, .agg #[.string ((rd xs47 i270).Seller), .string ((rd xs47 i270).Buyer), .int .i64 ((rd xs47 i270).Amount)])] (ac (hE392 3 (by decide)) (ac (hE392 10 (by decide)) an)) ?_
            refine r_neS (EQ47 y275.Seller ((rd xs47 i270).Seller) y275.Buyer ((rd xs47 i270).Buyer) y275.Amount ((rd xs47 i270).Amount)) (by decide) Try.eqGuardType47 rfl rfl ?_
            exact r_nil (n_lp ⟨_, rfl, undef, rfl, H394⟩)
          · intro η324 wd398 hV399 H397
            have H400 : Hp w0 (Row K47 (.slice A44 xs47.length c46) xs47 :: Bx b23 45 [.slice A44 xs47.length c46] :: Row K38 (.slice A252 y246.length c254) y246 :: Row K3 (.slice A262 xs265.length c264) xs265 :: Γ) wd398 := H397
            refine n_frame [(1, .slice A7 rates.length c8), (2, .int .i64 more), (8, .pointer (some ⟨b23, 0, none⟩)), (16, .slice A252 y246.length c254), (17, .slice A262 xs265.length c264), (18, .int .i64 i270), (99, .int .i64 (y246.length : Int)), (100, .int .i64 i270), (114, .bool (!(y275.Seller.toList == ((rd xs47 i270).Seller).toList && (y275.Buyer.toList == ((rd xs47 i270).Buyer).toList && (y275.Amount == ((rd xs47 i270).Amount))))))] (ac rfl (ac rfl (ac rfl (ac rfl (ac rfl (ac rfl (ac rfl (ac rfl (ac (hV399 11 rfl) an))))))))) ?_
            refine n_sq ?_
            rcases ite_some hm with ⟨hb401, hm⟩ | ⟨hb401, hm⟩
            · refine st_condt hb401 rfl ?_
              refine st_seq ?_
              refine st_region ?_
              refine r_pure (.bool false) rfl ?_
              refine r_seq ?_
              have hq_ := Option.some.inj hm
              subst hq_
              have hq_ := Option.some.inj (show some (false : Bool) = some r0_ from hm267)
              subst hq_
              refine st_ret1 rfl rfl (Nat.le_of_ble_eq_true rfl) rfl ?_
              exact ⟨rfl, H400.d.d.d.d⟩
            · refine st_condf hb401 rfl ?_
              refine st_skip ?_
              refine n_sq ?_
              refine st_seq ?_
              refine st_region ?_
              refine r_pure (.int .i64 7) rfl ?_
              refine r_seq ?_
              refine st_cut (fun ρ w => ∃ v402 : Int, (∃ base, ρ = updl base [(1, .slice A7 rates.length c8), (2, .int .i64 more), (8, .pointer (some ⟨b23, 0, none⟩)), (16, .slice A252 y246.length c254), (17, .slice A262 xs265.length c264), (19, .int .i64 v402), (99, .int .i64 (y246.length : Int)), (100, .int .i64 i270)]) ∧ Hp w0 (Row K47 (.slice A44 xs47.length c46) xs47 :: Bx b23 45 [.slice A44 xs47.length c46] :: Row K38 (.slice A252 y246.length c254) y246 :: Row K3 (.slice A262 xs265.length c264) xs265 :: Γ) w ∧ scutagelaw24_CrossPlays.j6 xs265 (scutagelaw24_CrossPlays.l2 xs47 rates ys274) i270 v402 = some tl268) ?_ ?_
              · refine st_seq ?_
                refine st_region ?_
                refine r_pure (.int .i64 i270) rfl ?_
                refine r_pure (.slice A7 rates.length c8) rfl ?_
                refine r_len Try.underlying41 rfl ?_
                refine r_pure (.bool (decide (i270 < (rates.length : Int)))) rfl ?_
                refine r_seq ?_
                rcases ite_some hm with ⟨hb418, hm⟩ | ⟨hb418, hm⟩
                · refine st_condt hb418 rfl ?_
                  refine st_region ?_
                  refine r_pure (.slice A7 rates.length c8) rfl ?_
                  refine r_pure (.int .i64 i270) rfl ?_
                  obtain ⟨⟨h0419, h1420⟩, hm⟩ := gd_some hm
                  have hj421 := rd_get h0419 h1420
                  have hA422 := (hv10 _ H400.d.d.d.d).adO hj421
                  refine r_ix IX41 rfl rfl hA422 h0419 h1420 ?_
                  refine r_ld1 (.int .i64 (rd rates i270)) LD3 rfl ((hv10 _ H400.d.d.d.d).c0A hA422 hj421 _ rfl) ?_
                  refine r_pure (.int .i64 (rd rates i270)) rfl ?_
                  refine r_nil ?_
                  refine n_cut ⟨(rd rates i270), upk (ac rfl (ac rfl (ac rfl (ac rfl (ac rfl (ac rfl (ac rfl (ac rfl an)))))))), H400.u3.u3.u3.u3, hm⟩
                · refine st_condf hb418 rfl ?_
                  refine st_skip ?_
                  refine n_cut ⟨7, upk (ac rfl (ac rfl (ac rfl (ac rfl (ac rfl (ac rfl (ac rfl (ac rfl an)))))))), H400.u3.u3.u3.u3, hm⟩
              · rintro ρ w ⟨v402, ⟨base, rfl⟩, H403, hm⟩
                unfold scutagelaw24_CrossPlays.j6 at hm
                refine st_region ?_
                refine r_pure (.slice A262 xs265.length c264) rfl ?_
                refine r_pure (.int .i64 v402) rfl ?_
                obtain ⟨y404, hy405, hm⟩ := bind_some hm
                refine r_callf Try.call14 (scutageplay_Rate_ok v402 y404 H403 hy405) ?_
                rintro e407 wd406 ⟨rfl, H409⟩
                refine ⟨_, rfl, ?_⟩
                refine r_buildSlice (K := K3) [y404] EL41 rfl rfl rfl (by decide) (by decide) rfl H409 ?_
                intro b410 wd412 H411
                obtain ⟨hf413, hm⟩ := gd_some hm
                refine r_append (K := K3) (ys := [y404]) AP41 rfl rfl rfl rfl H411.u4 (((H411.u4).g1).src) (fit_le hf413 (by decide)) ?_
                intro A414 c415 wd416 H417
                refine r_pure (.slice A414 ((xs265 ++ [y404]).length) c415) rfl ?_
                refine r_nil ?_
                refine n_bl ?_
                refine n_sq ?_
                refine st_region ?_
                refine r_pure (.int .i64 (w64 (i270 + 1))) rfl ?_
                refine r_pure (.int .i64 (w64 (i270 + 1))) rfl ?_
                refine r_nil ?_
                refine n_round (IH278 _ _ rfl _ _ _ ⟨i270 + 1, xs265 ++ [y404], dn271 ++ [y275], A414, (xs265 ++ [y404]).length, c415, rfl, range_more hxs272, range_len hi273, upk (ac rfl (ac rfl (ac rfl (ac rfl (ac rfl (ac rfl (ac hnx284 an))))))), H417.u1.d.u3.u3.u3⟩ hm)


end Go.Proofs.Ytfhekejaobmacaa
