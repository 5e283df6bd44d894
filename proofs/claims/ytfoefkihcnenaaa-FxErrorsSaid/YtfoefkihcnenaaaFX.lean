/- The Go functions come to their models: printed by gen.py. -/
import Derived.Test.YtfoefkihcnenaaaFX0
set_option linter.unusedVariables false
set_option linter.unusedSimpArgs false
set_option maxRecDepth 100000
namespace Go.Proofs.Ytfoefkihcnenaaa
open Go Go.RowKit
attribute [local irreducible] W R N L Hp Row SlR Bx

set_option maxHeartbeats 2000000 in
theorem scutagelaw25_FxErrors_ok {w0 w : World} {Γ : List (World → Prop)} (n_ : Int) (r0_ : Bool) (H : Hp w0 (Γ) w) (hm : scutagelaw25_FxErrors n_ = some r0_) : Calls Try.prog 3 #[.int .i64 n_] w (fun e w => e = .returned (.bool r0_) ∧ Hp w0 (Γ) w) := by
  unfold scutagelaw25_FxErrors at hm
  refine st_enter Try.func3 rfl Try.ntmps3 (Nat.le_of_ble_eq_true rfl) ?_
  refine st_seq ?_
  refine st_region ?_
  refine r_pure (.bool false) rfl ?_
  refine r_seq ?_
  refine st_seq ?_
  refine st_region ?_
  refine r_pure (.int .i64 n_) rfl ?_
  obtain ⟨y1, hy2, hm⟩ := bind_some hm
  refine r_callf Try.call6 (scutagekeep_Within_ok n_ 1000 y1 H hy2) ?_
  rintro e5 wd4 ⟨rfl, H3⟩
  refine ⟨_, rfl, ?_⟩
  refine r_pure (.int .i64 (w64 (1 + y1))) rfl ?_
  refine r_pure (.int .i64 (w64 (1 + y1))) rfl ?_
  refine r_seq ?_
  refine st_seq ?_
  refine st_region ?_
  refine r_pure (.int .i64 (w64 (1 + y1))) rfl ?_
  refine r_build [.int .i64 1, .int .i64 (w64 (1 + y1))] FL24 rfl ?_
  refine r_buildSlice (K := K24) [(⟨1, w64 (1 + y1)⟩ : api_Item)] EL25 rfl rfl rfl (by decide) (by decide) rfl H3 ?_
  intro b6 wd8 H7
  refine r_pure (.slice (some ⟨b6, 0, none⟩) 1 1) rfl ?_
  refine r_seq ?_
  refine st_seq ?_
  refine st_seq ?_
  refine Flow.run' [[], [0], [], [], [3], [2, 3, 4], [], [6], [], [8], [], [10], [10, 11], [10, 11, 12], [10, 11, 12, 13], [], [], [16], [15, 16, 17], [15, 16, 17, 18], [], [], [21], [21, 22], [20, 21, 22, 23], [20, 21, 22, 23, 24], [], [], [27], [], [29], [29, 30], [26, 27, 28, 29, 30, 31], [26, 27, 28, 29, 30, 31, 32], [], [34], [], [0, 1, 2, 3, 4, 5, 6, 7, 8, 9, 10, 11, 12, 13, 14, 15, 16, 17, 18, 19, 20, 21, 22, 23, 24, 25, 26, 27, 28, 29, 30, 31, 32, 33, 34, 35, 36], [0, 1, 2, 3, 4, 5, 6, 7, 8, 9, 10, 11, 12, 13, 14, 15, 16, 17, 18, 19, 20, 21, 22, 23, 24, 25, 26, 27, 28, 29, 30, 31, 32, 33, 34, 35, 36, 37], []] [(15, 0), (16, 1), (17, 2), (18, 3), (19, 4), (20, 5), (21, 6), (22, 7), (23, 8), (24, 9), (25, 10), (26, 11), (27, 12), (28, 13), (29, 14), (30, 15), (31, 16), (32, 17), (33, 18), (34, 19), (35, 20), (36, 21), (37, 22), (38, 23), (39, 24), (40, 25), (41, 26), (42, 27), (43, 28), (44, 29), (45, 30), (46, 31), (47, 32), (48, 33), (49, 34), (50, 35), (51, 36), (52, 37), (53, 38), (54, 39)] [(fun η9 v => v = .slice (some ⟨b6, 0, none⟩) 1 1), (fun η9 v => v = .agg #[.slice (some ⟨b6, 0, none⟩) 1 1, .int .i64 0, .int .i64 1]), (fun η9 v => v = .slice (some ⟨b6, 0, none⟩) 1 1), (fun η9 v => v = .int .i64 (w64 (1 + y1))), (fun η9 v => v = .int .i64 (w64 (0 - w64 (1 + y1)))), (fun η9 v => v = .agg #[.slice (some ⟨b6, 0, none⟩) 1 1, .int .i64 (w64 (0 - w64 (1 + y1))), .int .i64 1]), (fun η9 v => v = .slice (some ⟨b6, 0, none⟩) 1 1), (fun η9 v => v = .agg #[.slice (some ⟨b6, 0, none⟩) 1 1, .int .i64 10000001, .int .i64 1]), (fun η9 v => v = .slice (some ⟨(oA (vA v)).block, 0, none⟩) 21 21), (fun η9 v => v = .agg #[.slice (some ⟨(oA (vA (η9 8))).block, 0, none⟩) 21 21, .int .i64 1, .int .i64 1]), (fun η9 v => v = .int .i64 (w64 (1 + y1))), (fun η9 v => v = .int .i64 (w64 (400000000000 + w64 (1 + y1)))), (fun η9 v => v = .agg #[.int .i64 0, .int .i64 (w64 (400000000000 + w64 (1 + y1)))]), (fun η9 v => v = .slice (some ⟨(oA (vA v)).block, 0, none⟩) 1 1), (fun η9 v => v = .agg #[.slice (some ⟨(oA (vA (η9 13))).block, 0, none⟩) 1 1, .int .i64 1, .int .i64 1]), (fun η9 v => v = .agg #[.int .i64 0, .int .i64 400000000000]), (fun η9 v => v = .int .i64 (w64 (1 + y1))), (fun η9 v => v = .agg #[.int .i64 0, .int .i64 (w64 (1 + y1))]), (fun η9 v => v = .slice (some ⟨(oA (vA v)).block, 0, none⟩) 2 2), (fun η9 v => v = .agg #[.slice (some ⟨(oA (vA (η9 18))).block, 0, none⟩) 2 2, .int .i64 1, .int .i64 1]), (fun η9 v => v = .agg #[.int .i64 0, .int .i64 (-400000000000)]), (fun η9 v => v = .int .i64 (w64 (1 + y1))), (fun η9 v => v = .int .i64 (w64 (0 - w64 (1 + y1)))), (fun η9 v => v = .agg #[.int .i64 0, .int .i64 (w64 (0 - w64 (1 + y1)))]), (fun η9 v => v = .slice (some ⟨(oA (vA v)).block, 0, none⟩) 2 2), (fun η9 v => v = .agg #[.slice (some ⟨(oA (vA (η9 24))).block, 0, none⟩) 2 2, .int .i64 1, .int .i64 1]), (fun η9 v => v = .agg #[.int .i64 0, .int .i64 400000000000]), (fun η9 v => v = .int .i64 (w64 (1 + y1))), (fun η9 v => v = .agg #[.int .i64 0, .int .i64 (w64 (1 + y1))]), (fun η9 v => v = .int .i64 (w64 (1 + y1))), (fun η9 v => v = .int .i64 (w64 (0 - w64 (1 + y1)))), (fun η9 v => v = .agg #[.int .i64 0, .int .i64 (w64 (0 - w64 (1 + y1)))]), (fun η9 v => v = .slice (some ⟨(oA (vA v)).block, 0, none⟩) 3 3), (fun η9 v => v = .agg #[.slice (some ⟨(oA (vA (η9 32))).block, 0, none⟩) 3 3, .int .i64 10000000, .int .i64 0]), (fun η9 v => v = .slice (some ⟨(oA (vA v)).block, 0, none⟩) 20 20), (fun η9 v => v = .agg #[.slice (some ⟨(oA (vA (η9 34))).block, 0, none⟩) 20 20, .int .i64 1, .int .i64 0]), (fun η9 v => v = .agg #[.slice none 0 0, .int .i64 5, .int .i64 0]), (fun η9 v => v = .slice (some ⟨(oA (vA v)).block, 0, none⟩) 10 10), (fun η9 v => v = .int .i64 10), (fun η9 v => v = .int .i64 0)] [⟨(some 8), none, fun η9 => Row K24 (.slice (some ⟨(oA (vA (η9 8))).block, 0, none⟩) 21 21) (List.replicate 21 (⟨0, 0⟩ : api_Item))⟩, ⟨(some 13), none, fun η9 => Row K24 (.slice (some ⟨(oA (vA (η9 13))).block, 0, none⟩) 1 1) [(⟨0, w64 (400000000000 + w64 (1 + y1))⟩ : api_Item)]⟩, ⟨(some 18), none, fun η9 => Row K24 (.slice (some ⟨(oA (vA (η9 18))).block, 0, none⟩) 2 2) [(⟨0, 400000000000⟩ : api_Item), (⟨0, w64 (1 + y1)⟩ : api_Item)]⟩, ⟨(some 24), none, fun η9 => Row K24 (.slice (some ⟨(oA (vA (η9 24))).block, 0, none⟩) 2 2) [(⟨0, (-400000000000)⟩ : api_Item), (⟨0, w64 (0 - w64 (1 + y1))⟩ : api_Item)]⟩, ⟨(some 32), none, fun η9 => Row K24 (.slice (some ⟨(oA (vA (η9 32))).block, 0, none⟩) 3 3) [(⟨0, 400000000000⟩ : api_Item), (⟨0, w64 (1 + y1)⟩ : api_Item), (⟨0, w64 (0 - w64 (1 + y1))⟩ : api_Item)]⟩, ⟨(some 34), none, fun η9 => Row K24 (.slice (some ⟨(oA (vA (η9 34))).block, 0, none⟩) 20 20) (List.replicate 20 (⟨0, 0⟩ : api_Item))⟩, ⟨(some 37), none, fun η9 => Row (Kr 27 3 (by decide)) (.slice (some ⟨(oA (vA (η9 37))).block, 0, none⟩) 10 10) [(⟨[.slice (some ⟨b6, 0, none⟩) 1 1, .int .i64 0, .int .i64 1], rfl, rfl⟩ : Raw 3), (⟨[.slice (some ⟨b6, 0, none⟩) 1 1, .int .i64 (w64 (0 - w64 (1 + y1))), .int .i64 1], rfl, rfl⟩ : Raw 3), (⟨[.slice (some ⟨b6, 0, none⟩) 1 1, .int .i64 10000001, .int .i64 1], rfl, rfl⟩ : Raw 3), (⟨[.slice (some ⟨(oA (vA (η9 8))).block, 0, none⟩) 21 21, .int .i64 1, .int .i64 1], rfl, rfl⟩ : Raw 3), (⟨[.slice (some ⟨(oA (vA (η9 13))).block, 0, none⟩) 1 1, .int .i64 1, .int .i64 1], rfl, rfl⟩ : Raw 3), (⟨[.slice (some ⟨(oA (vA (η9 18))).block, 0, none⟩) 2 2, .int .i64 1, .int .i64 1], rfl, rfl⟩ : Raw 3), (⟨[.slice (some ⟨(oA (vA (η9 24))).block, 0, none⟩) 2 2, .int .i64 1, .int .i64 1], rfl, rfl⟩ : Raw 3), (⟨[.slice (some ⟨(oA (vA (η9 32))).block, 0, none⟩) 3 3, .int .i64 10000000, .int .i64 0], rfl, rfl⟩ : Raw 3), (⟨[.slice (some ⟨(oA (vA (η9 34))).block, 0, none⟩) 20 20, .int .i64 1, .int .i64 0], rfl, rfl⟩ : Raw 3), (⟨[.slice none 0 0, .int .i64 5, .int .i64 0], rfl, rfl⟩ : Raw 3)]⟩] rfl (by kernel_rfl) (by kernel_rfl) H7 ⟨?_, ?_, ?_, ?_, ?_, ?_, ?_, ?_, ?_, ?_, ?_, ?_, ?_, ?_, ?_, ?_, ?_, ?_, ?_, ?_, ?_, ?_, ?_, ?_, ?_, ?_, ?_, ?_, ?_, ?_, ?_, ?_, ?_, ?_, ?_, ?_, ?_, ?_, ?_, ?_, trivial⟩ ?_
  · intro η9 wd34 Δ35 hE31 hR32 H33
    have H33 : Hp w0 ((Δ35 ++ (Row K24 (.slice (some ⟨b6, 0, none⟩) 1 1) [(⟨1, w64 (1 + y1)⟩ : api_Item)] :: Γ))) wd34 := H33
    refine sp_op [(3, .slice (some ⟨b6, 0, none⟩) 1 1)] (ac rfl an) ?_
    refine r_pure (.slice (some ⟨b6, 0, none⟩) 1 1) rfl ?_
    exact r_nil (n_lp ⟨_, rfl, rfl, H33⟩)
  · intro η9 wd39 Δ40 hE36 hR37 H38
    have H38 : Hp w0 ((Δ40 ++ (Row K24 (.slice (some ⟨b6, 0, none⟩) 1 1) [(⟨1, w64 (1 + y1)⟩ : api_Item)] :: Γ))) wd39 := H38
    refine sp_op [(15, .slice (some ⟨b6, 0, none⟩) 1 1)] (ac (hE36 0 (by decide)) an) ?_
    refine r_build [.slice (some ⟨b6, 0, none⟩) 1 1, .int .i64 0, .int .i64 1] FL27 rfl ?_
    exact r_nil (n_lp ⟨_, rfl, rfl, H38⟩)
  · intro η9 wd44 Δ45 hE41 hR42 H43
    have H43 : Hp w0 ((Δ45 ++ (Row K24 (.slice (some ⟨b6, 0, none⟩) 1 1) [(⟨1, w64 (1 + y1)⟩ : api_Item)] :: Γ))) wd44 := H43
    refine sp_op [(3, .slice (some ⟨b6, 0, none⟩) 1 1)] (ac rfl an) ?_
    refine r_pure (.slice (some ⟨b6, 0, none⟩) 1 1) rfl ?_
    exact r_nil (n_lp ⟨_, rfl, rfl, H43⟩)
  · intro η9 wd49 Δ50 hE46 hR47 H48
    have H48 : Hp w0 ((Δ50 ++ (Row K24 (.slice (some ⟨b6, 0, none⟩) 1 1) [(⟨1, w64 (1 + y1)⟩ : api_Item)] :: Γ))) wd49 := H48
    refine sp_op [(0, .int .i64 (w64 (1 + y1)))] (ac rfl an) ?_
    refine r_pure (.int .i64 (w64 (1 + y1))) rfl ?_
    exact r_nil (n_lp ⟨_, rfl, rfl, H48⟩)
  · intro η9 wd54 Δ55 hE51 hR52 H53
    have H53 : Hp w0 ((Δ55 ++ (Row K24 (.slice (some ⟨b6, 0, none⟩) 1 1) [(⟨1, w64 (1 + y1)⟩ : api_Item)] :: Γ))) wd54 := H53
    refine sp_op [(18, .int .i64 (w64 (1 + y1)))] (ac (hE51 3 (by decide)) an) ?_
    refine r_pure (.int .i64 (w64 (0 - w64 (1 + y1)))) rfl ?_
    exact r_nil (n_lp ⟨_, rfl, rfl, H53⟩)
  · intro η9 wd59 Δ60 hE56 hR57 H58
    have H58 : Hp w0 ((Δ60 ++ (Row K24 (.slice (some ⟨b6, 0, none⟩) 1 1) [(⟨1, w64 (1 + y1)⟩ : api_Item)] :: Γ))) wd59 := H58
    refine sp_op [(17, .slice (some ⟨b6, 0, none⟩) 1 1), (19, .int .i64 (w64 (0 - w64 (1 + y1))))] (ac (hE56 2 (by decide)) (ac (hE56 4 (by decide)) an)) ?_
    refine r_build [.slice (some ⟨b6, 0, none⟩) 1 1, .int .i64 (w64 (0 - w64 (1 + y1))), .int .i64 1] FL27 rfl ?_
    exact r_nil (n_lp ⟨_, rfl, rfl, H58⟩)
  · intro η9 wd64 Δ65 hE61 hR62 H63
    have H63 : Hp w0 ((Δ65 ++ (Row K24 (.slice (some ⟨b6, 0, none⟩) 1 1) [(⟨1, w64 (1 + y1)⟩ : api_Item)] :: Γ))) wd64 := H63
    refine sp_op [(3, .slice (some ⟨b6, 0, none⟩) 1 1)] (ac rfl an) ?_
    refine r_pure (.slice (some ⟨b6, 0, none⟩) 1 1) rfl ?_
    exact r_nil (n_lp ⟨_, rfl, rfl, H63⟩)
  · intro η9 wd69 Δ70 hE66 hR67 H68
    have H68 : Hp w0 ((Δ70 ++ (Row K24 (.slice (some ⟨b6, 0, none⟩) 1 1) [(⟨1, w64 (1 + y1)⟩ : api_Item)] :: Γ))) wd69 := H68
    refine sp_op [(21, .slice (some ⟨b6, 0, none⟩) 1 1)] (ac (hE66 6 (by decide)) an) ?_
    refine r_build [.slice (some ⟨b6, 0, none⟩) 1 1, .int .i64 10000001, .int .i64 1] FL27 rfl ?_
    exact r_nil (n_lp ⟨_, rfl, rfl, H68⟩)
  · intro η9 wd74 Δ75 hE71 hR72 H73
    have H73 : Hp w0 ((Δ75 ++ (Row K24 (.slice (some ⟨b6, 0, none⟩) 1 1) [(⟨1, w64 (1 + y1)⟩ : api_Item)] :: Γ))) wd74 := H73
    refine sp_op [] an ?_
    refine r_makeS (K := K24) (i := 21) (zc := (⟨0, 0⟩ : api_Item)) AP25 rfl rfl ZV24 rfl rfl (by decide) H73 ?_
    intro b76 wd78 H77
    exact r_nil (n_lp ⟨_, rfl, rfl, H77⟩)
  · intro η9 wd82 Δ83 hE79 hR80 H81
    have H81 : Hp w0 ((Δ83 ++ (Row K24 (.slice (some ⟨b6, 0, none⟩) 1 1) [(⟨1, w64 (1 + y1)⟩ : api_Item)] :: Γ))) wd82 := H81
    refine sp_op [(23, .slice (some ⟨(oA (vA (η9 8))).block, 0, none⟩) 21 21)] (ac (hE79 8 (by decide)) an) ?_
    refine r_build [.slice (some ⟨(oA (vA (η9 8))).block, 0, none⟩) 21 21, .int .i64 1, .int .i64 1] FL27 rfl ?_
    exact r_nil (n_lp ⟨_, rfl, rfl, H81⟩)
  · intro η9 wd87 Δ88 hE84 hR85 H86
    have H86 : Hp w0 ((Δ88 ++ (Row K24 (.slice (some ⟨b6, 0, none⟩) 1 1) [(⟨1, w64 (1 + y1)⟩ : api_Item)] :: Γ))) wd87 := H86
    refine sp_op [(0, .int .i64 (w64 (1 + y1)))] (ac rfl an) ?_
    refine r_pure (.int .i64 (w64 (1 + y1))) rfl ?_
    exact r_nil (n_lp ⟨_, rfl, rfl, H86⟩)
  · intro η9 wd92 Δ93 hE89 hR90 H91
    have H91 : Hp w0 ((Δ93 ++ (Row K24 (.slice (some ⟨b6, 0, none⟩) 1 1) [(⟨1, w64 (1 + y1)⟩ : api_Item)] :: Γ))) wd92 := H91
    refine sp_op [(25, .int .i64 (w64 (1 + y1)))] (ac (hE89 10 (by decide)) an) ?_
    refine r_pure (.int .i64 (w64 (400000000000 + w64 (1 + y1)))) rfl ?_
    exact r_nil (n_lp ⟨_, rfl, rfl, H91⟩)
  · intro η9 wd97 Δ98 hE94 hR95 H96
    have H96 : Hp w0 ((Δ98 ++ (Row K24 (.slice (some ⟨b6, 0, none⟩) 1 1) [(⟨1, w64 (1 + y1)⟩ : api_Item)] :: Γ))) wd97 := H96
    refine sp_op [(26, .int .i64 (w64 (400000000000 + w64 (1 + y1))))] (ac (hE94 11 (by decide)) an) ?_
    refine r_build [.int .i64 0, .int .i64 (w64 (400000000000 + w64 (1 + y1)))] FL24 rfl ?_
    exact r_nil (n_lp ⟨_, rfl, rfl, H96⟩)
  · intro η9 wd102 Δ103 hE99 hR100 H101
    have H101 : Hp w0 ((Δ103 ++ (Row K24 (.slice (some ⟨b6, 0, none⟩) 1 1) [(⟨1, w64 (1 + y1)⟩ : api_Item)] :: Γ))) wd102 := H101
    refine sp_op [(27, .agg #[.int .i64 0, .int .i64 (w64 (400000000000 + w64 (1 + y1)))])] (ac (hE99 12 (by decide)) an) ?_
    refine r_buildSlice (K := K24) [(⟨0, w64 (400000000000 + w64 (1 + y1))⟩ : api_Item)] EL25 rfl rfl rfl (by decide) (by decide) rfl H101 ?_
    intro b104 wd106 H105
    exact r_nil (n_lp ⟨_, rfl, rfl, H105⟩)
  · intro η9 wd110 Δ111 hE107 hR108 H109
    have H109 : Hp w0 ((Δ111 ++ (Row K24 (.slice (some ⟨b6, 0, none⟩) 1 1) [(⟨1, w64 (1 + y1)⟩ : api_Item)] :: Γ))) wd110 := H109
    refine sp_op [(28, .slice (some ⟨(oA (vA (η9 13))).block, 0, none⟩) 1 1)] (ac (hE107 13 (by decide)) an) ?_
    refine r_build [.slice (some ⟨(oA (vA (η9 13))).block, 0, none⟩) 1 1, .int .i64 1, .int .i64 1] FL27 rfl ?_
    exact r_nil (n_lp ⟨_, rfl, rfl, H109⟩)
  · intro η9 wd115 Δ116 hE112 hR113 H114
    have H114 : Hp w0 ((Δ116 ++ (Row K24 (.slice (some ⟨b6, 0, none⟩) 1 1) [(⟨1, w64 (1 + y1)⟩ : api_Item)] :: Γ))) wd115 := H114
    refine sp_op [] an ?_
    refine r_build [.int .i64 0, .int .i64 400000000000] FL24 rfl ?_
    exact r_nil (n_lp ⟨_, rfl, rfl, H114⟩)
  · intro η9 wd120 Δ121 hE117 hR118 H119
    have H119 : Hp w0 ((Δ121 ++ (Row K24 (.slice (some ⟨b6, 0, none⟩) 1 1) [(⟨1, w64 (1 + y1)⟩ : api_Item)] :: Γ))) wd120 := H119
    refine sp_op [(0, .int .i64 (w64 (1 + y1)))] (ac rfl an) ?_
    refine r_pure (.int .i64 (w64 (1 + y1))) rfl ?_
    exact r_nil (n_lp ⟨_, rfl, rfl, H119⟩)
  · intro η9 wd125 Δ126 hE122 hR123 H124
    have H124 : Hp w0 ((Δ126 ++ (Row K24 (.slice (some ⟨b6, 0, none⟩) 1 1) [(⟨1, w64 (1 + y1)⟩ : api_Item)] :: Γ))) wd125 := H124
    refine sp_op [(31, .int .i64 (w64 (1 + y1)))] (ac (hE122 16 (by decide)) an) ?_
    refine r_build [.int .i64 0, .int .i64 (w64 (1 + y1))] FL24 rfl ?_
    exact r_nil (n_lp ⟨_, rfl, rfl, H124⟩)
  · intro η9 wd130 Δ131 hE127 hR128 H129
    have H129 : Hp w0 ((Δ131 ++ (Row K24 (.slice (some ⟨b6, 0, none⟩) 1 1) [(⟨1, w64 (1 + y1)⟩ : api_Item)] :: Γ))) wd130 := H129
    refine sp_op [(30, .agg #[.int .i64 0, .int .i64 400000000000]), (32, .agg #[.int .i64 0, .int .i64 (w64 (1 + y1))])] (ac (hE127 15 (by decide)) (ac (hE127 17 (by decide)) an)) ?_
    refine r_buildSlice (K := K24) [(⟨0, 400000000000⟩ : api_Item), (⟨0, w64 (1 + y1)⟩ : api_Item)] EL25 rfl rfl rfl (by decide) (by decide) rfl H129 ?_
    intro b132 wd134 H133
    exact r_nil (n_lp ⟨_, rfl, rfl, H133⟩)
  · intro η9 wd138 Δ139 hE135 hR136 H137
    have H137 : Hp w0 ((Δ139 ++ (Row K24 (.slice (some ⟨b6, 0, none⟩) 1 1) [(⟨1, w64 (1 + y1)⟩ : api_Item)] :: Γ))) wd138 := H137
    refine sp_op [(33, .slice (some ⟨(oA (vA (η9 18))).block, 0, none⟩) 2 2)] (ac (hE135 18 (by decide)) an) ?_
    refine r_build [.slice (some ⟨(oA (vA (η9 18))).block, 0, none⟩) 2 2, .int .i64 1, .int .i64 1] FL27 rfl ?_
    exact r_nil (n_lp ⟨_, rfl, rfl, H137⟩)
  · intro η9 wd143 Δ144 hE140 hR141 H142
    have H142 : Hp w0 ((Δ144 ++ (Row K24 (.slice (some ⟨b6, 0, none⟩) 1 1) [(⟨1, w64 (1 + y1)⟩ : api_Item)] :: Γ))) wd143 := H142
    refine sp_op [] an ?_
    refine r_build [.int .i64 0, .int .i64 (-400000000000)] FL24 rfl ?_
    exact r_nil (n_lp ⟨_, rfl, rfl, H142⟩)
  · intro η9 wd148 Δ149 hE145 hR146 H147
    have H147 : Hp w0 ((Δ149 ++ (Row K24 (.slice (some ⟨b6, 0, none⟩) 1 1) [(⟨1, w64 (1 + y1)⟩ : api_Item)] :: Γ))) wd148 := H147
    refine sp_op [(0, .int .i64 (w64 (1 + y1)))] (ac rfl an) ?_
    refine r_pure (.int .i64 (w64 (1 + y1))) rfl ?_
    exact r_nil (n_lp ⟨_, rfl, rfl, H147⟩)
  · intro η9 wd153 Δ154 hE150 hR151 H152
    have H152 : Hp w0 ((Δ154 ++ (Row K24 (.slice (some ⟨b6, 0, none⟩) 1 1) [(⟨1, w64 (1 + y1)⟩ : api_Item)] :: Γ))) wd153 := H152
    refine sp_op [(36, .int .i64 (w64 (1 + y1)))] (ac (hE150 21 (by decide)) an) ?_
    refine r_pure (.int .i64 (w64 (0 - w64 (1 + y1)))) rfl ?_
    exact r_nil (n_lp ⟨_, rfl, rfl, H152⟩)
  · intro η9 wd158 Δ159 hE155 hR156 H157
    have H157 : Hp w0 ((Δ159 ++ (Row K24 (.slice (some ⟨b6, 0, none⟩) 1 1) [(⟨1, w64 (1 + y1)⟩ : api_Item)] :: Γ))) wd158 := H157
    refine sp_op [(37, .int .i64 (w64 (0 - w64 (1 + y1))))] (ac (hE155 22 (by decide)) an) ?_
    refine r_build [.int .i64 0, .int .i64 (w64 (0 - w64 (1 + y1)))] FL24 rfl ?_
    exact r_nil (n_lp ⟨_, rfl, rfl, H157⟩)
  · intro η9 wd163 Δ164 hE160 hR161 H162
    have H162 : Hp w0 ((Δ164 ++ (Row K24 (.slice (some ⟨b6, 0, none⟩) 1 1) [(⟨1, w64 (1 + y1)⟩ : api_Item)] :: Γ))) wd163 := H162
    refine sp_op [(35, .agg #[.int .i64 0, .int .i64 (-400000000000)]), (38, .agg #[.int .i64 0, .int .i64 (w64 (0 - w64 (1 + y1)))])] (ac (hE160 20 (by decide)) (ac (hE160 23 (by decide)) an)) ?_
    refine r_buildSlice (K := K24) [(⟨0, (-400000000000)⟩ : api_Item), (⟨0, w64 (0 - w64 (1 + y1))⟩ : api_Item)] EL25 rfl rfl rfl (by decide) (by decide) rfl H162 ?_
    intro b165 wd167 H166
    exact r_nil (n_lp ⟨_, rfl, rfl, H166⟩)
  · intro η9 wd171 Δ172 hE168 hR169 H170
    have H170 : Hp w0 ((Δ172 ++ (Row K24 (.slice (some ⟨b6, 0, none⟩) 1 1) [(⟨1, w64 (1 + y1)⟩ : api_Item)] :: Γ))) wd171 := H170
    refine sp_op [(39, .slice (some ⟨(oA (vA (η9 24))).block, 0, none⟩) 2 2)] (ac (hE168 24 (by decide)) an) ?_
    refine r_build [.slice (some ⟨(oA (vA (η9 24))).block, 0, none⟩) 2 2, .int .i64 1, .int .i64 1] FL27 rfl ?_
    exact r_nil (n_lp ⟨_, rfl, rfl, H170⟩)
  · intro η9 wd176 Δ177 hE173 hR174 H175
    have H175 : Hp w0 ((Δ177 ++ (Row K24 (.slice (some ⟨b6, 0, none⟩) 1 1) [(⟨1, w64 (1 + y1)⟩ : api_Item)] :: Γ))) wd176 := H175
    refine sp_op [] an ?_
    refine r_build [.int .i64 0, .int .i64 400000000000] FL24 rfl ?_
    exact r_nil (n_lp ⟨_, rfl, rfl, H175⟩)
  · intro η9 wd181 Δ182 hE178 hR179 H180
    have H180 : Hp w0 ((Δ182 ++ (Row K24 (.slice (some ⟨b6, 0, none⟩) 1 1) [(⟨1, w64 (1 + y1)⟩ : api_Item)] :: Γ))) wd181 := H180
    refine sp_op [(0, .int .i64 (w64 (1 + y1)))] (ac rfl an) ?_
    refine r_pure (.int .i64 (w64 (1 + y1))) rfl ?_
    exact r_nil (n_lp ⟨_, rfl, rfl, H180⟩)
  · intro η9 wd186 Δ187 hE183 hR184 H185
    have H185 : Hp w0 ((Δ187 ++ (Row K24 (.slice (some ⟨b6, 0, none⟩) 1 1) [(⟨1, w64 (1 + y1)⟩ : api_Item)] :: Γ))) wd186 := H185
    refine sp_op [(42, .int .i64 (w64 (1 + y1)))] (ac (hE183 27 (by decide)) an) ?_
    refine r_build [.int .i64 0, .int .i64 (w64 (1 + y1))] FL24 rfl ?_
    exact r_nil (n_lp ⟨_, rfl, rfl, H185⟩)
  · intro η9 wd191 Δ192 hE188 hR189 H190
    have H190 : Hp w0 ((Δ192 ++ (Row K24 (.slice (some ⟨b6, 0, none⟩) 1 1) [(⟨1, w64 (1 + y1)⟩ : api_Item)] :: Γ))) wd191 := H190
    refine sp_op [(0, .int .i64 (w64 (1 + y1)))] (ac rfl an) ?_
    refine r_pure (.int .i64 (w64 (1 + y1))) rfl ?_
    exact r_nil (n_lp ⟨_, rfl, rfl, H190⟩)
  · intro η9 wd196 Δ197 hE193 hR194 H195
    have H195 : Hp w0 ((Δ197 ++ (Row K24 (.slice (some ⟨b6, 0, none⟩) 1 1) [(⟨1, w64 (1 + y1)⟩ : api_Item)] :: Γ))) wd196 := H195
    refine sp_op [(44, .int .i64 (w64 (1 + y1)))] (ac (hE193 29 (by decide)) an) ?_
    refine r_pure (.int .i64 (w64 (0 - w64 (1 + y1)))) rfl ?_
    exact r_nil (n_lp ⟨_, rfl, rfl, H195⟩)
  · intro η9 wd201 Δ202 hE198 hR199 H200
    have H200 : Hp w0 ((Δ202 ++ (Row K24 (.slice (some ⟨b6, 0, none⟩) 1 1) [(⟨1, w64 (1 + y1)⟩ : api_Item)] :: Γ))) wd201 := H200
    refine sp_op [(45, .int .i64 (w64 (0 - w64 (1 + y1))))] (ac (hE198 30 (by decide)) an) ?_
    refine r_build [.int .i64 0, .int .i64 (w64 (0 - w64 (1 + y1)))] FL24 rfl ?_
    exact r_nil (n_lp ⟨_, rfl, rfl, H200⟩)
  · intro η9 wd206 Δ207 hE203 hR204 H205
    have H205 : Hp w0 ((Δ207 ++ (Row K24 (.slice (some ⟨b6, 0, none⟩) 1 1) [(⟨1, w64 (1 + y1)⟩ : api_Item)] :: Γ))) wd206 := H205
    refine sp_op [(41, .agg #[.int .i64 0, .int .i64 400000000000]), (43, .agg #[.int .i64 0, .int .i64 (w64 (1 + y1))]), (46, .agg #[.int .i64 0, .int .i64 (w64 (0 - w64 (1 + y1)))])] (ac (hE203 26 (by decide)) (ac (hE203 28 (by decide)) (ac (hE203 31 (by decide)) an))) ?_
    refine r_buildSliceF (K := K24) [(⟨0, 400000000000⟩ : api_Item), (⟨0, w64 (1 + y1)⟩ : api_Item), (⟨0, w64 (0 - w64 (1 + y1))⟩ : api_Item)] EL25 rfl rfl rfl (by decide) (by decide) ⟨rfl, rfl, ⟨rfl, rfl, ⟨rfl, rfl, trivial⟩⟩⟩ H205 ?_
    intro b208 wd210 H209
    exact r_nil (n_lp ⟨_, rfl, rfl, H209⟩)
  · intro η9 wd214 Δ215 hE211 hR212 H213
    have H213 : Hp w0 ((Δ215 ++ (Row K24 (.slice (some ⟨b6, 0, none⟩) 1 1) [(⟨1, w64 (1 + y1)⟩ : api_Item)] :: Γ))) wd214 := H213
    refine sp_op [(47, .slice (some ⟨(oA (vA (η9 32))).block, 0, none⟩) 3 3)] (ac (hE211 32 (by decide)) an) ?_
    refine r_build [.slice (some ⟨(oA (vA (η9 32))).block, 0, none⟩) 3 3, .int .i64 10000000, .int .i64 0] FL27 rfl ?_
    exact r_nil (n_lp ⟨_, rfl, rfl, H213⟩)
  · intro η9 wd219 Δ220 hE216 hR217 H218
    have H218 : Hp w0 ((Δ220 ++ (Row K24 (.slice (some ⟨b6, 0, none⟩) 1 1) [(⟨1, w64 (1 + y1)⟩ : api_Item)] :: Γ))) wd219 := H218
    refine sp_op [] an ?_
    refine r_makeS (K := K24) (i := 20) (zc := (⟨0, 0⟩ : api_Item)) AP25 rfl rfl ZV24 rfl rfl (by decide) H218 ?_
    intro b221 wd223 H222
    exact r_nil (n_lp ⟨_, rfl, rfl, H222⟩)
  · intro η9 wd227 Δ228 hE224 hR225 H226
    have H226 : Hp w0 ((Δ228 ++ (Row K24 (.slice (some ⟨b6, 0, none⟩) 1 1) [(⟨1, w64 (1 + y1)⟩ : api_Item)] :: Γ))) wd227 := H226
    refine sp_op [(49, .slice (some ⟨(oA (vA (η9 34))).block, 0, none⟩) 20 20)] (ac (hE224 34 (by decide)) an) ?_
    refine r_build [.slice (some ⟨(oA (vA (η9 34))).block, 0, none⟩) 20 20, .int .i64 1, .int .i64 0] FL27 rfl ?_
    exact r_nil (n_lp ⟨_, rfl, rfl, H226⟩)
  · intro η9 wd232 Δ233 hE229 hR230 H231
    have H231 : Hp w0 ((Δ233 ++ (Row K24 (.slice (some ⟨b6, 0, none⟩) 1 1) [(⟨1, w64 (1 + y1)⟩ : api_Item)] :: Γ))) wd232 := H231
    refine sp_op [] an ?_
    refine r_build [.slice none 0 0, .int .i64 5, .int .i64 0] FL27 rfl ?_
    exact r_nil (n_lp ⟨_, rfl, rfl, H231⟩)
  · intro η9 wd237 Δ238 hE234 hR235 H236
    have H236 : Hp w0 ((Δ238 ++ (Row K24 (.slice (some ⟨b6, 0, none⟩) 1 1) [(⟨1, w64 (1 + y1)⟩ : api_Item)] :: Γ))) wd237 := H236
    refine sp_op [(16, .agg #[.slice (some ⟨b6, 0, none⟩) 1 1, .int .i64 0, .int .i64 1]), (20, .agg #[.slice (some ⟨b6, 0, none⟩) 1 1, .int .i64 (w64 (0 - w64 (1 + y1))), .int .i64 1]), (22, .agg #[.slice (some ⟨b6, 0, none⟩) 1 1, .int .i64 10000001, .int .i64 1]), (24, .agg #[.slice (some ⟨(oA (vA (η9 8))).block, 0, none⟩) 21 21, .int .i64 1, .int .i64 1]), (29, .agg #[.slice (some ⟨(oA (vA (η9 13))).block, 0, none⟩) 1 1, .int .i64 1, .int .i64 1]), (34, .agg #[.slice (some ⟨(oA (vA (η9 18))).block, 0, none⟩) 2 2, .int .i64 1, .int .i64 1]), (40, .agg #[.slice (some ⟨(oA (vA (η9 24))).block, 0, none⟩) 2 2, .int .i64 1, .int .i64 1]), (48, .agg #[.slice (some ⟨(oA (vA (η9 32))).block, 0, none⟩) 3 3, .int .i64 10000000, .int .i64 0]), (50, .agg #[.slice (some ⟨(oA (vA (η9 34))).block, 0, none⟩) 20 20, .int .i64 1, .int .i64 0]), (51, .agg #[.slice none 0 0, .int .i64 5, .int .i64 0])] (ac (hE234 1 (by decide)) (ac (hE234 5 (by decide)) (ac (hE234 7 (by decide)) (ac (hE234 9 (by decide)) (ac (hE234 14 (by decide)) (ac (hE234 19 (by decide)) (ac (hE234 25 (by decide)) (ac (hE234 33 (by decide)) (ac (hE234 35 (by decide)) (ac (hE234 36 (by decide)) an)))))))))) ?_
    refine r_buildSliceF (K := (Kr 27 3 (by decide))) [(⟨[.slice (some ⟨b6, 0, none⟩) 1 1, .int .i64 0, .int .i64 1], rfl, rfl⟩ : Raw 3), (⟨[.slice (some ⟨b6, 0, none⟩) 1 1, .int .i64 (w64 (0 - w64 (1 + y1))), .int .i64 1], rfl, rfl⟩ : Raw 3), (⟨[.slice (some ⟨b6, 0, none⟩) 1 1, .int .i64 10000001, .int .i64 1], rfl, rfl⟩ : Raw 3), (⟨[.slice (some ⟨(oA (vA (η9 8))).block, 0, none⟩) 21 21, .int .i64 1, .int .i64 1], rfl, rfl⟩ : Raw 3), (⟨[.slice (some ⟨(oA (vA (η9 13))).block, 0, none⟩) 1 1, .int .i64 1, .int .i64 1], rfl, rfl⟩ : Raw 3), (⟨[.slice (some ⟨(oA (vA (η9 18))).block, 0, none⟩) 2 2, .int .i64 1, .int .i64 1], rfl, rfl⟩ : Raw 3), (⟨[.slice (some ⟨(oA (vA (η9 24))).block, 0, none⟩) 2 2, .int .i64 1, .int .i64 1], rfl, rfl⟩ : Raw 3), (⟨[.slice (some ⟨(oA (vA (η9 32))).block, 0, none⟩) 3 3, .int .i64 10000000, .int .i64 0], rfl, rfl⟩ : Raw 3), (⟨[.slice (some ⟨(oA (vA (η9 34))).block, 0, none⟩) 20 20, .int .i64 1, .int .i64 0], rfl, rfl⟩ : Raw 3), (⟨[.slice none 0 0, .int .i64 5, .int .i64 0], rfl, rfl⟩ : Raw 3)] EL28 rfl rfl rfl (by decide) (by decide) ⟨rfl, rfl, ⟨rfl, rfl, ⟨rfl, rfl, ⟨rfl, rfl, ⟨rfl, rfl, ⟨rfl, rfl, ⟨rfl, rfl, ⟨rfl, rfl, ⟨rfl, rfl, ⟨rfl, rfl, trivial⟩⟩⟩⟩⟩⟩⟩⟩⟩⟩ H236 ?_
    intro b239 wd241 H240
    exact r_nil (n_lp ⟨_, rfl, rfl, H240⟩)
  · intro η9 wd245 Δ246 hE242 hR243 H244
    have H244 : Hp w0 ((Δ246 ++ (Row K24 (.slice (some ⟨b6, 0, none⟩) 1 1) [(⟨1, w64 (1 + y1)⟩ : api_Item)] :: Γ))) wd245 := H244
    refine sp_op [(52, .slice (some ⟨(oA (vA (η9 37))).block, 0, none⟩) 10 10)] (ac (hE242 37 (by decide)) an) ?_
    refine r_len Try.underlying28 rfl ?_
    exact r_nil (n_lp ⟨_, rfl, rfl, H244⟩)
  · intro η9 wd250 Δ251 hE247 hR248 H249
    have H249 : Hp w0 ((Δ251 ++ (Row K24 (.slice (some ⟨b6, 0, none⟩) 1 1) [(⟨1, w64 (1 + y1)⟩ : api_Item)] :: Γ))) wd250 := H249
    refine sp_op [] an ?_
    refine r_pure (.int .i64 0) rfl ?_
    exact r_nil (n_lp ⟨_, rfl, rfl, H249⟩)
  · intro η9 wd253 hV254 H252
    have H255 : Hp w0 (Row K24 (.slice (some ⟨(oA (vA (η9 8))).block, 0, none⟩) 21 21) (List.replicate 21 (⟨0, 0⟩ : api_Item)) :: Row K24 (.slice (some ⟨(oA (vA (η9 13))).block, 0, none⟩) 1 1) [(⟨0, w64 (400000000000 + w64 (1 + y1))⟩ : api_Item)] :: Row K24 (.slice (some ⟨(oA (vA (η9 18))).block, 0, none⟩) 2 2) [(⟨0, 400000000000⟩ : api_Item), (⟨0, w64 (1 + y1)⟩ : api_Item)] :: Row K24 (.slice (some ⟨(oA (vA (η9 24))).block, 0, none⟩) 2 2) [(⟨0, (-400000000000)⟩ : api_Item), (⟨0, w64 (0 - w64 (1 + y1))⟩ : api_Item)] :: Row K24 (.slice (some ⟨(oA (vA (η9 32))).block, 0, none⟩) 3 3) [(⟨0, 400000000000⟩ : api_Item), (⟨0, w64 (1 + y1)⟩ : api_Item), (⟨0, w64 (0 - w64 (1 + y1))⟩ : api_Item)] :: Row K24 (.slice (some ⟨(oA (vA (η9 34))).block, 0, none⟩) 20 20) (List.replicate 20 (⟨0, 0⟩ : api_Item)) :: Row (Kr 27 3 (by decide)) (.slice (some ⟨(oA (vA (η9 37))).block, 0, none⟩) 10 10) [(⟨[.slice (some ⟨b6, 0, none⟩) 1 1, .int .i64 0, .int .i64 1], rfl, rfl⟩ : Raw 3), (⟨[.slice (some ⟨b6, 0, none⟩) 1 1, .int .i64 (w64 (0 - w64 (1 + y1))), .int .i64 1], rfl, rfl⟩ : Raw 3), (⟨[.slice (some ⟨b6, 0, none⟩) 1 1, .int .i64 10000001, .int .i64 1], rfl, rfl⟩ : Raw 3), (⟨[.slice (some ⟨(oA (vA (η9 8))).block, 0, none⟩) 21 21, .int .i64 1, .int .i64 1], rfl, rfl⟩ : Raw 3), (⟨[.slice (some ⟨(oA (vA (η9 13))).block, 0, none⟩) 1 1, .int .i64 1, .int .i64 1], rfl, rfl⟩ : Raw 3), (⟨[.slice (some ⟨(oA (vA (η9 18))).block, 0, none⟩) 2 2, .int .i64 1, .int .i64 1], rfl, rfl⟩ : Raw 3), (⟨[.slice (some ⟨(oA (vA (η9 24))).block, 0, none⟩) 2 2, .int .i64 1, .int .i64 1], rfl, rfl⟩ : Raw 3), (⟨[.slice (some ⟨(oA (vA (η9 32))).block, 0, none⟩) 3 3, .int .i64 10000000, .int .i64 0], rfl, rfl⟩ : Raw 3), (⟨[.slice (some ⟨(oA (vA (η9 34))).block, 0, none⟩) 20 20, .int .i64 1, .int .i64 0], rfl, rfl⟩ : Raw 3), (⟨[.slice none 0 0, .int .i64 5, .int .i64 0], rfl, rfl⟩ : Raw 3)] :: Row K24 (.slice (some ⟨b6, 0, none⟩) 1 1) [(⟨1, w64 (1 + y1)⟩ : api_Item)] :: Γ) wd253 := H252
    refine n_frame [(52, .slice (some ⟨(oA (vA (η9 37))).block, 0, none⟩) 10 10), (53, .int .i64 10), (54, .int .i64 0)] (ac (hV254 37 rfl) (ac (hV254 38 rfl) (ac (hV254 39 rfl) an))) ?_
    refine n_sq ?_
    refine st_block ?_
    refine st_loop 11 ?_
    refine l_round ?_
    refine st_seq ?_
    refine st_region ?_
    refine r_pure (.bool (decide (0 < 10))) rfl ?_
    refine r_seq ?_
    refine st_seq ?_
    refine st_condt (by decide) rfl ?_
    refine st_skip ?_
    refine n_sq ?_
    refine st_seq ?_
    refine st_block ?_
    refine st_seq ?_
    refine st_region ?_
    refine r_ix IX28 rfl rfl rfl (by decide) (by decide) ?_
    refine r_ldA [.slice (some ⟨b6, 0, none⟩) 1 1, .int .i64 0, .int .i64 1] LD27 rfl rfl ((H255.g6.rd).csA rfl (show ([(⟨[.slice (some ⟨b6, 0, none⟩) 1 1, .int .i64 0, .int .i64 1], rfl, rfl⟩ : Raw 3), (⟨[.slice (some ⟨b6, 0, none⟩) 1 1, .int .i64 (w64 (0 - w64 (1 + y1))), .int .i64 1], rfl, rfl⟩ : Raw 3), (⟨[.slice (some ⟨b6, 0, none⟩) 1 1, .int .i64 10000001, .int .i64 1], rfl, rfl⟩ : Raw 3), (⟨[.slice (some ⟨(oA (vA (η9 8))).block, 0, none⟩) 21 21, .int .i64 1, .int .i64 1], rfl, rfl⟩ : Raw 3), (⟨[.slice (some ⟨(oA (vA (η9 13))).block, 0, none⟩) 1 1, .int .i64 1, .int .i64 1], rfl, rfl⟩ : Raw 3), (⟨[.slice (some ⟨(oA (vA (η9 18))).block, 0, none⟩) 2 2, .int .i64 1, .int .i64 1], rfl, rfl⟩ : Raw 3), (⟨[.slice (some ⟨(oA (vA (η9 24))).block, 0, none⟩) 2 2, .int .i64 1, .int .i64 1], rfl, rfl⟩ : Raw 3), (⟨[.slice (some ⟨(oA (vA (η9 32))).block, 0, none⟩) 3 3, .int .i64 10000000, .int .i64 0], rfl, rfl⟩ : Raw 3), (⟨[.slice (some ⟨(oA (vA (η9 34))).block, 0, none⟩) 20 20, .int .i64 1, .int .i64 0], rfl, rfl⟩ : Raw 3), (⟨[.slice none 0 0, .int .i64 5, .int .i64 0], rfl, rfl⟩ : Raw 3)])[Int.toNat 0]? = some _ from rfl)) ?_
    refine r_alloc [.slice none 0 0, .int .i64 0, .int .i64 0] Try.zeroValue27 H255 rfl ?_
    intro b256 wd258 H257
    refine r_stA [.slice (some ⟨b6, 0, none⟩) 1 1, .int .i64 0, .int .i64 1] LD27 rfl rfl rfl rfl H257 (by decide) rfl ?_
    intro wd260 H259
    refine r_seq ?_
    refine st_seq ?_
    refine st_region ?_
    refine r_fa FA27_0 ⟨b256, 0, none⟩ rfl rfl ?_
    refine r_ld1 (.slice (some ⟨b6, 0, none⟩) 1 1) LD25 rfl ((H259.g0).cell _ rfl) ?_
    refine r_fa FA27_1 ⟨b256, 1, none⟩ rfl rfl ?_
    refine r_ld1 (.int .i64 0) LD3 rfl ((H259.g0).cell _ rfl) ?_
    obtain ⟨⟨y261, y262, y263⟩, hy264, hm⟩ := bind_some hm
    refine r_callf Try.call7 (fx_Convert_ok [(⟨1, w64 (1 + y1)⟩ : api_Item)] (some ⟨b6, 0, none⟩) 1 1 rfl (((H259).g8).cap) (fun _ H => (H.g8.rd)) 0 y261 y262 y263 H259 hy264) ?_
    rintro e270 wd269 ⟨A265, n266, c267, rfl, H268⟩
    obtain rfl := (H268.g0).leneq
    refine ⟨_, rfl, ?_⟩
    refine r_pure (.tuple #[.slice A265 y261.length c267, .int .i64 y262, .int .i64 y263]) rfl ?_
    refine r_pure (.slice A265 y261.length c267) rfl ?_
    refine r_pure (.int .i64 y262) rfl ?_
    refine r_pure (.int .i64 y263) rfl ?_
    refine r_pure (.slice A265 y261.length c267) rfl ?_
    refine r_pure (.int .i64 y262) rfl ?_
    refine r_pure (.int .i64 y263) rfl ?_
    refine r_seq ?_
    refine st_cut (fun ρ w => ∃ q271 : Bool, (∃ base, ρ = updl base [(52, .slice (some ⟨(oA (vA (η9 37))).block, 0, none⟩) 10 10), (53, .int .i64 10), (54, .int .i64 0), (95, .bool q271)]) ∧ Hp w0 (Row K24 (.slice (some ⟨b6, 0, none⟩) 1 1) [(⟨1, w64 (1 + y1)⟩ : api_Item)] :: Row K24 (.slice (some ⟨(oA (vA (η9 8))).block, 0, none⟩) 21 21) (List.replicate 21 (⟨0, 0⟩ : api_Item)) :: Row K24 (.slice (some ⟨(oA (vA (η9 13))).block, 0, none⟩) 1 1) [(⟨0, w64 (400000000000 + w64 (1 + y1))⟩ : api_Item)] :: Row K24 (.slice (some ⟨(oA (vA (η9 18))).block, 0, none⟩) 2 2) [(⟨0, 400000000000⟩ : api_Item), (⟨0, w64 (1 + y1)⟩ : api_Item)] :: Row K24 (.slice (some ⟨(oA (vA (η9 24))).block, 0, none⟩) 2 2) [(⟨0, (-400000000000)⟩ : api_Item), (⟨0, w64 (0 - w64 (1 + y1))⟩ : api_Item)] :: Row K24 (.slice (some ⟨(oA (vA (η9 32))).block, 0, none⟩) 3 3) [(⟨0, 400000000000⟩ : api_Item), (⟨0, w64 (1 + y1)⟩ : api_Item), (⟨0, w64 (0 - w64 (1 + y1))⟩ : api_Item)] :: Row K24 (.slice (some ⟨(oA (vA (η9 34))).block, 0, none⟩) 20 20) (List.replicate 20 (⟨0, 0⟩ : api_Item)) :: Row (Kr 27 3 (by decide)) (.slice (some ⟨(oA (vA (η9 37))).block, 0, none⟩) 10 10) [(⟨[.slice (some ⟨b6, 0, none⟩) 1 1, .int .i64 0, .int .i64 1], rfl, rfl⟩ : Raw 3), (⟨[.slice (some ⟨b6, 0, none⟩) 1 1, .int .i64 (w64 (0 - w64 (1 + y1))), .int .i64 1], rfl, rfl⟩ : Raw 3), (⟨[.slice (some ⟨b6, 0, none⟩) 1 1, .int .i64 10000001, .int .i64 1], rfl, rfl⟩ : Raw 3), (⟨[.slice (some ⟨(oA (vA (η9 8))).block, 0, none⟩) 21 21, .int .i64 1, .int .i64 1], rfl, rfl⟩ : Raw 3), (⟨[.slice (some ⟨(oA (vA (η9 13))).block, 0, none⟩) 1 1, .int .i64 1, .int .i64 1], rfl, rfl⟩ : Raw 3), (⟨[.slice (some ⟨(oA (vA (η9 18))).block, 0, none⟩) 2 2, .int .i64 1, .int .i64 1], rfl, rfl⟩ : Raw 3), (⟨[.slice (some ⟨(oA (vA (η9 24))).block, 0, none⟩) 2 2, .int .i64 1, .int .i64 1], rfl, rfl⟩ : Raw 3), (⟨[.slice (some ⟨(oA (vA (η9 32))).block, 0, none⟩) 3 3, .int .i64 10000000, .int .i64 0], rfl, rfl⟩ : Raw 3), (⟨[.slice (some ⟨(oA (vA (η9 34))).block, 0, none⟩) 20 20, .int .i64 1, .int .i64 0], rfl, rfl⟩ : Raw 3), (⟨[.slice none 0 0, .int .i64 5, .int .i64 0], rfl, rfl⟩ : Raw 3)] :: Γ) w ∧ scutagelaw25_FxErrors.j1 y1 q271 = some r0_) ?_ ?_
    · refine st_region ?_
      refine r_pure (.int .i64 y263) rfl ?_
      refine r_fa FA27_2 ⟨b256, 2, none⟩ rfl rfl ?_
      refine r_ld1 (.int .i64 1) LD26 rfl ((H268.g1).cell _ rfl) ?_
      refine r_pure (.bool (y263 != 1)) rfl ?_
      refine r_pure (.bool (y263 != 1)) rfl ?_
      rcases ite_some hm with ⟨hb494, hm⟩ | ⟨hb494, hm⟩
      · refine r_not (wn_f rfl rfl (by decide) rfl hb494) ?_
        refine r_not (wn_f rfl rfl (by decide) rfl hb494) ?_
        refine r_not (wn_f rfl rfl (by decide) rfl hb494) ?_
        refine r_not (wn_u rfl rfl (by decide) rfl rfl) ?_
        refine r_not (wn_u rfl rfl (by decide) rfl rfl) ?_
        refine r_not (wn_u rfl rfl (by decide) rfl rfl) ?_
        refine r_not (wn_u rfl rfl (by decide) rfl rfl) ?_
        refine r_not (wn_u rfl rfl (by decide) rfl rfl) ?_
        refine r_not (wn_u rfl rfl (by decide) rfl rfl) ?_
        refine r_not (wn_u rfl rfl (by decide) rfl rfl) ?_
        refine r_not (wn_f rfl rfl (by decide) rfl hb494) ?_
        refine r_pick_t (.bool true) hb494 rfl rfl ?_
        refine r_pure (.bool true) rfl ?_
        refine r_not (wn_f rfl rfl (by decide) rfl rfl) ?_
        refine r_not (wn_f rfl rfl (by decide) rfl rfl) ?_
        refine r_not (wn_f rfl rfl (by decide) rfl rfl) ?_
        refine r_not (wn_u rfl rfl (by decide) rfl rfl) ?_
        refine r_not (wn_u rfl rfl (by decide) rfl rfl) ?_
        refine r_not (wn_u rfl rfl (by decide) rfl rfl) ?_
        refine r_not (wn_u rfl rfl (by decide) rfl rfl) ?_
        refine r_not (wn_u rfl rfl (by decide) rfl rfl) ?_
        refine r_not (wn_u rfl rfl (by decide) rfl rfl) ?_
        refine r_not (wn_f rfl rfl (by decide) rfl rfl) ?_
        refine r_pick_t (.bool true) rfl rfl rfl ?_
        refine r_nil ?_
        refine n_cut ⟨true, upk (ac rfl (ac rfl (ac rfl (ac rfl an)))), H268.d.d.u6.u6.u6.u6.u6.u6.u6.u7, hm⟩
      · refine r_pure (.int .i64 y263) rfl ?_ (wn_t rfl rfl (by decide) rfl hb494)
        refine r_pure (.bool (y263 != 0)) rfl ?_ (wn_t rfl rfl (by decide) rfl hb494)
        refine r_pure (.bool (y263 != 0)) rfl ?_ (wn_t rfl rfl (by decide) rfl hb494)
        rcases ite_some hm with ⟨hb495, hm⟩ | ⟨hb495, hm⟩
        · refine r_pure (.slice A265 y261.length c267) rfl ?_ (wn_t rfl rfl (by decide) rfl hb495)
          refine r_len Try.underlying25 rfl ?_ (wn_t rfl rfl (by decide) rfl hb495)
          refine r_pure (.bool ((y261.length : Int) != 0)) rfl ?_ (wn_t rfl rfl (by decide) rfl hb495)
          refine r_pure (.bool ((y261.length : Int) != 0)) rfl ?_ (wn_t rfl rfl (by decide) rfl hb495)
          rcases ite_some hm with ⟨hb496, hm⟩ | ⟨hb496, hm⟩
          · refine r_not (wn_f rfl rfl (by decide) rfl hb496) ?_
            refine r_not (wn_f rfl rfl (by decide) rfl hb496) ?_
            refine r_pick_t (.bool true) hb496 rfl rfl ?_ (wn_t rfl rfl (by decide) rfl hb495)
            refine r_pick_t (.bool true) hb495 rfl rfl ?_ (wn_t rfl rfl (by decide) rfl hb494)
            refine r_pick_f (.bool true) hb494 rfl rfl ?_
            refine r_pure (.bool true) rfl ?_
            refine r_not (wn_f rfl rfl (by decide) rfl rfl) ?_
            refine r_not (wn_f rfl rfl (by decide) rfl rfl) ?_
            refine r_not (wn_f rfl rfl (by decide) rfl rfl) ?_
            refine r_not (wn_u rfl rfl (by decide) rfl rfl) ?_
            refine r_not (wn_u rfl rfl (by decide) rfl rfl) ?_
            refine r_not (wn_u rfl rfl (by decide) rfl rfl) ?_
            refine r_not (wn_u rfl rfl (by decide) rfl rfl) ?_
            refine r_not (wn_u rfl rfl (by decide) rfl rfl) ?_
            refine r_not (wn_u rfl rfl (by decide) rfl rfl) ?_
            refine r_not (wn_f rfl rfl (by decide) rfl rfl) ?_
            refine r_pick_t (.bool true) rfl rfl rfl ?_
            refine r_nil ?_
            refine n_cut ⟨true, upk (ac rfl (ac rfl (ac rfl (ac rfl an)))), H268.d.d.u6.u6.u6.u6.u6.u6.u6.u7, hm⟩
          · refine r_pure (.int .i64 y262) rfl ?_ (wn_t rfl rfl (by decide) rfl hb496)
            refine r_pure (.bool (y262 != 0)) rfl ?_ (wn_t rfl rfl (by decide) rfl hb496)
            refine r_pick_f (.bool (y262 != 0)) hb496 rfl rfl ?_ (wn_t rfl rfl (by decide) rfl hb495)
            refine r_pick_t (.bool (y262 != 0)) hb495 rfl rfl ?_ (wn_t rfl rfl (by decide) rfl hb494)
            refine r_pick_f (.bool (y262 != 0)) hb494 rfl rfl ?_
            refine r_pure (.bool (y262 != 0)) rfl ?_
            rcases ite_some hm with ⟨hb497, hm⟩ | ⟨hb497, hm⟩
            · refine r_not (wn_f rfl rfl (by decide) rfl hb497) ?_
              refine r_not (wn_f rfl rfl (by decide) rfl hb497) ?_
              refine r_not (wn_f rfl rfl (by decide) rfl hb497) ?_
              refine r_not (wn_u rfl rfl (by decide) rfl rfl) ?_
              refine r_not (wn_u rfl rfl (by decide) rfl rfl) ?_
              refine r_not (wn_u rfl rfl (by decide) rfl rfl) ?_
              refine r_not (wn_u rfl rfl (by decide) rfl rfl) ?_
              refine r_not (wn_u rfl rfl (by decide) rfl rfl) ?_
              refine r_not (wn_u rfl rfl (by decide) rfl rfl) ?_
              refine r_not (wn_f rfl rfl (by decide) rfl hb497) ?_
              refine r_pick_t (.bool true) hb497 rfl rfl ?_
              refine r_nil ?_
              refine n_cut ⟨true, upk (ac rfl (ac rfl (ac rfl (ac rfl an)))), H268.d.d.u6.u6.u6.u6.u6.u6.u6.u7, hm⟩
            · refine r_pure (.int .i64 y263) rfl ?_ (wn_t rfl rfl (by decide) rfl hb497)
              refine r_pure (.bool (y263 == 0)) rfl ?_ (wn_t rfl rfl (by decide) rfl hb497)
              refine r_pure (.bool (y263 == 0)) rfl ?_ (wn_t rfl rfl (by decide) rfl hb497)
              rcases ite_some hm with ⟨hb498, hm⟩ | ⟨hb498, hm⟩
              · refine r_pure (.slice A265 y261.length c267) rfl ?_ (wn_t rfl rfl (by decide) rfl hb498)
                refine r_len Try.underlying25 rfl ?_ (wn_t rfl rfl (by decide) rfl hb498)
                refine r_fa FA27_0 ⟨b256, 0, none⟩ rfl rfl ?_ (wn_t rfl rfl (by decide) rfl hb498)
                refine r_ld1 (.slice (some ⟨b6, 0, none⟩) 1 1) LD25 rfl ((H268.g1).cell _ rfl) ?_ (wn_t rfl rfl (by decide) rfl hb498)
                refine r_len Try.underlying25 rfl ?_ (wn_t rfl rfl (by decide) rfl hb498)
                refine r_pure (.bool ((y261.length : Int) != (1 : Int))) rfl ?_ (wn_t rfl rfl (by decide) rfl hb498)
                refine r_pick_t (.bool ((y261.length : Int) != (1 : Int))) hb498 rfl rfl ?_ (wn_t rfl rfl (by decide) rfl hb497)
                refine r_pick_f (.bool ((y261.length : Int) != (1 : Int))) hb497 rfl rfl ?_
                refine r_nil ?_
                refine n_cut ⟨(y261.length : Int) != (1 : Int), upk (ac rfl (ac rfl (ac rfl (ac rfl an)))), H268.d.d.u6.u6.u6.u6.u6.u6.u6.u7, hm⟩
              · refine r_not (wn_f rfl rfl (by decide) rfl hb498) ?_
                refine r_not (wn_f rfl rfl (by decide) rfl hb498) ?_
                refine r_not (wn_f rfl rfl (by decide) rfl hb498) ?_
                refine r_not (wn_f rfl rfl (by decide) rfl hb498) ?_
                refine r_not (wn_f rfl rfl (by decide) rfl hb498) ?_
                refine r_not (wn_f rfl rfl (by decide) rfl hb498) ?_
                refine r_pick_f (.bool false) hb498 rfl rfl ?_ (wn_t rfl rfl (by decide) rfl hb497)
                refine r_pick_f (.bool false) hb497 rfl rfl ?_
                refine r_nil ?_
                refine n_cut ⟨false, upk (ac rfl (ac rfl (ac rfl (ac rfl an)))), H268.d.d.u6.u6.u6.u6.u6.u6.u6.u7, hm⟩
        · refine r_not (wn_f rfl rfl (by decide) rfl hb495) ?_
          refine r_not (wn_f rfl rfl (by decide) rfl hb495) ?_
          refine r_not (wn_f rfl rfl (by decide) rfl hb495) ?_
          refine r_not (wn_f rfl rfl (by decide) rfl hb495) ?_
          refine r_not (wn_u rfl rfl (by decide) rfl rfl) ?_
          refine r_not (wn_u rfl rfl (by decide) rfl rfl) ?_
          refine r_not (wn_f rfl rfl (by decide) rfl hb495) ?_
          refine r_pick_f (.bool false) hb495 rfl rfl ?_ (wn_t rfl rfl (by decide) rfl hb494)
          refine r_pick_f (.bool false) hb494 rfl rfl ?_
          refine r_pure (.bool false) rfl ?_
          refine r_pure (.int .i64 y263) rfl ?_ (wn_t rfl rfl (by decide) rfl rfl)
          refine r_pure (.bool (y263 == 0)) rfl ?_ (wn_t rfl rfl (by decide) rfl rfl)
          refine r_pure (.bool (y263 == 0)) rfl ?_ (wn_t rfl rfl (by decide) rfl rfl)
          rcases ite_some hm with ⟨hb499, hm⟩ | ⟨hb499, hm⟩
          · refine r_pure (.slice A265 y261.length c267) rfl ?_ (wn_t rfl rfl (by decide) rfl hb499)
            refine r_len Try.underlying25 rfl ?_ (wn_t rfl rfl (by decide) rfl hb499)
            refine r_fa FA27_0 ⟨b256, 0, none⟩ rfl rfl ?_ (wn_t rfl rfl (by decide) rfl hb499)
            refine r_ld1 (.slice (some ⟨b6, 0, none⟩) 1 1) LD25 rfl ((H268.g1).cell _ rfl) ?_ (wn_t rfl rfl (by decide) rfl hb499)
            refine r_len Try.underlying25 rfl ?_ (wn_t rfl rfl (by decide) rfl hb499)
            refine r_pure (.bool ((y261.length : Int) != (1 : Int))) rfl ?_ (wn_t rfl rfl (by decide) rfl hb499)
            refine r_pick_t (.bool ((y261.length : Int) != (1 : Int))) hb499 rfl rfl ?_ (wn_t rfl rfl (by decide) rfl rfl)
            refine r_pick_f (.bool ((y261.length : Int) != (1 : Int))) rfl rfl rfl ?_
            refine r_nil ?_
            refine n_cut ⟨(y261.length : Int) != (1 : Int), upk (ac rfl (ac rfl (ac rfl (ac rfl an)))), H268.d.d.u6.u6.u6.u6.u6.u6.u6.u7, hm⟩
          · refine r_not (wn_f rfl rfl (by decide) rfl hb499) ?_
            refine r_not (wn_f rfl rfl (by decide) rfl hb499) ?_
            refine r_not (wn_f rfl rfl (by decide) rfl hb499) ?_
            refine r_not (wn_f rfl rfl (by decide) rfl hb499) ?_
            refine r_not (wn_f rfl rfl (by decide) rfl hb499) ?_
            refine r_not (wn_f rfl rfl (by decide) rfl hb499) ?_
            refine r_pick_f (.bool false) hb499 rfl rfl ?_ (wn_t rfl rfl (by decide) rfl rfl)
            refine r_pick_f (.bool false) rfl rfl rfl ?_
            refine r_nil ?_
            refine n_cut ⟨false, upk (ac rfl (ac rfl (ac rfl (ac rfl an)))), H268.d.d.u6.u6.u6.u6.u6.u6.u6.u7, hm⟩
    · rintro ρ w ⟨q271, ⟨base, rfl⟩, H272, hm⟩
      unfold scutagelaw25_FxErrors.j1 at hm
      rcases ite_some hm with ⟨hb273, hm⟩ | ⟨hb273, hm⟩
      · refine st_condt hb273 rfl ?_
        refine st_seq ?_
        refine st_region ?_
        refine r_pure (.bool false) rfl ?_
        refine r_seq ?_
        have hq_ := Option.some.inj hm
        subst hq_
        refine st_ret1 rfl rfl (Nat.le_of_ble_eq_true rfl) rfl ?_
        exact ⟨rfl, H272.d.d.d.d.d.d.d.d⟩
      · refine st_condf hb273 rfl ?_
        refine st_skip ?_
        refine n_bl ?_
        refine n_sq ?_
        refine st_region ?_
        refine r_pure (.int .i64 1) rfl ?_
        refine r_pure (.int .i64 1) rfl ?_
        refine r_nil ?_
        refine n_round ?_
        refine l_round ?_
        refine st_seq ?_
        refine st_region ?_
        refine r_pure (.bool (decide (1 < 10))) rfl ?_
        refine r_seq ?_
        refine st_seq ?_
        refine st_condt (by decide) rfl ?_
        refine st_skip ?_
        refine n_sq ?_
        refine st_seq ?_
        refine st_block ?_
        refine st_seq ?_
        refine st_region ?_
        refine r_ix IX28 rfl rfl rfl (by decide) (by decide) ?_
        refine r_ldA [.slice (some ⟨b6, 0, none⟩) 1 1, .int .i64 (w64 (0 - w64 (1 + y1))), .int .i64 1] LD27 rfl rfl ((H272.g7.rd).csA rfl (show ([(⟨[.slice (some ⟨b6, 0, none⟩) 1 1, .int .i64 0, .int .i64 1], rfl, rfl⟩ : Raw 3), (⟨[.slice (some ⟨b6, 0, none⟩) 1 1, .int .i64 (w64 (0 - w64 (1 + y1))), .int .i64 1], rfl, rfl⟩ : Raw 3), (⟨[.slice (some ⟨b6, 0, none⟩) 1 1, .int .i64 10000001, .int .i64 1], rfl, rfl⟩ : Raw 3), (⟨[.slice (some ⟨(oA (vA (η9 8))).block, 0, none⟩) 21 21, .int .i64 1, .int .i64 1], rfl, rfl⟩ : Raw 3), (⟨[.slice (some ⟨(oA (vA (η9 13))).block, 0, none⟩) 1 1, .int .i64 1, .int .i64 1], rfl, rfl⟩ : Raw 3), (⟨[.slice (some ⟨(oA (vA (η9 18))).block, 0, none⟩) 2 2, .int .i64 1, .int .i64 1], rfl, rfl⟩ : Raw 3), (⟨[.slice (some ⟨(oA (vA (η9 24))).block, 0, none⟩) 2 2, .int .i64 1, .int .i64 1], rfl, rfl⟩ : Raw 3), (⟨[.slice (some ⟨(oA (vA (η9 32))).block, 0, none⟩) 3 3, .int .i64 10000000, .int .i64 0], rfl, rfl⟩ : Raw 3), (⟨[.slice (some ⟨(oA (vA (η9 34))).block, 0, none⟩) 20 20, .int .i64 1, .int .i64 0], rfl, rfl⟩ : Raw 3), (⟨[.slice none 0 0, .int .i64 5, .int .i64 0], rfl, rfl⟩ : Raw 3)])[Int.toNat 1]? = some _ from rfl)) ?_
        refine r_alloc [.slice none 0 0, .int .i64 0, .int .i64 0] Try.zeroValue27 H272 rfl ?_
        intro b274 wd276 H275
        refine r_stA [.slice (some ⟨b6, 0, none⟩) 1 1, .int .i64 (w64 (0 - w64 (1 + y1))), .int .i64 1] LD27 rfl rfl rfl rfl H275 (by decide) rfl ?_
        intro wd278 H277
        refine r_seq ?_
        refine st_seq ?_
        refine st_region ?_
        refine r_fa FA27_0 ⟨b274, 0, none⟩ rfl rfl ?_
        refine r_ld1 (.slice (some ⟨b6, 0, none⟩) 1 1) LD25 rfl ((H277.g0).cell _ rfl) ?_
        refine r_fa FA27_1 ⟨b274, 1, none⟩ rfl rfl ?_
        refine r_ld1 (.int .i64 (w64 (0 - w64 (1 + y1)))) LD3 rfl ((H277.g0).cell _ rfl) ?_
        obtain ⟨⟨y279, y280, y281⟩, hy282, hm⟩ := bind_some hm
        refine r_callf Try.call7 (fx_Convert_ok [(⟨1, w64 (1 + y1)⟩ : api_Item)] (some ⟨b6, 0, none⟩) 1 1 rfl (((H277).g1).cap) (fun _ H => (H.g1.rd)) (w64 (0 - w64 (1 + y1))) y279 y280 y281 H277 hy282) ?_
        rintro e288 wd287 ⟨A283, n284, c285, rfl, H286⟩
        obtain rfl := (H286.g0).leneq
        refine ⟨_, rfl, ?_⟩
        refine r_pure (.tuple #[.slice A283 y279.length c285, .int .i64 y280, .int .i64 y281]) rfl ?_
        refine r_pure (.slice A283 y279.length c285) rfl ?_
        refine r_pure (.int .i64 y280) rfl ?_
        refine r_pure (.int .i64 y281) rfl ?_
        refine r_pure (.slice A283 y279.length c285) rfl ?_
        refine r_pure (.int .i64 y280) rfl ?_
        refine r_pure (.int .i64 y281) rfl ?_
        refine r_seq ?_
        refine st_cut (fun ρ w => ∃ q289 : Bool, (∃ base, ρ = updl base [(52, .slice (some ⟨(oA (vA (η9 37))).block, 0, none⟩) 10 10), (53, .int .i64 10), (54, .int .i64 1), (95, .bool q289)]) ∧ Hp w0 (Row K24 (.slice (some ⟨b6, 0, none⟩) 1 1) [(⟨1, w64 (1 + y1)⟩ : api_Item)] :: Row K24 (.slice (some ⟨(oA (vA (η9 8))).block, 0, none⟩) 21 21) (List.replicate 21 (⟨0, 0⟩ : api_Item)) :: Row K24 (.slice (some ⟨(oA (vA (η9 13))).block, 0, none⟩) 1 1) [(⟨0, w64 (400000000000 + w64 (1 + y1))⟩ : api_Item)] :: Row K24 (.slice (some ⟨(oA (vA (η9 18))).block, 0, none⟩) 2 2) [(⟨0, 400000000000⟩ : api_Item), (⟨0, w64 (1 + y1)⟩ : api_Item)] :: Row K24 (.slice (some ⟨(oA (vA (η9 24))).block, 0, none⟩) 2 2) [(⟨0, (-400000000000)⟩ : api_Item), (⟨0, w64 (0 - w64 (1 + y1))⟩ : api_Item)] :: Row K24 (.slice (some ⟨(oA (vA (η9 32))).block, 0, none⟩) 3 3) [(⟨0, 400000000000⟩ : api_Item), (⟨0, w64 (1 + y1)⟩ : api_Item), (⟨0, w64 (0 - w64 (1 + y1))⟩ : api_Item)] :: Row K24 (.slice (some ⟨(oA (vA (η9 34))).block, 0, none⟩) 20 20) (List.replicate 20 (⟨0, 0⟩ : api_Item)) :: Row (Kr 27 3 (by decide)) (.slice (some ⟨(oA (vA (η9 37))).block, 0, none⟩) 10 10) [(⟨[.slice (some ⟨b6, 0, none⟩) 1 1, .int .i64 0, .int .i64 1], rfl, rfl⟩ : Raw 3), (⟨[.slice (some ⟨b6, 0, none⟩) 1 1, .int .i64 (w64 (0 - w64 (1 + y1))), .int .i64 1], rfl, rfl⟩ : Raw 3), (⟨[.slice (some ⟨b6, 0, none⟩) 1 1, .int .i64 10000001, .int .i64 1], rfl, rfl⟩ : Raw 3), (⟨[.slice (some ⟨(oA (vA (η9 8))).block, 0, none⟩) 21 21, .int .i64 1, .int .i64 1], rfl, rfl⟩ : Raw 3), (⟨[.slice (some ⟨(oA (vA (η9 13))).block, 0, none⟩) 1 1, .int .i64 1, .int .i64 1], rfl, rfl⟩ : Raw 3), (⟨[.slice (some ⟨(oA (vA (η9 18))).block, 0, none⟩) 2 2, .int .i64 1, .int .i64 1], rfl, rfl⟩ : Raw 3), (⟨[.slice (some ⟨(oA (vA (η9 24))).block, 0, none⟩) 2 2, .int .i64 1, .int .i64 1], rfl, rfl⟩ : Raw 3), (⟨[.slice (some ⟨(oA (vA (η9 32))).block, 0, none⟩) 3 3, .int .i64 10000000, .int .i64 0], rfl, rfl⟩ : Raw 3), (⟨[.slice (some ⟨(oA (vA (η9 34))).block, 0, none⟩) 20 20, .int .i64 1, .int .i64 0], rfl, rfl⟩ : Raw 3), (⟨[.slice none 0 0, .int .i64 5, .int .i64 0], rfl, rfl⟩ : Raw 3)] :: Γ) w ∧ scutagelaw25_FxErrors.j2 y1 q289 = some r0_) ?_ ?_
        · refine st_region ?_
          refine r_pure (.int .i64 y281) rfl ?_
          refine r_fa FA27_2 ⟨b274, 2, none⟩ rfl rfl ?_
          refine r_ld1 (.int .i64 1) LD26 rfl ((H286.g1).cell _ rfl) ?_
          refine r_pure (.bool (y281 != 1)) rfl ?_
          refine r_pure (.bool (y281 != 1)) rfl ?_
          rcases ite_some hm with ⟨hb488, hm⟩ | ⟨hb488, hm⟩
          · refine r_not (wn_f rfl rfl (by decide) rfl hb488) ?_
            refine r_not (wn_f rfl rfl (by decide) rfl hb488) ?_
            refine r_not (wn_f rfl rfl (by decide) rfl hb488) ?_
            refine r_not (wn_u rfl rfl (by decide) rfl rfl) ?_
            refine r_not (wn_u rfl rfl (by decide) rfl rfl) ?_
            refine r_not (wn_u rfl rfl (by decide) rfl rfl) ?_
            refine r_not (wn_u rfl rfl (by decide) rfl rfl) ?_
            refine r_not (wn_u rfl rfl (by decide) rfl rfl) ?_
            refine r_not (wn_u rfl rfl (by decide) rfl rfl) ?_
            refine r_not (wn_u rfl rfl (by decide) rfl rfl) ?_
            refine r_not (wn_f rfl rfl (by decide) rfl hb488) ?_
            refine r_pick_t (.bool true) hb488 rfl rfl ?_
            refine r_pure (.bool true) rfl ?_
            refine r_not (wn_f rfl rfl (by decide) rfl rfl) ?_
            refine r_not (wn_f rfl rfl (by decide) rfl rfl) ?_
            refine r_not (wn_f rfl rfl (by decide) rfl rfl) ?_
            refine r_not (wn_u rfl rfl (by decide) rfl rfl) ?_
            refine r_not (wn_u rfl rfl (by decide) rfl rfl) ?_
            refine r_not (wn_u rfl rfl (by decide) rfl rfl) ?_
            refine r_not (wn_u rfl rfl (by decide) rfl rfl) ?_
            refine r_not (wn_u rfl rfl (by decide) rfl rfl) ?_
            refine r_not (wn_u rfl rfl (by decide) rfl rfl) ?_
            refine r_not (wn_f rfl rfl (by decide) rfl rfl) ?_
            refine r_pick_t (.bool true) rfl rfl rfl ?_
            refine r_nil ?_
            refine n_cut ⟨true, upk (ac rfl (ac rfl (ac rfl (ac rfl an)))), H286.d.d.u7.u7.u7.u7.u7.u7.u7.u7, hm⟩
          · refine r_pure (.int .i64 y281) rfl ?_ (wn_t rfl rfl (by decide) rfl hb488)
            refine r_pure (.bool (y281 != 0)) rfl ?_ (wn_t rfl rfl (by decide) rfl hb488)
            refine r_pure (.bool (y281 != 0)) rfl ?_ (wn_t rfl rfl (by decide) rfl hb488)
            rcases ite_some hm with ⟨hb489, hm⟩ | ⟨hb489, hm⟩
            · refine r_pure (.slice A283 y279.length c285) rfl ?_ (wn_t rfl rfl (by decide) rfl hb489)
              refine r_len Try.underlying25 rfl ?_ (wn_t rfl rfl (by decide) rfl hb489)
              refine r_pure (.bool ((y279.length : Int) != 0)) rfl ?_ (wn_t rfl rfl (by decide) rfl hb489)
              refine r_pure (.bool ((y279.length : Int) != 0)) rfl ?_ (wn_t rfl rfl (by decide) rfl hb489)
              rcases ite_some hm with ⟨hb490, hm⟩ | ⟨hb490, hm⟩
              · refine r_not (wn_f rfl rfl (by decide) rfl hb490) ?_
                refine r_not (wn_f rfl rfl (by decide) rfl hb490) ?_
                refine r_pick_t (.bool true) hb490 rfl rfl ?_ (wn_t rfl rfl (by decide) rfl hb489)
                refine r_pick_t (.bool true) hb489 rfl rfl ?_ (wn_t rfl rfl (by decide) rfl hb488)
                refine r_pick_f (.bool true) hb488 rfl rfl ?_
                refine r_pure (.bool true) rfl ?_
                refine r_not (wn_f rfl rfl (by decide) rfl rfl) ?_
                refine r_not (wn_f rfl rfl (by decide) rfl rfl) ?_
                refine r_not (wn_f rfl rfl (by decide) rfl rfl) ?_
                refine r_not (wn_u rfl rfl (by decide) rfl rfl) ?_
                refine r_not (wn_u rfl rfl (by decide) rfl rfl) ?_
                refine r_not (wn_u rfl rfl (by decide) rfl rfl) ?_
                refine r_not (wn_u rfl rfl (by decide) rfl rfl) ?_
                refine r_not (wn_u rfl rfl (by decide) rfl rfl) ?_
                refine r_not (wn_u rfl rfl (by decide) rfl rfl) ?_
                refine r_not (wn_f rfl rfl (by decide) rfl rfl) ?_
                refine r_pick_t (.bool true) rfl rfl rfl ?_
                refine r_nil ?_
                refine n_cut ⟨true, upk (ac rfl (ac rfl (ac rfl (ac rfl an)))), H286.d.d.u7.u7.u7.u7.u7.u7.u7.u7, hm⟩
              · refine r_pure (.int .i64 y280) rfl ?_ (wn_t rfl rfl (by decide) rfl hb490)
                refine r_pure (.bool (y280 != 0)) rfl ?_ (wn_t rfl rfl (by decide) rfl hb490)
                refine r_pick_f (.bool (y280 != 0)) hb490 rfl rfl ?_ (wn_t rfl rfl (by decide) rfl hb489)
                refine r_pick_t (.bool (y280 != 0)) hb489 rfl rfl ?_ (wn_t rfl rfl (by decide) rfl hb488)
                refine r_pick_f (.bool (y280 != 0)) hb488 rfl rfl ?_
                refine r_pure (.bool (y280 != 0)) rfl ?_
                rcases ite_some hm with ⟨hb491, hm⟩ | ⟨hb491, hm⟩
                · refine r_not (wn_f rfl rfl (by decide) rfl hb491) ?_
                  refine r_not (wn_f rfl rfl (by decide) rfl hb491) ?_
                  refine r_not (wn_f rfl rfl (by decide) rfl hb491) ?_
                  refine r_not (wn_u rfl rfl (by decide) rfl rfl) ?_
                  refine r_not (wn_u rfl rfl (by decide) rfl rfl) ?_
                  refine r_not (wn_u rfl rfl (by decide) rfl rfl) ?_
                  refine r_not (wn_u rfl rfl (by decide) rfl rfl) ?_
                  refine r_not (wn_u rfl rfl (by decide) rfl rfl) ?_
                  refine r_not (wn_u rfl rfl (by decide) rfl rfl) ?_
                  refine r_not (wn_f rfl rfl (by decide) rfl hb491) ?_
                  refine r_pick_t (.bool true) hb491 rfl rfl ?_
                  refine r_nil ?_
                  refine n_cut ⟨true, upk (ac rfl (ac rfl (ac rfl (ac rfl an)))), H286.d.d.u7.u7.u7.u7.u7.u7.u7.u7, hm⟩
                · refine r_pure (.int .i64 y281) rfl ?_ (wn_t rfl rfl (by decide) rfl hb491)
                  refine r_pure (.bool (y281 == 0)) rfl ?_ (wn_t rfl rfl (by decide) rfl hb491)
                  refine r_pure (.bool (y281 == 0)) rfl ?_ (wn_t rfl rfl (by decide) rfl hb491)
                  rcases ite_some hm with ⟨hb492, hm⟩ | ⟨hb492, hm⟩
                  · refine r_pure (.slice A283 y279.length c285) rfl ?_ (wn_t rfl rfl (by decide) rfl hb492)
                    refine r_len Try.underlying25 rfl ?_ (wn_t rfl rfl (by decide) rfl hb492)
                    refine r_fa FA27_0 ⟨b274, 0, none⟩ rfl rfl ?_ (wn_t rfl rfl (by decide) rfl hb492)
                    refine r_ld1 (.slice (some ⟨b6, 0, none⟩) 1 1) LD25 rfl ((H286.g1).cell _ rfl) ?_ (wn_t rfl rfl (by decide) rfl hb492)
                    refine r_len Try.underlying25 rfl ?_ (wn_t rfl rfl (by decide) rfl hb492)
                    refine r_pure (.bool ((y279.length : Int) != (1 : Int))) rfl ?_ (wn_t rfl rfl (by decide) rfl hb492)
                    refine r_pick_t (.bool ((y279.length : Int) != (1 : Int))) hb492 rfl rfl ?_ (wn_t rfl rfl (by decide) rfl hb491)
                    refine r_pick_f (.bool ((y279.length : Int) != (1 : Int))) hb491 rfl rfl ?_
                    refine r_nil ?_
                    refine n_cut ⟨(y279.length : Int) != (1 : Int), upk (ac rfl (ac rfl (ac rfl (ac rfl an)))), H286.d.d.u7.u7.u7.u7.u7.u7.u7.u7, hm⟩
                  · refine r_not (wn_f rfl rfl (by decide) rfl hb492) ?_
                    refine r_not (wn_f rfl rfl (by decide) rfl hb492) ?_
                    refine r_not (wn_f rfl rfl (by decide) rfl hb492) ?_
                    refine r_not (wn_f rfl rfl (by decide) rfl hb492) ?_
                    refine r_not (wn_f rfl rfl (by decide) rfl hb492) ?_
                    refine r_not (wn_f rfl rfl (by decide) rfl hb492) ?_
                    refine r_pick_f (.bool false) hb492 rfl rfl ?_ (wn_t rfl rfl (by decide) rfl hb491)
                    refine r_pick_f (.bool false) hb491 rfl rfl ?_
                    refine r_nil ?_
                    refine n_cut ⟨false, upk (ac rfl (ac rfl (ac rfl (ac rfl an)))), H286.d.d.u7.u7.u7.u7.u7.u7.u7.u7, hm⟩
            · refine r_not (wn_f rfl rfl (by decide) rfl hb489) ?_
              refine r_not (wn_f rfl rfl (by decide) rfl hb489) ?_
              refine r_not (wn_f rfl rfl (by decide) rfl hb489) ?_
              refine r_not (wn_f rfl rfl (by decide) rfl hb489) ?_
              refine r_not (wn_u rfl rfl (by decide) rfl rfl) ?_
              refine r_not (wn_u rfl rfl (by decide) rfl rfl) ?_
              refine r_not (wn_f rfl rfl (by decide) rfl hb489) ?_
              refine r_pick_f (.bool false) hb489 rfl rfl ?_ (wn_t rfl rfl (by decide) rfl hb488)
              refine r_pick_f (.bool false) hb488 rfl rfl ?_
              refine r_pure (.bool false) rfl ?_
              refine r_pure (.int .i64 y281) rfl ?_ (wn_t rfl rfl (by decide) rfl rfl)
              refine r_pure (.bool (y281 == 0)) rfl ?_ (wn_t rfl rfl (by decide) rfl rfl)
              refine r_pure (.bool (y281 == 0)) rfl ?_ (wn_t rfl rfl (by decide) rfl rfl)
              rcases ite_some hm with ⟨hb493, hm⟩ | ⟨hb493, hm⟩
              · refine r_pure (.slice A283 y279.length c285) rfl ?_ (wn_t rfl rfl (by decide) rfl hb493)
                refine r_len Try.underlying25 rfl ?_ (wn_t rfl rfl (by decide) rfl hb493)
                refine r_fa FA27_0 ⟨b274, 0, none⟩ rfl rfl ?_ (wn_t rfl rfl (by decide) rfl hb493)
                refine r_ld1 (.slice (some ⟨b6, 0, none⟩) 1 1) LD25 rfl ((H286.g1).cell _ rfl) ?_ (wn_t rfl rfl (by decide) rfl hb493)
                refine r_len Try.underlying25 rfl ?_ (wn_t rfl rfl (by decide) rfl hb493)
                refine r_pure (.bool ((y279.length : Int) != (1 : Int))) rfl ?_ (wn_t rfl rfl (by decide) rfl hb493)
                refine r_pick_t (.bool ((y279.length : Int) != (1 : Int))) hb493 rfl rfl ?_ (wn_t rfl rfl (by decide) rfl rfl)
                refine r_pick_f (.bool ((y279.length : Int) != (1 : Int))) rfl rfl rfl ?_
                refine r_nil ?_
                refine n_cut ⟨(y279.length : Int) != (1 : Int), upk (ac rfl (ac rfl (ac rfl (ac rfl an)))), H286.d.d.u7.u7.u7.u7.u7.u7.u7.u7, hm⟩
              · refine r_not (wn_f rfl rfl (by decide) rfl hb493) ?_
                refine r_not (wn_f rfl rfl (by decide) rfl hb493) ?_
                refine r_not (wn_f rfl rfl (by decide) rfl hb493) ?_
                refine r_not (wn_f rfl rfl (by decide) rfl hb493) ?_
                refine r_not (wn_f rfl rfl (by decide) rfl hb493) ?_
                refine r_not (wn_f rfl rfl (by decide) rfl hb493) ?_
                refine r_pick_f (.bool false) hb493 rfl rfl ?_ (wn_t rfl rfl (by decide) rfl rfl)
                refine r_pick_f (.bool false) rfl rfl rfl ?_
                refine r_nil ?_
                refine n_cut ⟨false, upk (ac rfl (ac rfl (ac rfl (ac rfl an)))), H286.d.d.u7.u7.u7.u7.u7.u7.u7.u7, hm⟩
        · rintro ρ w ⟨q289, ⟨base, rfl⟩, H290, hm⟩
          unfold scutagelaw25_FxErrors.j2 at hm
          rcases ite_some hm with ⟨hb291, hm⟩ | ⟨hb291, hm⟩
          · refine st_condt hb291 rfl ?_
            refine st_seq ?_
            refine st_region ?_
            refine r_pure (.bool false) rfl ?_
            refine r_seq ?_
            have hq_ := Option.some.inj hm
            subst hq_
            refine st_ret1 rfl rfl (Nat.le_of_ble_eq_true rfl) rfl ?_
            exact ⟨rfl, H290.d.d.d.d.d.d.d.d⟩
          · refine st_condf hb291 rfl ?_
            refine st_skip ?_
            refine n_bl ?_
            refine n_sq ?_
            refine st_region ?_
            refine r_pure (.int .i64 2) rfl ?_
            refine r_pure (.int .i64 2) rfl ?_
            refine r_nil ?_
            refine n_round ?_
            refine l_round ?_
            refine st_seq ?_
            refine st_region ?_
            refine r_pure (.bool (decide (2 < 10))) rfl ?_
            refine r_seq ?_
            refine st_seq ?_
            refine st_condt (by decide) rfl ?_
            refine st_skip ?_
            refine n_sq ?_
            refine st_seq ?_
            refine st_block ?_
            refine st_seq ?_
            refine st_region ?_
            refine r_ix IX28 rfl rfl rfl (by decide) (by decide) ?_
            refine r_ldA [.slice (some ⟨b6, 0, none⟩) 1 1, .int .i64 10000001, .int .i64 1] LD27 rfl rfl ((H290.g7.rd).csA rfl (show ([(⟨[.slice (some ⟨b6, 0, none⟩) 1 1, .int .i64 0, .int .i64 1], rfl, rfl⟩ : Raw 3), (⟨[.slice (some ⟨b6, 0, none⟩) 1 1, .int .i64 (w64 (0 - w64 (1 + y1))), .int .i64 1], rfl, rfl⟩ : Raw 3), (⟨[.slice (some ⟨b6, 0, none⟩) 1 1, .int .i64 10000001, .int .i64 1], rfl, rfl⟩ : Raw 3), (⟨[.slice (some ⟨(oA (vA (η9 8))).block, 0, none⟩) 21 21, .int .i64 1, .int .i64 1], rfl, rfl⟩ : Raw 3), (⟨[.slice (some ⟨(oA (vA (η9 13))).block, 0, none⟩) 1 1, .int .i64 1, .int .i64 1], rfl, rfl⟩ : Raw 3), (⟨[.slice (some ⟨(oA (vA (η9 18))).block, 0, none⟩) 2 2, .int .i64 1, .int .i64 1], rfl, rfl⟩ : Raw 3), (⟨[.slice (some ⟨(oA (vA (η9 24))).block, 0, none⟩) 2 2, .int .i64 1, .int .i64 1], rfl, rfl⟩ : Raw 3), (⟨[.slice (some ⟨(oA (vA (η9 32))).block, 0, none⟩) 3 3, .int .i64 10000000, .int .i64 0], rfl, rfl⟩ : Raw 3), (⟨[.slice (some ⟨(oA (vA (η9 34))).block, 0, none⟩) 20 20, .int .i64 1, .int .i64 0], rfl, rfl⟩ : Raw 3), (⟨[.slice none 0 0, .int .i64 5, .int .i64 0], rfl, rfl⟩ : Raw 3)])[Int.toNat 2]? = some _ from rfl)) ?_
            refine r_alloc [.slice none 0 0, .int .i64 0, .int .i64 0] Try.zeroValue27 H290 rfl ?_
            intro b292 wd294 H293
            refine r_stA [.slice (some ⟨b6, 0, none⟩) 1 1, .int .i64 10000001, .int .i64 1] LD27 rfl rfl rfl rfl H293 (by decide) rfl ?_
            intro wd296 H295
            refine r_seq ?_
            refine st_seq ?_
            refine st_region ?_
            refine r_fa FA27_0 ⟨b292, 0, none⟩ rfl rfl ?_
            refine r_ld1 (.slice (some ⟨b6, 0, none⟩) 1 1) LD25 rfl ((H295.g0).cell _ rfl) ?_
            refine r_fa FA27_1 ⟨b292, 1, none⟩ rfl rfl ?_
            refine r_ld1 (.int .i64 10000001) LD3 rfl ((H295.g0).cell _ rfl) ?_
            obtain ⟨⟨y297, y298, y299⟩, hy300, hm⟩ := bind_some hm
            refine r_callf Try.call7 (fx_Convert_ok [(⟨1, w64 (1 + y1)⟩ : api_Item)] (some ⟨b6, 0, none⟩) 1 1 rfl (((H295).g1).cap) (fun _ H => (H.g1.rd)) 10000001 y297 y298 y299 H295 hy300) ?_
            rintro e306 wd305 ⟨A301, n302, c303, rfl, H304⟩
            obtain rfl := (H304.g0).leneq
            refine ⟨_, rfl, ?_⟩
            refine r_pure (.tuple #[.slice A301 y297.length c303, .int .i64 y298, .int .i64 y299]) rfl ?_
            refine r_pure (.slice A301 y297.length c303) rfl ?_
            refine r_pure (.int .i64 y298) rfl ?_
            refine r_pure (.int .i64 y299) rfl ?_
            refine r_pure (.slice A301 y297.length c303) rfl ?_
            refine r_pure (.int .i64 y298) rfl ?_
            refine r_pure (.int .i64 y299) rfl ?_
            refine r_seq ?_
            refine st_cut (fun ρ w => ∃ q307 : Bool, (∃ base, ρ = updl base [(52, .slice (some ⟨(oA (vA (η9 37))).block, 0, none⟩) 10 10), (53, .int .i64 10), (54, .int .i64 2), (95, .bool q307)]) ∧ Hp w0 (Row K24 (.slice (some ⟨b6, 0, none⟩) 1 1) [(⟨1, w64 (1 + y1)⟩ : api_Item)] :: Row K24 (.slice (some ⟨(oA (vA (η9 8))).block, 0, none⟩) 21 21) (List.replicate 21 (⟨0, 0⟩ : api_Item)) :: Row K24 (.slice (some ⟨(oA (vA (η9 13))).block, 0, none⟩) 1 1) [(⟨0, w64 (400000000000 + w64 (1 + y1))⟩ : api_Item)] :: Row K24 (.slice (some ⟨(oA (vA (η9 18))).block, 0, none⟩) 2 2) [(⟨0, 400000000000⟩ : api_Item), (⟨0, w64 (1 + y1)⟩ : api_Item)] :: Row K24 (.slice (some ⟨(oA (vA (η9 24))).block, 0, none⟩) 2 2) [(⟨0, (-400000000000)⟩ : api_Item), (⟨0, w64 (0 - w64 (1 + y1))⟩ : api_Item)] :: Row K24 (.slice (some ⟨(oA (vA (η9 32))).block, 0, none⟩) 3 3) [(⟨0, 400000000000⟩ : api_Item), (⟨0, w64 (1 + y1)⟩ : api_Item), (⟨0, w64 (0 - w64 (1 + y1))⟩ : api_Item)] :: Row K24 (.slice (some ⟨(oA (vA (η9 34))).block, 0, none⟩) 20 20) (List.replicate 20 (⟨0, 0⟩ : api_Item)) :: Row (Kr 27 3 (by decide)) (.slice (some ⟨(oA (vA (η9 37))).block, 0, none⟩) 10 10) [(⟨[.slice (some ⟨b6, 0, none⟩) 1 1, .int .i64 0, .int .i64 1], rfl, rfl⟩ : Raw 3), (⟨[.slice (some ⟨b6, 0, none⟩) 1 1, .int .i64 (w64 (0 - w64 (1 + y1))), .int .i64 1], rfl, rfl⟩ : Raw 3), (⟨[.slice (some ⟨b6, 0, none⟩) 1 1, .int .i64 10000001, .int .i64 1], rfl, rfl⟩ : Raw 3), (⟨[.slice (some ⟨(oA (vA (η9 8))).block, 0, none⟩) 21 21, .int .i64 1, .int .i64 1], rfl, rfl⟩ : Raw 3), (⟨[.slice (some ⟨(oA (vA (η9 13))).block, 0, none⟩) 1 1, .int .i64 1, .int .i64 1], rfl, rfl⟩ : Raw 3), (⟨[.slice (some ⟨(oA (vA (η9 18))).block, 0, none⟩) 2 2, .int .i64 1, .int .i64 1], rfl, rfl⟩ : Raw 3), (⟨[.slice (some ⟨(oA (vA (η9 24))).block, 0, none⟩) 2 2, .int .i64 1, .int .i64 1], rfl, rfl⟩ : Raw 3), (⟨[.slice (some ⟨(oA (vA (η9 32))).block, 0, none⟩) 3 3, .int .i64 10000000, .int .i64 0], rfl, rfl⟩ : Raw 3), (⟨[.slice (some ⟨(oA (vA (η9 34))).block, 0, none⟩) 20 20, .int .i64 1, .int .i64 0], rfl, rfl⟩ : Raw 3), (⟨[.slice none 0 0, .int .i64 5, .int .i64 0], rfl, rfl⟩ : Raw 3)] :: Γ) w ∧ scutagelaw25_FxErrors.j3 y1 q307 = some r0_) ?_ ?_
            · refine st_region ?_
              refine r_pure (.int .i64 y299) rfl ?_
              refine r_fa FA27_2 ⟨b292, 2, none⟩ rfl rfl ?_
              refine r_ld1 (.int .i64 1) LD26 rfl ((H304.g1).cell _ rfl) ?_
              refine r_pure (.bool (y299 != 1)) rfl ?_
              refine r_pure (.bool (y299 != 1)) rfl ?_
              rcases ite_some hm with ⟨hb482, hm⟩ | ⟨hb482, hm⟩
              · refine r_not (wn_f rfl rfl (by decide) rfl hb482) ?_
                refine r_not (wn_f rfl rfl (by decide) rfl hb482) ?_
                refine r_not (wn_f rfl rfl (by decide) rfl hb482) ?_
                refine r_not (wn_u rfl rfl (by decide) rfl rfl) ?_
                refine r_not (wn_u rfl rfl (by decide) rfl rfl) ?_
                refine r_not (wn_u rfl rfl (by decide) rfl rfl) ?_
                refine r_not (wn_u rfl rfl (by decide) rfl rfl) ?_
                refine r_not (wn_u rfl rfl (by decide) rfl rfl) ?_
                refine r_not (wn_u rfl rfl (by decide) rfl rfl) ?_
                refine r_not (wn_u rfl rfl (by decide) rfl rfl) ?_
                refine r_not (wn_f rfl rfl (by decide) rfl hb482) ?_
                refine r_pick_t (.bool true) hb482 rfl rfl ?_
                refine r_pure (.bool true) rfl ?_
                refine r_not (wn_f rfl rfl (by decide) rfl rfl) ?_
                refine r_not (wn_f rfl rfl (by decide) rfl rfl) ?_
                refine r_not (wn_f rfl rfl (by decide) rfl rfl) ?_
                refine r_not (wn_u rfl rfl (by decide) rfl rfl) ?_
                refine r_not (wn_u rfl rfl (by decide) rfl rfl) ?_
                refine r_not (wn_u rfl rfl (by decide) rfl rfl) ?_
                refine r_not (wn_u rfl rfl (by decide) rfl rfl) ?_
                refine r_not (wn_u rfl rfl (by decide) rfl rfl) ?_
                refine r_not (wn_u rfl rfl (by decide) rfl rfl) ?_
                refine r_not (wn_f rfl rfl (by decide) rfl rfl) ?_
                refine r_pick_t (.bool true) rfl rfl rfl ?_
                refine r_nil ?_
                refine n_cut ⟨true, upk (ac rfl (ac rfl (ac rfl (ac rfl an)))), H304.d.d.u7.u7.u7.u7.u7.u7.u7.u7, hm⟩
              · refine r_pure (.int .i64 y299) rfl ?_ (wn_t rfl rfl (by decide) rfl hb482)
                refine r_pure (.bool (y299 != 0)) rfl ?_ (wn_t rfl rfl (by decide) rfl hb482)
                refine r_pure (.bool (y299 != 0)) rfl ?_ (wn_t rfl rfl (by decide) rfl hb482)
                rcases ite_some hm with ⟨hb483, hm⟩ | ⟨hb483, hm⟩
                · refine r_pure (.slice A301 y297.length c303) rfl ?_ (wn_t rfl rfl (by decide) rfl hb483)
                  refine r_len Try.underlying25 rfl ?_ (wn_t rfl rfl (by decide) rfl hb483)
                  refine r_pure (.bool ((y297.length : Int) != 0)) rfl ?_ (wn_t rfl rfl (by decide) rfl hb483)
                  refine r_pure (.bool ((y297.length : Int) != 0)) rfl ?_ (wn_t rfl rfl (by decide) rfl hb483)
                  rcases ite_some hm with ⟨hb484, hm⟩ | ⟨hb484, hm⟩
                  · refine r_not (wn_f rfl rfl (by decide) rfl hb484) ?_
                    refine r_not (wn_f rfl rfl (by decide) rfl hb484) ?_
                    refine r_pick_t (.bool true) hb484 rfl rfl ?_ (wn_t rfl rfl (by decide) rfl hb483)
                    refine r_pick_t (.bool true) hb483 rfl rfl ?_ (wn_t rfl rfl (by decide) rfl hb482)
                    refine r_pick_f (.bool true) hb482 rfl rfl ?_
                    refine r_pure (.bool true) rfl ?_
                    refine r_not (wn_f rfl rfl (by decide) rfl rfl) ?_
                    refine r_not (wn_f rfl rfl (by decide) rfl rfl) ?_
                    refine r_not (wn_f rfl rfl (by decide) rfl rfl) ?_
                    refine r_not (wn_u rfl rfl (by decide) rfl rfl) ?_
                    refine r_not (wn_u rfl rfl (by decide) rfl rfl) ?_
                    refine r_not (wn_u rfl rfl (by decide) rfl rfl) ?_
                    refine r_not (wn_u rfl rfl (by decide) rfl rfl) ?_
                    refine r_not (wn_u rfl rfl (by decide) rfl rfl) ?_
                    refine r_not (wn_u rfl rfl (by decide) rfl rfl) ?_
                    refine r_not (wn_f rfl rfl (by decide) rfl rfl) ?_
                    refine r_pick_t (.bool true) rfl rfl rfl ?_
                    refine r_nil ?_
                    refine n_cut ⟨true, upk (ac rfl (ac rfl (ac rfl (ac rfl an)))), H304.d.d.u7.u7.u7.u7.u7.u7.u7.u7, hm⟩
                  · refine r_pure (.int .i64 y298) rfl ?_ (wn_t rfl rfl (by decide) rfl hb484)
                    refine r_pure (.bool (y298 != 0)) rfl ?_ (wn_t rfl rfl (by decide) rfl hb484)
                    refine r_pick_f (.bool (y298 != 0)) hb484 rfl rfl ?_ (wn_t rfl rfl (by decide) rfl hb483)
                    refine r_pick_t (.bool (y298 != 0)) hb483 rfl rfl ?_ (wn_t rfl rfl (by decide) rfl hb482)
                    refine r_pick_f (.bool (y298 != 0)) hb482 rfl rfl ?_
                    refine r_pure (.bool (y298 != 0)) rfl ?_
                    rcases ite_some hm with ⟨hb485, hm⟩ | ⟨hb485, hm⟩
                    · refine r_not (wn_f rfl rfl (by decide) rfl hb485) ?_
                      refine r_not (wn_f rfl rfl (by decide) rfl hb485) ?_
                      refine r_not (wn_f rfl rfl (by decide) rfl hb485) ?_
                      refine r_not (wn_u rfl rfl (by decide) rfl rfl) ?_
                      refine r_not (wn_u rfl rfl (by decide) rfl rfl) ?_
                      refine r_not (wn_u rfl rfl (by decide) rfl rfl) ?_
                      refine r_not (wn_u rfl rfl (by decide) rfl rfl) ?_
                      refine r_not (wn_u rfl rfl (by decide) rfl rfl) ?_
                      refine r_not (wn_u rfl rfl (by decide) rfl rfl) ?_
                      refine r_not (wn_f rfl rfl (by decide) rfl hb485) ?_
                      refine r_pick_t (.bool true) hb485 rfl rfl ?_
                      refine r_nil ?_
                      refine n_cut ⟨true, upk (ac rfl (ac rfl (ac rfl (ac rfl an)))), H304.d.d.u7.u7.u7.u7.u7.u7.u7.u7, hm⟩
                    · refine r_pure (.int .i64 y299) rfl ?_ (wn_t rfl rfl (by decide) rfl hb485)
                      refine r_pure (.bool (y299 == 0)) rfl ?_ (wn_t rfl rfl (by decide) rfl hb485)
                      refine r_pure (.bool (y299 == 0)) rfl ?_ (wn_t rfl rfl (by decide) rfl hb485)
                      rcases ite_some hm with ⟨hb486, hm⟩ | ⟨hb486, hm⟩
                      · refine r_pure (.slice A301 y297.length c303) rfl ?_ (wn_t rfl rfl (by decide) rfl hb486)
                        refine r_len Try.underlying25 rfl ?_ (wn_t rfl rfl (by decide) rfl hb486)
                        refine r_fa FA27_0 ⟨b292, 0, none⟩ rfl rfl ?_ (wn_t rfl rfl (by decide) rfl hb486)
                        refine r_ld1 (.slice (some ⟨b6, 0, none⟩) 1 1) LD25 rfl ((H304.g1).cell _ rfl) ?_ (wn_t rfl rfl (by decide) rfl hb486)
                        refine r_len Try.underlying25 rfl ?_ (wn_t rfl rfl (by decide) rfl hb486)
                        refine r_pure (.bool ((y297.length : Int) != (1 : Int))) rfl ?_ (wn_t rfl rfl (by decide) rfl hb486)
                        refine r_pick_t (.bool ((y297.length : Int) != (1 : Int))) hb486 rfl rfl ?_ (wn_t rfl rfl (by decide) rfl hb485)
                        refine r_pick_f (.bool ((y297.length : Int) != (1 : Int))) hb485 rfl rfl ?_
                        refine r_nil ?_
                        refine n_cut ⟨(y297.length : Int) != (1 : Int), upk (ac rfl (ac rfl (ac rfl (ac rfl an)))), H304.d.d.u7.u7.u7.u7.u7.u7.u7.u7, hm⟩
                      · refine r_not (wn_f rfl rfl (by decide) rfl hb486) ?_
                        refine r_not (wn_f rfl rfl (by decide) rfl hb486) ?_
                        refine r_not (wn_f rfl rfl (by decide) rfl hb486) ?_
                        refine r_not (wn_f rfl rfl (by decide) rfl hb486) ?_
                        refine r_not (wn_f rfl rfl (by decide) rfl hb486) ?_
                        refine r_not (wn_f rfl rfl (by decide) rfl hb486) ?_
                        refine r_pick_f (.bool false) hb486 rfl rfl ?_ (wn_t rfl rfl (by decide) rfl hb485)
                        refine r_pick_f (.bool false) hb485 rfl rfl ?_
                        refine r_nil ?_
                        refine n_cut ⟨false, upk (ac rfl (ac rfl (ac rfl (ac rfl an)))), H304.d.d.u7.u7.u7.u7.u7.u7.u7.u7, hm⟩
                · refine r_not (wn_f rfl rfl (by decide) rfl hb483) ?_
                  refine r_not (wn_f rfl rfl (by decide) rfl hb483) ?_
                  refine r_not (wn_f rfl rfl (by decide) rfl hb483) ?_
                  refine r_not (wn_f rfl rfl (by decide) rfl hb483) ?_
                  refine r_not (wn_u rfl rfl (by decide) rfl rfl) ?_
                  refine r_not (wn_u rfl rfl (by decide) rfl rfl) ?_
                  refine r_not (wn_f rfl rfl (by decide) rfl hb483) ?_
                  refine r_pick_f (.bool false) hb483 rfl rfl ?_ (wn_t rfl rfl (by decide) rfl hb482)
                  refine r_pick_f (.bool false) hb482 rfl rfl ?_
                  refine r_pure (.bool false) rfl ?_
                  refine r_pure (.int .i64 y299) rfl ?_ (wn_t rfl rfl (by decide) rfl rfl)
                  refine r_pure (.bool (y299 == 0)) rfl ?_ (wn_t rfl rfl (by decide) rfl rfl)
                  refine r_pure (.bool (y299 == 0)) rfl ?_ (wn_t rfl rfl (by decide) rfl rfl)
                  rcases ite_some hm with ⟨hb487, hm⟩ | ⟨hb487, hm⟩
                  · refine r_pure (.slice A301 y297.length c303) rfl ?_ (wn_t rfl rfl (by decide) rfl hb487)
                    refine r_len Try.underlying25 rfl ?_ (wn_t rfl rfl (by decide) rfl hb487)
                    refine r_fa FA27_0 ⟨b292, 0, none⟩ rfl rfl ?_ (wn_t rfl rfl (by decide) rfl hb487)
                    refine r_ld1 (.slice (some ⟨b6, 0, none⟩) 1 1) LD25 rfl ((H304.g1).cell _ rfl) ?_ (wn_t rfl rfl (by decide) rfl hb487)
                    refine r_len Try.underlying25 rfl ?_ (wn_t rfl rfl (by decide) rfl hb487)
                    refine r_pure (.bool ((y297.length : Int) != (1 : Int))) rfl ?_ (wn_t rfl rfl (by decide) rfl hb487)
                    refine r_pick_t (.bool ((y297.length : Int) != (1 : Int))) hb487 rfl rfl ?_ (wn_t rfl rfl (by decide) rfl rfl)
                    refine r_pick_f (.bool ((y297.length : Int) != (1 : Int))) rfl rfl rfl ?_
                    refine r_nil ?_
                    refine n_cut ⟨(y297.length : Int) != (1 : Int), upk (ac rfl (ac rfl (ac rfl (ac rfl an)))), H304.d.d.u7.u7.u7.u7.u7.u7.u7.u7, hm⟩
                  · refine r_not (wn_f rfl rfl (by decide) rfl hb487) ?_
                    refine r_not (wn_f rfl rfl (by decide) rfl hb487) ?_
                    refine r_not (wn_f rfl rfl (by decide) rfl hb487) ?_
                    refine r_not (wn_f rfl rfl (by decide) rfl hb487) ?_
                    refine r_not (wn_f rfl rfl (by decide) rfl hb487) ?_
                    refine r_not (wn_f rfl rfl (by decide) rfl hb487) ?_
                    refine r_pick_f (.bool false) hb487 rfl rfl ?_ (wn_t rfl rfl (by decide) rfl rfl)
                    refine r_pick_f (.bool false) rfl rfl rfl ?_
                    refine r_nil ?_
                    refine n_cut ⟨false, upk (ac rfl (ac rfl (ac rfl (ac rfl an)))), H304.d.d.u7.u7.u7.u7.u7.u7.u7.u7, hm⟩
            · rintro ρ w ⟨q307, ⟨base, rfl⟩, H308, hm⟩
              unfold scutagelaw25_FxErrors.j3 at hm
              rcases ite_some hm with ⟨hb309, hm⟩ | ⟨hb309, hm⟩
              · refine st_condt hb309 rfl ?_
                refine st_seq ?_
                refine st_region ?_
                refine r_pure (.bool false) rfl ?_
                refine r_seq ?_
                have hq_ := Option.some.inj hm
                subst hq_
                refine st_ret1 rfl rfl (Nat.le_of_ble_eq_true rfl) rfl ?_
                exact ⟨rfl, H308.d.d.d.d.d.d.d.d⟩
              · refine st_condf hb309 rfl ?_
                refine st_skip ?_
                refine n_bl ?_
                refine n_sq ?_
                refine st_region ?_
                refine r_pure (.int .i64 3) rfl ?_
                refine r_pure (.int .i64 3) rfl ?_
                refine r_nil ?_
                refine n_round ?_
                refine l_round ?_
                refine st_seq ?_
                refine st_region ?_
                refine r_pure (.bool (decide (3 < 10))) rfl ?_
                refine r_seq ?_
                refine st_seq ?_
                refine st_condt (by decide) rfl ?_
                refine st_skip ?_
                refine n_sq ?_
                refine st_seq ?_
                refine st_block ?_
                refine st_seq ?_
                refine st_region ?_
                refine r_ix IX28 rfl rfl rfl (by decide) (by decide) ?_
                refine r_ldA [.slice (some ⟨(oA (vA (η9 8))).block, 0, none⟩) 21 21, .int .i64 1, .int .i64 1] LD27 rfl rfl ((H308.g7.rd).csA rfl (show ([(⟨[.slice (some ⟨b6, 0, none⟩) 1 1, .int .i64 0, .int .i64 1], rfl, rfl⟩ : Raw 3), (⟨[.slice (some ⟨b6, 0, none⟩) 1 1, .int .i64 (w64 (0 - w64 (1 + y1))), .int .i64 1], rfl, rfl⟩ : Raw 3), (⟨[.slice (some ⟨b6, 0, none⟩) 1 1, .int .i64 10000001, .int .i64 1], rfl, rfl⟩ : Raw 3), (⟨[.slice (some ⟨(oA (vA (η9 8))).block, 0, none⟩) 21 21, .int .i64 1, .int .i64 1], rfl, rfl⟩ : Raw 3), (⟨[.slice (some ⟨(oA (vA (η9 13))).block, 0, none⟩) 1 1, .int .i64 1, .int .i64 1], rfl, rfl⟩ : Raw 3), (⟨[.slice (some ⟨(oA (vA (η9 18))).block, 0, none⟩) 2 2, .int .i64 1, .int .i64 1], rfl, rfl⟩ : Raw 3), (⟨[.slice (some ⟨(oA (vA (η9 24))).block, 0, none⟩) 2 2, .int .i64 1, .int .i64 1], rfl, rfl⟩ : Raw 3), (⟨[.slice (some ⟨(oA (vA (η9 32))).block, 0, none⟩) 3 3, .int .i64 10000000, .int .i64 0], rfl, rfl⟩ : Raw 3), (⟨[.slice (some ⟨(oA (vA (η9 34))).block, 0, none⟩) 20 20, .int .i64 1, .int .i64 0], rfl, rfl⟩ : Raw 3), (⟨[.slice none 0 0, .int .i64 5, .int .i64 0], rfl, rfl⟩ : Raw 3)])[Int.toNat 3]? = some _ from rfl)) ?_
                refine r_alloc [.slice none 0 0, .int .i64 0, .int .i64 0] Try.zeroValue27 H308 rfl ?_
                intro b310 wd312 H311
                refine r_stA [.slice (some ⟨(oA (vA (η9 8))).block, 0, none⟩) 21 21, .int .i64 1, .int .i64 1] LD27 rfl rfl rfl rfl H311 (by decide) rfl ?_
                intro wd314 H313
                refine r_seq ?_
                refine st_seq ?_
                refine st_region ?_
                refine r_fa FA27_0 ⟨b310, 0, none⟩ rfl rfl ?_
                refine r_ld1 (.slice (some ⟨(oA (vA (η9 8))).block, 0, none⟩) 21 21) LD25 rfl ((H313.g0).cell _ rfl) ?_
                refine r_fa FA27_1 ⟨b310, 1, none⟩ rfl rfl ?_
                refine r_ld1 (.int .i64 1) LD3 rfl ((H313.g0).cell _ rfl) ?_
                obtain ⟨⟨y315, y316, y317⟩, hy318, hm⟩ := bind_some hm
                refine r_callf Try.call7 (fx_Convert_ok (List.replicate 21 (⟨0, 0⟩ : api_Item)) (some ⟨(oA (vA (η9 8))).block, 0, none⟩) 21 21 rfl (((H313).g2).cap) (fun _ H => (H.g2.rd)) 1 y315 y316 y317 H313 hy318) ?_
                rintro e324 wd323 ⟨A319, n320, c321, rfl, H322⟩
                obtain rfl := (H322.g0).leneq
                refine ⟨_, rfl, ?_⟩
                refine r_pure (.tuple #[.slice A319 y315.length c321, .int .i64 y316, .int .i64 y317]) rfl ?_
                refine r_pure (.slice A319 y315.length c321) rfl ?_
                refine r_pure (.int .i64 y316) rfl ?_
                refine r_pure (.int .i64 y317) rfl ?_
                refine r_pure (.slice A319 y315.length c321) rfl ?_
                refine r_pure (.int .i64 y316) rfl ?_
                refine r_pure (.int .i64 y317) rfl ?_
                refine r_seq ?_
                refine st_cut (fun ρ w => ∃ q325 : Bool, (∃ base, ρ = updl base [(52, .slice (some ⟨(oA (vA (η9 37))).block, 0, none⟩) 10 10), (53, .int .i64 10), (54, .int .i64 3), (95, .bool q325)]) ∧ Hp w0 (Row K24 (.slice (some ⟨b6, 0, none⟩) 1 1) [(⟨1, w64 (1 + y1)⟩ : api_Item)] :: Row K24 (.slice (some ⟨(oA (vA (η9 8))).block, 0, none⟩) 21 21) (List.replicate 21 (⟨0, 0⟩ : api_Item)) :: Row K24 (.slice (some ⟨(oA (vA (η9 13))).block, 0, none⟩) 1 1) [(⟨0, w64 (400000000000 + w64 (1 + y1))⟩ : api_Item)] :: Row K24 (.slice (some ⟨(oA (vA (η9 18))).block, 0, none⟩) 2 2) [(⟨0, 400000000000⟩ : api_Item), (⟨0, w64 (1 + y1)⟩ : api_Item)] :: Row K24 (.slice (some ⟨(oA (vA (η9 24))).block, 0, none⟩) 2 2) [(⟨0, (-400000000000)⟩ : api_Item), (⟨0, w64 (0 - w64 (1 + y1))⟩ : api_Item)] :: Row K24 (.slice (some ⟨(oA (vA (η9 32))).block, 0, none⟩) 3 3) [(⟨0, 400000000000⟩ : api_Item), (⟨0, w64 (1 + y1)⟩ : api_Item), (⟨0, w64 (0 - w64 (1 + y1))⟩ : api_Item)] :: Row K24 (.slice (some ⟨(oA (vA (η9 34))).block, 0, none⟩) 20 20) (List.replicate 20 (⟨0, 0⟩ : api_Item)) :: Row (Kr 27 3 (by decide)) (.slice (some ⟨(oA (vA (η9 37))).block, 0, none⟩) 10 10) [(⟨[.slice (some ⟨b6, 0, none⟩) 1 1, .int .i64 0, .int .i64 1], rfl, rfl⟩ : Raw 3), (⟨[.slice (some ⟨b6, 0, none⟩) 1 1, .int .i64 (w64 (0 - w64 (1 + y1))), .int .i64 1], rfl, rfl⟩ : Raw 3), (⟨[.slice (some ⟨b6, 0, none⟩) 1 1, .int .i64 10000001, .int .i64 1], rfl, rfl⟩ : Raw 3), (⟨[.slice (some ⟨(oA (vA (η9 8))).block, 0, none⟩) 21 21, .int .i64 1, .int .i64 1], rfl, rfl⟩ : Raw 3), (⟨[.slice (some ⟨(oA (vA (η9 13))).block, 0, none⟩) 1 1, .int .i64 1, .int .i64 1], rfl, rfl⟩ : Raw 3), (⟨[.slice (some ⟨(oA (vA (η9 18))).block, 0, none⟩) 2 2, .int .i64 1, .int .i64 1], rfl, rfl⟩ : Raw 3), (⟨[.slice (some ⟨(oA (vA (η9 24))).block, 0, none⟩) 2 2, .int .i64 1, .int .i64 1], rfl, rfl⟩ : Raw 3), (⟨[.slice (some ⟨(oA (vA (η9 32))).block, 0, none⟩) 3 3, .int .i64 10000000, .int .i64 0], rfl, rfl⟩ : Raw 3), (⟨[.slice (some ⟨(oA (vA (η9 34))).block, 0, none⟩) 20 20, .int .i64 1, .int .i64 0], rfl, rfl⟩ : Raw 3), (⟨[.slice none 0 0, .int .i64 5, .int .i64 0], rfl, rfl⟩ : Raw 3)] :: Γ) w ∧ scutagelaw25_FxErrors.j4 y1 q325 = some r0_) ?_ ?_
                · refine st_region ?_
                  refine r_pure (.int .i64 y317) rfl ?_
                  refine r_fa FA27_2 ⟨b310, 2, none⟩ rfl rfl ?_
                  refine r_ld1 (.int .i64 1) LD26 rfl ((H322.g1).cell _ rfl) ?_
                  refine r_pure (.bool (y317 != 1)) rfl ?_
                  refine r_pure (.bool (y317 != 1)) rfl ?_
                  rcases ite_some hm with ⟨hb476, hm⟩ | ⟨hb476, hm⟩
                  · refine r_not (wn_f rfl rfl (by decide) rfl hb476) ?_
                    refine r_not (wn_f rfl rfl (by decide) rfl hb476) ?_
                    refine r_not (wn_f rfl rfl (by decide) rfl hb476) ?_
                    refine r_not (wn_u rfl rfl (by decide) rfl rfl) ?_
                    refine r_not (wn_u rfl rfl (by decide) rfl rfl) ?_
                    refine r_not (wn_u rfl rfl (by decide) rfl rfl) ?_
                    refine r_not (wn_u rfl rfl (by decide) rfl rfl) ?_
                    refine r_not (wn_u rfl rfl (by decide) rfl rfl) ?_
                    refine r_not (wn_u rfl rfl (by decide) rfl rfl) ?_
                    refine r_not (wn_u rfl rfl (by decide) rfl rfl) ?_
                    refine r_not (wn_f rfl rfl (by decide) rfl hb476) ?_
                    refine r_pick_t (.bool true) hb476 rfl rfl ?_
                    refine r_pure (.bool true) rfl ?_
                    refine r_not (wn_f rfl rfl (by decide) rfl rfl) ?_
                    refine r_not (wn_f rfl rfl (by decide) rfl rfl) ?_
                    refine r_not (wn_f rfl rfl (by decide) rfl rfl) ?_
                    refine r_not (wn_u rfl rfl (by decide) rfl rfl) ?_
                    refine r_not (wn_u rfl rfl (by decide) rfl rfl) ?_
                    refine r_not (wn_u rfl rfl (by decide) rfl rfl) ?_
                    refine r_not (wn_u rfl rfl (by decide) rfl rfl) ?_
                    refine r_not (wn_u rfl rfl (by decide) rfl rfl) ?_
                    refine r_not (wn_u rfl rfl (by decide) rfl rfl) ?_
                    refine r_not (wn_f rfl rfl (by decide) rfl rfl) ?_
                    refine r_pick_t (.bool true) rfl rfl rfl ?_
                    refine r_nil ?_
                    refine n_cut ⟨true, upk (ac rfl (ac rfl (ac rfl (ac rfl an)))), H322.d.d.u7.u7.u7.u7.u7.u7.u7.u7, hm⟩
                  · refine r_pure (.int .i64 y317) rfl ?_ (wn_t rfl rfl (by decide) rfl hb476)
                    refine r_pure (.bool (y317 != 0)) rfl ?_ (wn_t rfl rfl (by decide) rfl hb476)
                    refine r_pure (.bool (y317 != 0)) rfl ?_ (wn_t rfl rfl (by decide) rfl hb476)
                    rcases ite_some hm with ⟨hb477, hm⟩ | ⟨hb477, hm⟩
                    · refine r_pure (.slice A319 y315.length c321) rfl ?_ (wn_t rfl rfl (by decide) rfl hb477)
                      refine r_len Try.underlying25 rfl ?_ (wn_t rfl rfl (by decide) rfl hb477)
                      refine r_pure (.bool ((y315.length : Int) != 0)) rfl ?_ (wn_t rfl rfl (by decide) rfl hb477)
                      refine r_pure (.bool ((y315.length : Int) != 0)) rfl ?_ (wn_t rfl rfl (by decide) rfl hb477)
                      rcases ite_some hm with ⟨hb478, hm⟩ | ⟨hb478, hm⟩
                      · refine r_not (wn_f rfl rfl (by decide) rfl hb478) ?_
                        refine r_not (wn_f rfl rfl (by decide) rfl hb478) ?_
                        refine r_pick_t (.bool true) hb478 rfl rfl ?_ (wn_t rfl rfl (by decide) rfl hb477)
                        refine r_pick_t (.bool true) hb477 rfl rfl ?_ (wn_t rfl rfl (by decide) rfl hb476)
                        refine r_pick_f (.bool true) hb476 rfl rfl ?_
                        refine r_pure (.bool true) rfl ?_
                        refine r_not (wn_f rfl rfl (by decide) rfl rfl) ?_
                        refine r_not (wn_f rfl rfl (by decide) rfl rfl) ?_
                        refine r_not (wn_f rfl rfl (by decide) rfl rfl) ?_
                        refine r_not (wn_u rfl rfl (by decide) rfl rfl) ?_
                        refine r_not (wn_u rfl rfl (by decide) rfl rfl) ?_
                        refine r_not (wn_u rfl rfl (by decide) rfl rfl) ?_
                        refine r_not (wn_u rfl rfl (by decide) rfl rfl) ?_
                        refine r_not (wn_u rfl rfl (by decide) rfl rfl) ?_
                        refine r_not (wn_u rfl rfl (by decide) rfl rfl) ?_
                        refine r_not (wn_f rfl rfl (by decide) rfl rfl) ?_
                        refine r_pick_t (.bool true) rfl rfl rfl ?_
                        refine r_nil ?_
                        refine n_cut ⟨true, upk (ac rfl (ac rfl (ac rfl (ac rfl an)))), H322.d.d.u7.u7.u7.u7.u7.u7.u7.u7, hm⟩
                      · refine r_pure (.int .i64 y316) rfl ?_ (wn_t rfl rfl (by decide) rfl hb478)
                        refine r_pure (.bool (y316 != 0)) rfl ?_ (wn_t rfl rfl (by decide) rfl hb478)
                        refine r_pick_f (.bool (y316 != 0)) hb478 rfl rfl ?_ (wn_t rfl rfl (by decide) rfl hb477)
                        refine r_pick_t (.bool (y316 != 0)) hb477 rfl rfl ?_ (wn_t rfl rfl (by decide) rfl hb476)
                        refine r_pick_f (.bool (y316 != 0)) hb476 rfl rfl ?_
                        refine r_pure (.bool (y316 != 0)) rfl ?_
                        rcases ite_some hm with ⟨hb479, hm⟩ | ⟨hb479, hm⟩
                        · refine r_not (wn_f rfl rfl (by decide) rfl hb479) ?_
                          refine r_not (wn_f rfl rfl (by decide) rfl hb479) ?_
                          refine r_not (wn_f rfl rfl (by decide) rfl hb479) ?_
                          refine r_not (wn_u rfl rfl (by decide) rfl rfl) ?_
                          refine r_not (wn_u rfl rfl (by decide) rfl rfl) ?_
                          refine r_not (wn_u rfl rfl (by decide) rfl rfl) ?_
                          refine r_not (wn_u rfl rfl (by decide) rfl rfl) ?_
                          refine r_not (wn_u rfl rfl (by decide) rfl rfl) ?_
                          refine r_not (wn_u rfl rfl (by decide) rfl rfl) ?_
                          refine r_not (wn_f rfl rfl (by decide) rfl hb479) ?_
                          refine r_pick_t (.bool true) hb479 rfl rfl ?_
                          refine r_nil ?_
                          refine n_cut ⟨true, upk (ac rfl (ac rfl (ac rfl (ac rfl an)))), H322.d.d.u7.u7.u7.u7.u7.u7.u7.u7, hm⟩
                        · refine r_pure (.int .i64 y317) rfl ?_ (wn_t rfl rfl (by decide) rfl hb479)
                          refine r_pure (.bool (y317 == 0)) rfl ?_ (wn_t rfl rfl (by decide) rfl hb479)
                          refine r_pure (.bool (y317 == 0)) rfl ?_ (wn_t rfl rfl (by decide) rfl hb479)
                          rcases ite_some hm with ⟨hb480, hm⟩ | ⟨hb480, hm⟩
                          · refine r_pure (.slice A319 y315.length c321) rfl ?_ (wn_t rfl rfl (by decide) rfl hb480)
                            refine r_len Try.underlying25 rfl ?_ (wn_t rfl rfl (by decide) rfl hb480)
                            refine r_fa FA27_0 ⟨b310, 0, none⟩ rfl rfl ?_ (wn_t rfl rfl (by decide) rfl hb480)
                            refine r_ld1 (.slice (some ⟨(oA (vA (η9 8))).block, 0, none⟩) 21 21) LD25 rfl ((H322.g1).cell _ rfl) ?_ (wn_t rfl rfl (by decide) rfl hb480)
                            refine r_len Try.underlying25 rfl ?_ (wn_t rfl rfl (by decide) rfl hb480)
                            refine r_pure (.bool ((y315.length : Int) != (21 : Int))) rfl ?_ (wn_t rfl rfl (by decide) rfl hb480)
                            refine r_pick_t (.bool ((y315.length : Int) != (21 : Int))) hb480 rfl rfl ?_ (wn_t rfl rfl (by decide) rfl hb479)
                            refine r_pick_f (.bool ((y315.length : Int) != (21 : Int))) hb479 rfl rfl ?_
                            refine r_nil ?_
                            refine n_cut ⟨(y315.length : Int) != (21 : Int), upk (ac rfl (ac rfl (ac rfl (ac rfl an)))), H322.d.d.u7.u7.u7.u7.u7.u7.u7.u7, hm⟩
                          · refine r_not (wn_f rfl rfl (by decide) rfl hb480) ?_
                            refine r_not (wn_f rfl rfl (by decide) rfl hb480) ?_
                            refine r_not (wn_f rfl rfl (by decide) rfl hb480) ?_
                            refine r_not (wn_f rfl rfl (by decide) rfl hb480) ?_
                            refine r_not (wn_f rfl rfl (by decide) rfl hb480) ?_
                            refine r_not (wn_f rfl rfl (by decide) rfl hb480) ?_
                            refine r_pick_f (.bool false) hb480 rfl rfl ?_ (wn_t rfl rfl (by decide) rfl hb479)
                            refine r_pick_f (.bool false) hb479 rfl rfl ?_
                            refine r_nil ?_
                            refine n_cut ⟨false, upk (ac rfl (ac rfl (ac rfl (ac rfl an)))), H322.d.d.u7.u7.u7.u7.u7.u7.u7.u7, hm⟩
                    · refine r_not (wn_f rfl rfl (by decide) rfl hb477) ?_
                      refine r_not (wn_f rfl rfl (by decide) rfl hb477) ?_
                      refine r_not (wn_f rfl rfl (by decide) rfl hb477) ?_
                      refine r_not (wn_f rfl rfl (by decide) rfl hb477) ?_
                      refine r_not (wn_u rfl rfl (by decide) rfl rfl) ?_
                      refine r_not (wn_u rfl rfl (by decide) rfl rfl) ?_
                      refine r_not (wn_f rfl rfl (by decide) rfl hb477) ?_
                      refine r_pick_f (.bool false) hb477 rfl rfl ?_ (wn_t rfl rfl (by decide) rfl hb476)
                      refine r_pick_f (.bool false) hb476 rfl rfl ?_
                      refine r_pure (.bool false) rfl ?_
                      refine r_pure (.int .i64 y317) rfl ?_ (wn_t rfl rfl (by decide) rfl rfl)
                      refine r_pure (.bool (y317 == 0)) rfl ?_ (wn_t rfl rfl (by decide) rfl rfl)
                      refine r_pure (.bool (y317 == 0)) rfl ?_ (wn_t rfl rfl (by decide) rfl rfl)
                      rcases ite_some hm with ⟨hb481, hm⟩ | ⟨hb481, hm⟩
                      · refine r_pure (.slice A319 y315.length c321) rfl ?_ (wn_t rfl rfl (by decide) rfl hb481)
                        refine r_len Try.underlying25 rfl ?_ (wn_t rfl rfl (by decide) rfl hb481)
                        refine r_fa FA27_0 ⟨b310, 0, none⟩ rfl rfl ?_ (wn_t rfl rfl (by decide) rfl hb481)
                        refine r_ld1 (.slice (some ⟨(oA (vA (η9 8))).block, 0, none⟩) 21 21) LD25 rfl ((H322.g1).cell _ rfl) ?_ (wn_t rfl rfl (by decide) rfl hb481)
                        refine r_len Try.underlying25 rfl ?_ (wn_t rfl rfl (by decide) rfl hb481)
                        refine r_pure (.bool ((y315.length : Int) != (21 : Int))) rfl ?_ (wn_t rfl rfl (by decide) rfl hb481)
                        refine r_pick_t (.bool ((y315.length : Int) != (21 : Int))) hb481 rfl rfl ?_ (wn_t rfl rfl (by decide) rfl rfl)
                        refine r_pick_f (.bool ((y315.length : Int) != (21 : Int))) rfl rfl rfl ?_
                        refine r_nil ?_
                        refine n_cut ⟨(y315.length : Int) != (21 : Int), upk (ac rfl (ac rfl (ac rfl (ac rfl an)))), H322.d.d.u7.u7.u7.u7.u7.u7.u7.u7, hm⟩
                      · refine r_not (wn_f rfl rfl (by decide) rfl hb481) ?_
                        refine r_not (wn_f rfl rfl (by decide) rfl hb481) ?_
                        refine r_not (wn_f rfl rfl (by decide) rfl hb481) ?_
                        refine r_not (wn_f rfl rfl (by decide) rfl hb481) ?_
                        refine r_not (wn_f rfl rfl (by decide) rfl hb481) ?_
                        refine r_not (wn_f rfl rfl (by decide) rfl hb481) ?_
                        refine r_pick_f (.bool false) hb481 rfl rfl ?_ (wn_t rfl rfl (by decide) rfl rfl)
                        refine r_pick_f (.bool false) rfl rfl rfl ?_
                        refine r_nil ?_
                        refine n_cut ⟨false, upk (ac rfl (ac rfl (ac rfl (ac rfl an)))), H322.d.d.u7.u7.u7.u7.u7.u7.u7.u7, hm⟩
                · rintro ρ w ⟨q325, ⟨base, rfl⟩, H326, hm⟩
                  unfold scutagelaw25_FxErrors.j4 at hm
                  rcases ite_some hm with ⟨hb327, hm⟩ | ⟨hb327, hm⟩
                  · refine st_condt hb327 rfl ?_
                    refine st_seq ?_
                    refine st_region ?_
                    refine r_pure (.bool false) rfl ?_
                    refine r_seq ?_
                    have hq_ := Option.some.inj hm
                    subst hq_
                    refine st_ret1 rfl rfl (Nat.le_of_ble_eq_true rfl) rfl ?_
                    exact ⟨rfl, H326.d.d.d.d.d.d.d.d⟩
                  · refine st_condf hb327 rfl ?_
                    refine st_skip ?_
                    refine n_bl ?_
                    refine n_sq ?_
                    refine st_region ?_
                    refine r_pure (.int .i64 4) rfl ?_
                    refine r_pure (.int .i64 4) rfl ?_
                    refine r_nil ?_
                    refine n_round ?_
                    refine l_round ?_
                    refine st_seq ?_
                    refine st_region ?_
                    refine r_pure (.bool (decide (4 < 10))) rfl ?_
                    refine r_seq ?_
                    refine st_seq ?_
                    refine st_condt (by decide) rfl ?_
                    refine st_skip ?_
                    refine n_sq ?_
                    refine st_seq ?_
                    refine st_block ?_
                    refine st_seq ?_
                    refine st_region ?_
                    refine r_ix IX28 rfl rfl rfl (by decide) (by decide) ?_
                    refine r_ldA [.slice (some ⟨(oA (vA (η9 13))).block, 0, none⟩) 1 1, .int .i64 1, .int .i64 1] LD27 rfl rfl ((H326.g7.rd).csA rfl (show ([(⟨[.slice (some ⟨b6, 0, none⟩) 1 1, .int .i64 0, .int .i64 1], rfl, rfl⟩ : Raw 3), (⟨[.slice (some ⟨b6, 0, none⟩) 1 1, .int .i64 (w64 (0 - w64 (1 + y1))), .int .i64 1], rfl, rfl⟩ : Raw 3), (⟨[.slice (some ⟨b6, 0, none⟩) 1 1, .int .i64 10000001, .int .i64 1], rfl, rfl⟩ : Raw 3), (⟨[.slice (some ⟨(oA (vA (η9 8))).block, 0, none⟩) 21 21, .int .i64 1, .int .i64 1], rfl, rfl⟩ : Raw 3), (⟨[.slice (some ⟨(oA (vA (η9 13))).block, 0, none⟩) 1 1, .int .i64 1, .int .i64 1], rfl, rfl⟩ : Raw 3), (⟨[.slice (some ⟨(oA (vA (η9 18))).block, 0, none⟩) 2 2, .int .i64 1, .int .i64 1], rfl, rfl⟩ : Raw 3), (⟨[.slice (some ⟨(oA (vA (η9 24))).block, 0, none⟩) 2 2, .int .i64 1, .int .i64 1], rfl, rfl⟩ : Raw 3), (⟨[.slice (some ⟨(oA (vA (η9 32))).block, 0, none⟩) 3 3, .int .i64 10000000, .int .i64 0], rfl, rfl⟩ : Raw 3), (⟨[.slice (some ⟨(oA (vA (η9 34))).block, 0, none⟩) 20 20, .int .i64 1, .int .i64 0], rfl, rfl⟩ : Raw 3), (⟨[.slice none 0 0, .int .i64 5, .int .i64 0], rfl, rfl⟩ : Raw 3)])[Int.toNat 4]? = some _ from rfl)) ?_
                    refine r_alloc [.slice none 0 0, .int .i64 0, .int .i64 0] Try.zeroValue27 H326 rfl ?_
                    intro b328 wd330 H329
                    refine r_stA [.slice (some ⟨(oA (vA (η9 13))).block, 0, none⟩) 1 1, .int .i64 1, .int .i64 1] LD27 rfl rfl rfl rfl H329 (by decide) rfl ?_
                    intro wd332 H331
                    refine r_seq ?_
                    refine st_seq ?_
                    refine st_region ?_
                    refine r_fa FA27_0 ⟨b328, 0, none⟩ rfl rfl ?_
                    refine r_ld1 (.slice (some ⟨(oA (vA (η9 13))).block, 0, none⟩) 1 1) LD25 rfl ((H331.g0).cell _ rfl) ?_
                    refine r_fa FA27_1 ⟨b328, 1, none⟩ rfl rfl ?_
                    refine r_ld1 (.int .i64 1) LD3 rfl ((H331.g0).cell _ rfl) ?_
                    obtain ⟨⟨y333, y334, y335⟩, hy336, hm⟩ := bind_some hm
                    refine r_callf Try.call7 (fx_Convert_ok [(⟨0, w64 (400000000000 + w64 (1 + y1))⟩ : api_Item)] (some ⟨(oA (vA (η9 13))).block, 0, none⟩) 1 1 rfl (((H331).g3).cap) (fun _ H => (H.g3.rd)) 1 y333 y334 y335 H331 hy336) ?_
                    rintro e342 wd341 ⟨A337, n338, c339, rfl, H340⟩
                    obtain rfl := (H340.g0).leneq
                    refine ⟨_, rfl, ?_⟩
                    refine r_pure (.tuple #[.slice A337 y333.length c339, .int .i64 y334, .int .i64 y335]) rfl ?_
                    refine r_pure (.slice A337 y333.length c339) rfl ?_
                    refine r_pure (.int .i64 y334) rfl ?_
                    refine r_pure (.int .i64 y335) rfl ?_
                    refine r_pure (.slice A337 y333.length c339) rfl ?_
                    refine r_pure (.int .i64 y334) rfl ?_
                    refine r_pure (.int .i64 y335) rfl ?_
                    refine r_seq ?_
                    refine st_cut (fun ρ w => ∃ q343 : Bool, (∃ base, ρ = updl base [(52, .slice (some ⟨(oA (vA (η9 37))).block, 0, none⟩) 10 10), (53, .int .i64 10), (54, .int .i64 4), (95, .bool q343)]) ∧ Hp w0 (Row K24 (.slice (some ⟨b6, 0, none⟩) 1 1) [(⟨1, w64 (1 + y1)⟩ : api_Item)] :: Row K24 (.slice (some ⟨(oA (vA (η9 8))).block, 0, none⟩) 21 21) (List.replicate 21 (⟨0, 0⟩ : api_Item)) :: Row K24 (.slice (some ⟨(oA (vA (η9 13))).block, 0, none⟩) 1 1) [(⟨0, w64 (400000000000 + w64 (1 + y1))⟩ : api_Item)] :: Row K24 (.slice (some ⟨(oA (vA (η9 18))).block, 0, none⟩) 2 2) [(⟨0, 400000000000⟩ : api_Item), (⟨0, w64 (1 + y1)⟩ : api_Item)] :: Row K24 (.slice (some ⟨(oA (vA (η9 24))).block, 0, none⟩) 2 2) [(⟨0, (-400000000000)⟩ : api_Item), (⟨0, w64 (0 - w64 (1 + y1))⟩ : api_Item)] :: Row K24 (.slice (some ⟨(oA (vA (η9 32))).block, 0, none⟩) 3 3) [(⟨0, 400000000000⟩ : api_Item), (⟨0, w64 (1 + y1)⟩ : api_Item), (⟨0, w64 (0 - w64 (1 + y1))⟩ : api_Item)] :: Row K24 (.slice (some ⟨(oA (vA (η9 34))).block, 0, none⟩) 20 20) (List.replicate 20 (⟨0, 0⟩ : api_Item)) :: Row (Kr 27 3 (by decide)) (.slice (some ⟨(oA (vA (η9 37))).block, 0, none⟩) 10 10) [(⟨[.slice (some ⟨b6, 0, none⟩) 1 1, .int .i64 0, .int .i64 1], rfl, rfl⟩ : Raw 3), (⟨[.slice (some ⟨b6, 0, none⟩) 1 1, .int .i64 (w64 (0 - w64 (1 + y1))), .int .i64 1], rfl, rfl⟩ : Raw 3), (⟨[.slice (some ⟨b6, 0, none⟩) 1 1, .int .i64 10000001, .int .i64 1], rfl, rfl⟩ : Raw 3), (⟨[.slice (some ⟨(oA (vA (η9 8))).block, 0, none⟩) 21 21, .int .i64 1, .int .i64 1], rfl, rfl⟩ : Raw 3), (⟨[.slice (some ⟨(oA (vA (η9 13))).block, 0, none⟩) 1 1, .int .i64 1, .int .i64 1], rfl, rfl⟩ : Raw 3), (⟨[.slice (some ⟨(oA (vA (η9 18))).block, 0, none⟩) 2 2, .int .i64 1, .int .i64 1], rfl, rfl⟩ : Raw 3), (⟨[.slice (some ⟨(oA (vA (η9 24))).block, 0, none⟩) 2 2, .int .i64 1, .int .i64 1], rfl, rfl⟩ : Raw 3), (⟨[.slice (some ⟨(oA (vA (η9 32))).block, 0, none⟩) 3 3, .int .i64 10000000, .int .i64 0], rfl, rfl⟩ : Raw 3), (⟨[.slice (some ⟨(oA (vA (η9 34))).block, 0, none⟩) 20 20, .int .i64 1, .int .i64 0], rfl, rfl⟩ : Raw 3), (⟨[.slice none 0 0, .int .i64 5, .int .i64 0], rfl, rfl⟩ : Raw 3)] :: Γ) w ∧ scutagelaw25_FxErrors.j5 y1 q343 = some r0_) ?_ ?_
                    · refine st_region ?_
                      refine r_pure (.int .i64 y335) rfl ?_
                      refine r_fa FA27_2 ⟨b328, 2, none⟩ rfl rfl ?_
                      refine r_ld1 (.int .i64 1) LD26 rfl ((H340.g1).cell _ rfl) ?_
                      refine r_pure (.bool (y335 != 1)) rfl ?_
                      refine r_pure (.bool (y335 != 1)) rfl ?_
                      rcases ite_some hm with ⟨hb470, hm⟩ | ⟨hb470, hm⟩
                      · refine r_not (wn_f rfl rfl (by decide) rfl hb470) ?_
                        refine r_not (wn_f rfl rfl (by decide) rfl hb470) ?_
                        refine r_not (wn_f rfl rfl (by decide) rfl hb470) ?_
                        refine r_not (wn_u rfl rfl (by decide) rfl rfl) ?_
                        refine r_not (wn_u rfl rfl (by decide) rfl rfl) ?_
                        refine r_not (wn_u rfl rfl (by decide) rfl rfl) ?_
                        refine r_not (wn_u rfl rfl (by decide) rfl rfl) ?_
                        refine r_not (wn_u rfl rfl (by decide) rfl rfl) ?_
                        refine r_not (wn_u rfl rfl (by decide) rfl rfl) ?_
                        refine r_not (wn_u rfl rfl (by decide) rfl rfl) ?_
                        refine r_not (wn_f rfl rfl (by decide) rfl hb470) ?_
                        refine r_pick_t (.bool true) hb470 rfl rfl ?_
                        refine r_pure (.bool true) rfl ?_
                        refine r_not (wn_f rfl rfl (by decide) rfl rfl) ?_
                        refine r_not (wn_f rfl rfl (by decide) rfl rfl) ?_
                        refine r_not (wn_f rfl rfl (by decide) rfl rfl) ?_
                        refine r_not (wn_u rfl rfl (by decide) rfl rfl) ?_
                        refine r_not (wn_u rfl rfl (by decide) rfl rfl) ?_
                        refine r_not (wn_u rfl rfl (by decide) rfl rfl) ?_
                        refine r_not (wn_u rfl rfl (by decide) rfl rfl) ?_
                        refine r_not (wn_u rfl rfl (by decide) rfl rfl) ?_
                        refine r_not (wn_u rfl rfl (by decide) rfl rfl) ?_
                        refine r_not (wn_f rfl rfl (by decide) rfl rfl) ?_
                        refine r_pick_t (.bool true) rfl rfl rfl ?_
                        refine r_nil ?_
                        refine n_cut ⟨true, upk (ac rfl (ac rfl (ac rfl (ac rfl an)))), H340.d.d.u7.u7.u7.u7.u7.u7.u7.u7, hm⟩
                      · refine r_pure (.int .i64 y335) rfl ?_ (wn_t rfl rfl (by decide) rfl hb470)
                        refine r_pure (.bool (y335 != 0)) rfl ?_ (wn_t rfl rfl (by decide) rfl hb470)
                        refine r_pure (.bool (y335 != 0)) rfl ?_ (wn_t rfl rfl (by decide) rfl hb470)
                        rcases ite_some hm with ⟨hb471, hm⟩ | ⟨hb471, hm⟩
                        · refine r_pure (.slice A337 y333.length c339) rfl ?_ (wn_t rfl rfl (by decide) rfl hb471)
                          refine r_len Try.underlying25 rfl ?_ (wn_t rfl rfl (by decide) rfl hb471)
                          refine r_pure (.bool ((y333.length : Int) != 0)) rfl ?_ (wn_t rfl rfl (by decide) rfl hb471)
                          refine r_pure (.bool ((y333.length : Int) != 0)) rfl ?_ (wn_t rfl rfl (by decide) rfl hb471)
                          rcases ite_some hm with ⟨hb472, hm⟩ | ⟨hb472, hm⟩
                          · refine r_not (wn_f rfl rfl (by decide) rfl hb472) ?_
                            refine r_not (wn_f rfl rfl (by decide) rfl hb472) ?_
                            refine r_pick_t (.bool true) hb472 rfl rfl ?_ (wn_t rfl rfl (by decide) rfl hb471)
                            refine r_pick_t (.bool true) hb471 rfl rfl ?_ (wn_t rfl rfl (by decide) rfl hb470)
                            refine r_pick_f (.bool true) hb470 rfl rfl ?_
                            refine r_pure (.bool true) rfl ?_
                            refine r_not (wn_f rfl rfl (by decide) rfl rfl) ?_
                            refine r_not (wn_f rfl rfl (by decide) rfl rfl) ?_
                            refine r_not (wn_f rfl rfl (by decide) rfl rfl) ?_
                            refine r_not (wn_u rfl rfl (by decide) rfl rfl) ?_
                            refine r_not (wn_u rfl rfl (by decide) rfl rfl) ?_
                            refine r_not (wn_u rfl rfl (by decide) rfl rfl) ?_
                            refine r_not (wn_u rfl rfl (by decide) rfl rfl) ?_
                            refine r_not (wn_u rfl rfl (by decide) rfl rfl) ?_
                            refine r_not (wn_u rfl rfl (by decide) rfl rfl) ?_
                            refine r_not (wn_f rfl rfl (by decide) rfl rfl) ?_
                            refine r_pick_t (.bool true) rfl rfl rfl ?_
                            refine r_nil ?_
                            refine n_cut ⟨true, upk (ac rfl (ac rfl (ac rfl (ac rfl an)))), H340.d.d.u7.u7.u7.u7.u7.u7.u7.u7, hm⟩
                          · refine r_pure (.int .i64 y334) rfl ?_ (wn_t rfl rfl (by decide) rfl hb472)
                            refine r_pure (.bool (y334 != 0)) rfl ?_ (wn_t rfl rfl (by decide) rfl hb472)
                            refine r_pick_f (.bool (y334 != 0)) hb472 rfl rfl ?_ (wn_t rfl rfl (by decide) rfl hb471)
                            refine r_pick_t (.bool (y334 != 0)) hb471 rfl rfl ?_ (wn_t rfl rfl (by decide) rfl hb470)
                            refine r_pick_f (.bool (y334 != 0)) hb470 rfl rfl ?_
                            refine r_pure (.bool (y334 != 0)) rfl ?_
                            rcases ite_some hm with ⟨hb473, hm⟩ | ⟨hb473, hm⟩
                            · refine r_not (wn_f rfl rfl (by decide) rfl hb473) ?_
                              refine r_not (wn_f rfl rfl (by decide) rfl hb473) ?_
                              refine r_not (wn_f rfl rfl (by decide) rfl hb473) ?_
                              refine r_not (wn_u rfl rfl (by decide) rfl rfl) ?_
                              refine r_not (wn_u rfl rfl (by decide) rfl rfl) ?_
                              refine r_not (wn_u rfl rfl (by decide) rfl rfl) ?_
                              refine r_not (wn_u rfl rfl (by decide) rfl rfl) ?_
                              refine r_not (wn_u rfl rfl (by decide) rfl rfl) ?_
                              refine r_not (wn_u rfl rfl (by decide) rfl rfl) ?_
                              refine r_not (wn_f rfl rfl (by decide) rfl hb473) ?_
                              refine r_pick_t (.bool true) hb473 rfl rfl ?_
                              refine r_nil ?_
                              refine n_cut ⟨true, upk (ac rfl (ac rfl (ac rfl (ac rfl an)))), H340.d.d.u7.u7.u7.u7.u7.u7.u7.u7, hm⟩
                            · refine r_pure (.int .i64 y335) rfl ?_ (wn_t rfl rfl (by decide) rfl hb473)
                              refine r_pure (.bool (y335 == 0)) rfl ?_ (wn_t rfl rfl (by decide) rfl hb473)
                              refine r_pure (.bool (y335 == 0)) rfl ?_ (wn_t rfl rfl (by decide) rfl hb473)
                              rcases ite_some hm with ⟨hb474, hm⟩ | ⟨hb474, hm⟩
                              · refine r_pure (.slice A337 y333.length c339) rfl ?_ (wn_t rfl rfl (by decide) rfl hb474)
                                refine r_len Try.underlying25 rfl ?_ (wn_t rfl rfl (by decide) rfl hb474)
                                refine r_fa FA27_0 ⟨b328, 0, none⟩ rfl rfl ?_ (wn_t rfl rfl (by decide) rfl hb474)
                                refine r_ld1 (.slice (some ⟨(oA (vA (η9 13))).block, 0, none⟩) 1 1) LD25 rfl ((H340.g1).cell _ rfl) ?_ (wn_t rfl rfl (by decide) rfl hb474)
                                refine r_len Try.underlying25 rfl ?_ (wn_t rfl rfl (by decide) rfl hb474)
                                refine r_pure (.bool ((y333.length : Int) != (1 : Int))) rfl ?_ (wn_t rfl rfl (by decide) rfl hb474)
                                refine r_pick_t (.bool ((y333.length : Int) != (1 : Int))) hb474 rfl rfl ?_ (wn_t rfl rfl (by decide) rfl hb473)
                                refine r_pick_f (.bool ((y333.length : Int) != (1 : Int))) hb473 rfl rfl ?_
                                refine r_nil ?_
                                refine n_cut ⟨(y333.length : Int) != (1 : Int), upk (ac rfl (ac rfl (ac rfl (ac rfl an)))), H340.d.d.u7.u7.u7.u7.u7.u7.u7.u7, hm⟩
                              · refine r_not (wn_f rfl rfl (by decide) rfl hb474) ?_
                                refine r_not (wn_f rfl rfl (by decide) rfl hb474) ?_
                                refine r_not (wn_f rfl rfl (by decide) rfl hb474) ?_
                                refine r_not (wn_f rfl rfl (by decide) rfl hb474) ?_
                                refine r_not (wn_f rfl rfl (by decide) rfl hb474) ?_
                                refine r_not (wn_f rfl rfl (by decide) rfl hb474) ?_
                                refine r_pick_f (.bool false) hb474 rfl rfl ?_ (wn_t rfl rfl (by decide) rfl hb473)
                                refine r_pick_f (.bool false) hb473 rfl rfl ?_
                                refine r_nil ?_
                                refine n_cut ⟨false, upk (ac rfl (ac rfl (ac rfl (ac rfl an)))), H340.d.d.u7.u7.u7.u7.u7.u7.u7.u7, hm⟩
                        · refine r_not (wn_f rfl rfl (by decide) rfl hb471) ?_
                          refine r_not (wn_f rfl rfl (by decide) rfl hb471) ?_
                          refine r_not (wn_f rfl rfl (by decide) rfl hb471) ?_
                          refine r_not (wn_f rfl rfl (by decide) rfl hb471) ?_
                          refine r_not (wn_u rfl rfl (by decide) rfl rfl) ?_
                          refine r_not (wn_u rfl rfl (by decide) rfl rfl) ?_
                          refine r_not (wn_f rfl rfl (by decide) rfl hb471) ?_
                          refine r_pick_f (.bool false) hb471 rfl rfl ?_ (wn_t rfl rfl (by decide) rfl hb470)
                          refine r_pick_f (.bool false) hb470 rfl rfl ?_
                          refine r_pure (.bool false) rfl ?_
                          refine r_pure (.int .i64 y335) rfl ?_ (wn_t rfl rfl (by decide) rfl rfl)
                          refine r_pure (.bool (y335 == 0)) rfl ?_ (wn_t rfl rfl (by decide) rfl rfl)
                          refine r_pure (.bool (y335 == 0)) rfl ?_ (wn_t rfl rfl (by decide) rfl rfl)
                          rcases ite_some hm with ⟨hb475, hm⟩ | ⟨hb475, hm⟩
                          · refine r_pure (.slice A337 y333.length c339) rfl ?_ (wn_t rfl rfl (by decide) rfl hb475)
                            refine r_len Try.underlying25 rfl ?_ (wn_t rfl rfl (by decide) rfl hb475)
                            refine r_fa FA27_0 ⟨b328, 0, none⟩ rfl rfl ?_ (wn_t rfl rfl (by decide) rfl hb475)
                            refine r_ld1 (.slice (some ⟨(oA (vA (η9 13))).block, 0, none⟩) 1 1) LD25 rfl ((H340.g1).cell _ rfl) ?_ (wn_t rfl rfl (by decide) rfl hb475)
                            refine r_len Try.underlying25 rfl ?_ (wn_t rfl rfl (by decide) rfl hb475)
                            refine r_pure (.bool ((y333.length : Int) != (1 : Int))) rfl ?_ (wn_t rfl rfl (by decide) rfl hb475)
                            refine r_pick_t (.bool ((y333.length : Int) != (1 : Int))) hb475 rfl rfl ?_ (wn_t rfl rfl (by decide) rfl rfl)
                            refine r_pick_f (.bool ((y333.length : Int) != (1 : Int))) rfl rfl rfl ?_
                            refine r_nil ?_
                            refine n_cut ⟨(y333.length : Int) != (1 : Int), upk (ac rfl (ac rfl (ac rfl (ac rfl an)))), H340.d.d.u7.u7.u7.u7.u7.u7.u7.u7, hm⟩
                          · refine r_not (wn_f rfl rfl (by decide) rfl hb475) ?_
                            refine r_not (wn_f rfl rfl (by decide) rfl hb475) ?_
                            refine r_not (wn_f rfl rfl (by decide) rfl hb475) ?_
                            refine r_not (wn_f rfl rfl (by decide) rfl hb475) ?_
                            refine r_not (wn_f rfl rfl (by decide) rfl hb475) ?_
                            refine r_not (wn_f rfl rfl (by decide) rfl hb475) ?_
                            refine r_pick_f (.bool false) hb475 rfl rfl ?_ (wn_t rfl rfl (by decide) rfl rfl)
                            refine r_pick_f (.bool false) rfl rfl rfl ?_
                            refine r_nil ?_
                            refine n_cut ⟨false, upk (ac rfl (ac rfl (ac rfl (ac rfl an)))), H340.d.d.u7.u7.u7.u7.u7.u7.u7.u7, hm⟩
                    · rintro ρ w ⟨q343, ⟨base, rfl⟩, H344, hm⟩
                      unfold scutagelaw25_FxErrors.j5 at hm
                      rcases ite_some hm with ⟨hb345, hm⟩ | ⟨hb345, hm⟩
                      · refine st_condt hb345 rfl ?_
                        refine st_seq ?_
                        refine st_region ?_
                        refine r_pure (.bool false) rfl ?_
                        refine r_seq ?_
                        have hq_ := Option.some.inj hm
                        subst hq_
                        refine st_ret1 rfl rfl (Nat.le_of_ble_eq_true rfl) rfl ?_
                        exact ⟨rfl, H344.d.d.d.d.d.d.d.d⟩
                      · refine st_condf hb345 rfl ?_
                        refine st_skip ?_
                        refine n_bl ?_
                        refine n_sq ?_
                        refine st_region ?_
                        refine r_pure (.int .i64 5) rfl ?_
                        refine r_pure (.int .i64 5) rfl ?_
                        refine r_nil ?_
                        refine n_round ?_
                        refine l_round ?_
                        refine st_seq ?_
                        refine st_region ?_
                        refine r_pure (.bool (decide (5 < 10))) rfl ?_
                        refine r_seq ?_
                        refine st_seq ?_
                        refine st_condt (by decide) rfl ?_
                        refine st_skip ?_
                        refine n_sq ?_
                        refine st_seq ?_
                        refine st_block ?_
                        refine st_seq ?_
                        refine st_region ?_
                        refine r_ix IX28 rfl rfl rfl (by decide) (by decide) ?_
                        refine r_ldA [.slice (some ⟨(oA (vA (η9 18))).block, 0, none⟩) 2 2, .int .i64 1, .int .i64 1] LD27 rfl rfl ((H344.g7.rd).csA rfl (show ([(⟨[.slice (some ⟨b6, 0, none⟩) 1 1, .int .i64 0, .int .i64 1], rfl, rfl⟩ : Raw 3), (⟨[.slice (some ⟨b6, 0, none⟩) 1 1, .int .i64 (w64 (0 - w64 (1 + y1))), .int .i64 1], rfl, rfl⟩ : Raw 3), (⟨[.slice (some ⟨b6, 0, none⟩) 1 1, .int .i64 10000001, .int .i64 1], rfl, rfl⟩ : Raw 3), (⟨[.slice (some ⟨(oA (vA (η9 8))).block, 0, none⟩) 21 21, .int .i64 1, .int .i64 1], rfl, rfl⟩ : Raw 3), (⟨[.slice (some ⟨(oA (vA (η9 13))).block, 0, none⟩) 1 1, .int .i64 1, .int .i64 1], rfl, rfl⟩ : Raw 3), (⟨[.slice (some ⟨(oA (vA (η9 18))).block, 0, none⟩) 2 2, .int .i64 1, .int .i64 1], rfl, rfl⟩ : Raw 3), (⟨[.slice (some ⟨(oA (vA (η9 24))).block, 0, none⟩) 2 2, .int .i64 1, .int .i64 1], rfl, rfl⟩ : Raw 3), (⟨[.slice (some ⟨(oA (vA (η9 32))).block, 0, none⟩) 3 3, .int .i64 10000000, .int .i64 0], rfl, rfl⟩ : Raw 3), (⟨[.slice (some ⟨(oA (vA (η9 34))).block, 0, none⟩) 20 20, .int .i64 1, .int .i64 0], rfl, rfl⟩ : Raw 3), (⟨[.slice none 0 0, .int .i64 5, .int .i64 0], rfl, rfl⟩ : Raw 3)])[Int.toNat 5]? = some _ from rfl)) ?_
                        refine r_alloc [.slice none 0 0, .int .i64 0, .int .i64 0] Try.zeroValue27 H344 rfl ?_
                        intro b346 wd348 H347
                        refine r_stA [.slice (some ⟨(oA (vA (η9 18))).block, 0, none⟩) 2 2, .int .i64 1, .int .i64 1] LD27 rfl rfl rfl rfl H347 (by decide) rfl ?_
                        intro wd350 H349
                        refine r_seq ?_
                        refine st_seq ?_
                        refine st_region ?_
                        refine r_fa FA27_0 ⟨b346, 0, none⟩ rfl rfl ?_
                        refine r_ld1 (.slice (some ⟨(oA (vA (η9 18))).block, 0, none⟩) 2 2) LD25 rfl ((H349.g0).cell _ rfl) ?_
                        refine r_fa FA27_1 ⟨b346, 1, none⟩ rfl rfl ?_
                        refine r_ld1 (.int .i64 1) LD3 rfl ((H349.g0).cell _ rfl) ?_
                        obtain ⟨⟨y351, y352, y353⟩, hy354, hm⟩ := bind_some hm
                        refine r_callf Try.call7 (fx_Convert_ok [(⟨0, 400000000000⟩ : api_Item), (⟨0, w64 (1 + y1)⟩ : api_Item)] (some ⟨(oA (vA (η9 18))).block, 0, none⟩) 2 2 rfl (((H349).g4).cap) (fun _ H => (H.g4.rd)) 1 y351 y352 y353 H349 hy354) ?_
                        rintro e360 wd359 ⟨A355, n356, c357, rfl, H358⟩
                        obtain rfl := (H358.g0).leneq
                        refine ⟨_, rfl, ?_⟩
                        refine r_pure (.tuple #[.slice A355 y351.length c357, .int .i64 y352, .int .i64 y353]) rfl ?_
                        refine r_pure (.slice A355 y351.length c357) rfl ?_
                        refine r_pure (.int .i64 y352) rfl ?_
                        refine r_pure (.int .i64 y353) rfl ?_
                        refine r_pure (.slice A355 y351.length c357) rfl ?_
                        refine r_pure (.int .i64 y352) rfl ?_
                        refine r_pure (.int .i64 y353) rfl ?_
                        refine r_seq ?_
                        refine st_cut (fun ρ w => ∃ q361 : Bool, (∃ base, ρ = updl base [(52, .slice (some ⟨(oA (vA (η9 37))).block, 0, none⟩) 10 10), (53, .int .i64 10), (54, .int .i64 5), (95, .bool q361)]) ∧ Hp w0 (Row K24 (.slice (some ⟨b6, 0, none⟩) 1 1) [(⟨1, w64 (1 + y1)⟩ : api_Item)] :: Row K24 (.slice (some ⟨(oA (vA (η9 8))).block, 0, none⟩) 21 21) (List.replicate 21 (⟨0, 0⟩ : api_Item)) :: Row K24 (.slice (some ⟨(oA (vA (η9 13))).block, 0, none⟩) 1 1) [(⟨0, w64 (400000000000 + w64 (1 + y1))⟩ : api_Item)] :: Row K24 (.slice (some ⟨(oA (vA (η9 18))).block, 0, none⟩) 2 2) [(⟨0, 400000000000⟩ : api_Item), (⟨0, w64 (1 + y1)⟩ : api_Item)] :: Row K24 (.slice (some ⟨(oA (vA (η9 24))).block, 0, none⟩) 2 2) [(⟨0, (-400000000000)⟩ : api_Item), (⟨0, w64 (0 - w64 (1 + y1))⟩ : api_Item)] :: Row K24 (.slice (some ⟨(oA (vA (η9 32))).block, 0, none⟩) 3 3) [(⟨0, 400000000000⟩ : api_Item), (⟨0, w64 (1 + y1)⟩ : api_Item), (⟨0, w64 (0 - w64 (1 + y1))⟩ : api_Item)] :: Row K24 (.slice (some ⟨(oA (vA (η9 34))).block, 0, none⟩) 20 20) (List.replicate 20 (⟨0, 0⟩ : api_Item)) :: Row (Kr 27 3 (by decide)) (.slice (some ⟨(oA (vA (η9 37))).block, 0, none⟩) 10 10) [(⟨[.slice (some ⟨b6, 0, none⟩) 1 1, .int .i64 0, .int .i64 1], rfl, rfl⟩ : Raw 3), (⟨[.slice (some ⟨b6, 0, none⟩) 1 1, .int .i64 (w64 (0 - w64 (1 + y1))), .int .i64 1], rfl, rfl⟩ : Raw 3), (⟨[.slice (some ⟨b6, 0, none⟩) 1 1, .int .i64 10000001, .int .i64 1], rfl, rfl⟩ : Raw 3), (⟨[.slice (some ⟨(oA (vA (η9 8))).block, 0, none⟩) 21 21, .int .i64 1, .int .i64 1], rfl, rfl⟩ : Raw 3), (⟨[.slice (some ⟨(oA (vA (η9 13))).block, 0, none⟩) 1 1, .int .i64 1, .int .i64 1], rfl, rfl⟩ : Raw 3), (⟨[.slice (some ⟨(oA (vA (η9 18))).block, 0, none⟩) 2 2, .int .i64 1, .int .i64 1], rfl, rfl⟩ : Raw 3), (⟨[.slice (some ⟨(oA (vA (η9 24))).block, 0, none⟩) 2 2, .int .i64 1, .int .i64 1], rfl, rfl⟩ : Raw 3), (⟨[.slice (some ⟨(oA (vA (η9 32))).block, 0, none⟩) 3 3, .int .i64 10000000, .int .i64 0], rfl, rfl⟩ : Raw 3), (⟨[.slice (some ⟨(oA (vA (η9 34))).block, 0, none⟩) 20 20, .int .i64 1, .int .i64 0], rfl, rfl⟩ : Raw 3), (⟨[.slice none 0 0, .int .i64 5, .int .i64 0], rfl, rfl⟩ : Raw 3)] :: Γ) w ∧ scutagelaw25_FxErrors.j6 y1 q361 = some r0_) ?_ ?_
                        · refine st_region ?_
                          refine r_pure (.int .i64 y353) rfl ?_
                          refine r_fa FA27_2 ⟨b346, 2, none⟩ rfl rfl ?_
                          refine r_ld1 (.int .i64 1) LD26 rfl ((H358.g1).cell _ rfl) ?_
                          refine r_pure (.bool (y353 != 1)) rfl ?_
                          refine r_pure (.bool (y353 != 1)) rfl ?_
                          rcases ite_some hm with ⟨hb464, hm⟩ | ⟨hb464, hm⟩
                          · refine r_not (wn_f rfl rfl (by decide) rfl hb464) ?_
                            refine r_not (wn_f rfl rfl (by decide) rfl hb464) ?_
                            refine r_not (wn_f rfl rfl (by decide) rfl hb464) ?_
                            refine r_not (wn_u rfl rfl (by decide) rfl rfl) ?_
                            refine r_not (wn_u rfl rfl (by decide) rfl rfl) ?_
                            refine r_not (wn_u rfl rfl (by decide) rfl rfl) ?_
                            refine r_not (wn_u rfl rfl (by decide) rfl rfl) ?_
                            refine r_not (wn_u rfl rfl (by decide) rfl rfl) ?_
                            refine r_not (wn_u rfl rfl (by decide) rfl rfl) ?_
                            refine r_not (wn_u rfl rfl (by decide) rfl rfl) ?_
                            refine r_not (wn_f rfl rfl (by decide) rfl hb464) ?_
                            refine r_pick_t (.bool true) hb464 rfl rfl ?_
                            refine r_pure (.bool true) rfl ?_
                            refine r_not (wn_f rfl rfl (by decide) rfl rfl) ?_
                            refine r_not (wn_f rfl rfl (by decide) rfl rfl) ?_
                            refine r_not (wn_f rfl rfl (by decide) rfl rfl) ?_
                            refine r_not (wn_u rfl rfl (by decide) rfl rfl) ?_
                            refine r_not (wn_u rfl rfl (by decide) rfl rfl) ?_
                            refine r_not (wn_u rfl rfl (by decide) rfl rfl) ?_
                            refine r_not (wn_u rfl rfl (by decide) rfl rfl) ?_
                            refine r_not (wn_u rfl rfl (by decide) rfl rfl) ?_
                            refine r_not (wn_u rfl rfl (by decide) rfl rfl) ?_
                            refine r_not (wn_f rfl rfl (by decide) rfl rfl) ?_
                            refine r_pick_t (.bool true) rfl rfl rfl ?_
                            refine r_nil ?_
                            refine n_cut ⟨true, upk (ac rfl (ac rfl (ac rfl (ac rfl an)))), H358.d.d.u7.u7.u7.u7.u7.u7.u7.u7, hm⟩
                          · refine r_pure (.int .i64 y353) rfl ?_ (wn_t rfl rfl (by decide) rfl hb464)
                            refine r_pure (.bool (y353 != 0)) rfl ?_ (wn_t rfl rfl (by decide) rfl hb464)
                            refine r_pure (.bool (y353 != 0)) rfl ?_ (wn_t rfl rfl (by decide) rfl hb464)
                            rcases ite_some hm with ⟨hb465, hm⟩ | ⟨hb465, hm⟩
                            · refine r_pure (.slice A355 y351.length c357) rfl ?_ (wn_t rfl rfl (by decide) rfl hb465)
                              refine r_len Try.underlying25 rfl ?_ (wn_t rfl rfl (by decide) rfl hb465)
                              refine r_pure (.bool ((y351.length : Int) != 0)) rfl ?_ (wn_t rfl rfl (by decide) rfl hb465)
                              refine r_pure (.bool ((y351.length : Int) != 0)) rfl ?_ (wn_t rfl rfl (by decide) rfl hb465)
                              rcases ite_some hm with ⟨hb466, hm⟩ | ⟨hb466, hm⟩
                              · refine r_not (wn_f rfl rfl (by decide) rfl hb466) ?_
                                refine r_not (wn_f rfl rfl (by decide) rfl hb466) ?_
                                refine r_pick_t (.bool true) hb466 rfl rfl ?_ (wn_t rfl rfl (by decide) rfl hb465)
                                refine r_pick_t (.bool true) hb465 rfl rfl ?_ (wn_t rfl rfl (by decide) rfl hb464)
                                refine r_pick_f (.bool true) hb464 rfl rfl ?_
                                refine r_pure (.bool true) rfl ?_
                                refine r_not (wn_f rfl rfl (by decide) rfl rfl) ?_
                                refine r_not (wn_f rfl rfl (by decide) rfl rfl) ?_
                                refine r_not (wn_f rfl rfl (by decide) rfl rfl) ?_
                                refine r_not (wn_u rfl rfl (by decide) rfl rfl) ?_
                                refine r_not (wn_u rfl rfl (by decide) rfl rfl) ?_
                                refine r_not (wn_u rfl rfl (by decide) rfl rfl) ?_
                                refine r_not (wn_u rfl rfl (by decide) rfl rfl) ?_
                                refine r_not (wn_u rfl rfl (by decide) rfl rfl) ?_
                                refine r_not (wn_u rfl rfl (by decide) rfl rfl) ?_
                                refine r_not (wn_f rfl rfl (by decide) rfl rfl) ?_
                                refine r_pick_t (.bool true) rfl rfl rfl ?_
                                refine r_nil ?_
                                refine n_cut ⟨true, upk (ac rfl (ac rfl (ac rfl (ac rfl an)))), H358.d.d.u7.u7.u7.u7.u7.u7.u7.u7, hm⟩
                              · refine r_pure (.int .i64 y352) rfl ?_ (wn_t rfl rfl (by decide) rfl hb466)
                                refine r_pure (.bool (y352 != 0)) rfl ?_ (wn_t rfl rfl (by decide) rfl hb466)
                                refine r_pick_f (.bool (y352 != 0)) hb466 rfl rfl ?_ (wn_t rfl rfl (by decide) rfl hb465)
                                refine r_pick_t (.bool (y352 != 0)) hb465 rfl rfl ?_ (wn_t rfl rfl (by decide) rfl hb464)
                                refine r_pick_f (.bool (y352 != 0)) hb464 rfl rfl ?_
                                refine r_pure (.bool (y352 != 0)) rfl ?_
                                rcases ite_some hm with ⟨hb467, hm⟩ | ⟨hb467, hm⟩
                                · refine r_not (wn_f rfl rfl (by decide) rfl hb467) ?_
                                  refine r_not (wn_f rfl rfl (by decide) rfl hb467) ?_
                                  refine r_not (wn_f rfl rfl (by decide) rfl hb467) ?_
                                  refine r_not (wn_u rfl rfl (by decide) rfl rfl) ?_
                                  refine r_not (wn_u rfl rfl (by decide) rfl rfl) ?_
                                  refine r_not (wn_u rfl rfl (by decide) rfl rfl) ?_
                                  refine r_not (wn_u rfl rfl (by decide) rfl rfl) ?_
                                  refine r_not (wn_u rfl rfl (by decide) rfl rfl) ?_
                                  refine r_not (wn_u rfl rfl (by decide) rfl rfl) ?_
                                  refine r_not (wn_f rfl rfl (by decide) rfl hb467) ?_
                                  refine r_pick_t (.bool true) hb467 rfl rfl ?_
                                  refine r_nil ?_
                                  refine n_cut ⟨true, upk (ac rfl (ac rfl (ac rfl (ac rfl an)))), H358.d.d.u7.u7.u7.u7.u7.u7.u7.u7, hm⟩
                                · refine r_pure (.int .i64 y353) rfl ?_ (wn_t rfl rfl (by decide) rfl hb467)
                                  refine r_pure (.bool (y353 == 0)) rfl ?_ (wn_t rfl rfl (by decide) rfl hb467)
                                  refine r_pure (.bool (y353 == 0)) rfl ?_ (wn_t rfl rfl (by decide) rfl hb467)
                                  rcases ite_some hm with ⟨hb468, hm⟩ | ⟨hb468, hm⟩
                                  · refine r_pure (.slice A355 y351.length c357) rfl ?_ (wn_t rfl rfl (by decide) rfl hb468)
                                    refine r_len Try.underlying25 rfl ?_ (wn_t rfl rfl (by decide) rfl hb468)
                                    refine r_fa FA27_0 ⟨b346, 0, none⟩ rfl rfl ?_ (wn_t rfl rfl (by decide) rfl hb468)
                                    refine r_ld1 (.slice (some ⟨(oA (vA (η9 18))).block, 0, none⟩) 2 2) LD25 rfl ((H358.g1).cell _ rfl) ?_ (wn_t rfl rfl (by decide) rfl hb468)
                                    refine r_len Try.underlying25 rfl ?_ (wn_t rfl rfl (by decide) rfl hb468)
                                    refine r_pure (.bool ((y351.length : Int) != (2 : Int))) rfl ?_ (wn_t rfl rfl (by decide) rfl hb468)
                                    refine r_pick_t (.bool ((y351.length : Int) != (2 : Int))) hb468 rfl rfl ?_ (wn_t rfl rfl (by decide) rfl hb467)
                                    refine r_pick_f (.bool ((y351.length : Int) != (2 : Int))) hb467 rfl rfl ?_
                                    refine r_nil ?_
                                    refine n_cut ⟨(y351.length : Int) != (2 : Int), upk (ac rfl (ac rfl (ac rfl (ac rfl an)))), H358.d.d.u7.u7.u7.u7.u7.u7.u7.u7, hm⟩
                                  · refine r_not (wn_f rfl rfl (by decide) rfl hb468) ?_
                                    refine r_not (wn_f rfl rfl (by decide) rfl hb468) ?_
                                    refine r_not (wn_f rfl rfl (by decide) rfl hb468) ?_
                                    refine r_not (wn_f rfl rfl (by decide) rfl hb468) ?_
                                    refine r_not (wn_f rfl rfl (by decide) rfl hb468) ?_
                                    refine r_not (wn_f rfl rfl (by decide) rfl hb468) ?_
                                    refine r_pick_f (.bool false) hb468 rfl rfl ?_ (wn_t rfl rfl (by decide) rfl hb467)
                                    refine r_pick_f (.bool false) hb467 rfl rfl ?_
                                    refine r_nil ?_
                                    refine n_cut ⟨false, upk (ac rfl (ac rfl (ac rfl (ac rfl an)))), H358.d.d.u7.u7.u7.u7.u7.u7.u7.u7, hm⟩
                            · refine r_not (wn_f rfl rfl (by decide) rfl hb465) ?_
                              refine r_not (wn_f rfl rfl (by decide) rfl hb465) ?_
                              refine r_not (wn_f rfl rfl (by decide) rfl hb465) ?_
                              refine r_not (wn_f rfl rfl (by decide) rfl hb465) ?_
                              refine r_not (wn_u rfl rfl (by decide) rfl rfl) ?_
                              refine r_not (wn_u rfl rfl (by decide) rfl rfl) ?_
                              refine r_not (wn_f rfl rfl (by decide) rfl hb465) ?_
                              refine r_pick_f (.bool false) hb465 rfl rfl ?_ (wn_t rfl rfl (by decide) rfl hb464)
                              refine r_pick_f (.bool false) hb464 rfl rfl ?_
                              refine r_pure (.bool false) rfl ?_
                              refine r_pure (.int .i64 y353) rfl ?_ (wn_t rfl rfl (by decide) rfl rfl)
                              refine r_pure (.bool (y353 == 0)) rfl ?_ (wn_t rfl rfl (by decide) rfl rfl)
                              refine r_pure (.bool (y353 == 0)) rfl ?_ (wn_t rfl rfl (by decide) rfl rfl)
                              rcases ite_some hm with ⟨hb469, hm⟩ | ⟨hb469, hm⟩
                              · refine r_pure (.slice A355 y351.length c357) rfl ?_ (wn_t rfl rfl (by decide) rfl hb469)
                                refine r_len Try.underlying25 rfl ?_ (wn_t rfl rfl (by decide) rfl hb469)
                                refine r_fa FA27_0 ⟨b346, 0, none⟩ rfl rfl ?_ (wn_t rfl rfl (by decide) rfl hb469)
                                refine r_ld1 (.slice (some ⟨(oA (vA (η9 18))).block, 0, none⟩) 2 2) LD25 rfl ((H358.g1).cell _ rfl) ?_ (wn_t rfl rfl (by decide) rfl hb469)
                                refine r_len Try.underlying25 rfl ?_ (wn_t rfl rfl (by decide) rfl hb469)
                                refine r_pure (.bool ((y351.length : Int) != (2 : Int))) rfl ?_ (wn_t rfl rfl (by decide) rfl hb469)
                                refine r_pick_t (.bool ((y351.length : Int) != (2 : Int))) hb469 rfl rfl ?_ (wn_t rfl rfl (by decide) rfl rfl)
                                refine r_pick_f (.bool ((y351.length : Int) != (2 : Int))) rfl rfl rfl ?_
                                refine r_nil ?_
                                refine n_cut ⟨(y351.length : Int) != (2 : Int), upk (ac rfl (ac rfl (ac rfl (ac rfl an)))), H358.d.d.u7.u7.u7.u7.u7.u7.u7.u7, hm⟩
                              · refine r_not (wn_f rfl rfl (by decide) rfl hb469) ?_
                                refine r_not (wn_f rfl rfl (by decide) rfl hb469) ?_
                                refine r_not (wn_f rfl rfl (by decide) rfl hb469) ?_
                                refine r_not (wn_f rfl rfl (by decide) rfl hb469) ?_
                                refine r_not (wn_f rfl rfl (by decide) rfl hb469) ?_
                                refine r_not (wn_f rfl rfl (by decide) rfl hb469) ?_
                                refine r_pick_f (.bool false) hb469 rfl rfl ?_ (wn_t rfl rfl (by decide) rfl rfl)
                                refine r_pick_f (.bool false) rfl rfl rfl ?_
                                refine r_nil ?_
                                refine n_cut ⟨false, upk (ac rfl (ac rfl (ac rfl (ac rfl an)))), H358.d.d.u7.u7.u7.u7.u7.u7.u7.u7, hm⟩
                        · rintro ρ w ⟨q361, ⟨base, rfl⟩, H362, hm⟩
                          unfold scutagelaw25_FxErrors.j6 at hm
                          rcases ite_some hm with ⟨hb363, hm⟩ | ⟨hb363, hm⟩
                          · refine st_condt hb363 rfl ?_
                            refine st_seq ?_
                            refine st_region ?_
                            refine r_pure (.bool false) rfl ?_
                            refine r_seq ?_
                            have hq_ := Option.some.inj hm
                            subst hq_
                            refine st_ret1 rfl rfl (Nat.le_of_ble_eq_true rfl) rfl ?_
                            exact ⟨rfl, H362.d.d.d.d.d.d.d.d⟩
                          · refine st_condf hb363 rfl ?_
                            refine st_skip ?_
                            refine n_bl ?_
                            refine n_sq ?_
                            refine st_region ?_
                            refine r_pure (.int .i64 6) rfl ?_
                            refine r_pure (.int .i64 6) rfl ?_
                            refine r_nil ?_
                            refine n_round ?_
                            refine l_round ?_
                            refine st_seq ?_
                            refine st_region ?_
                            refine r_pure (.bool (decide (6 < 10))) rfl ?_
                            refine r_seq ?_
                            refine st_seq ?_
                            refine st_condt (by decide) rfl ?_
                            refine st_skip ?_
                            refine n_sq ?_
                            refine st_seq ?_
                            refine st_block ?_
                            refine st_seq ?_
                            refine st_region ?_
                            refine r_ix IX28 rfl rfl rfl (by decide) (by decide) ?_
                            refine r_ldA [.slice (some ⟨(oA (vA (η9 24))).block, 0, none⟩) 2 2, .int .i64 1, .int .i64 1] LD27 rfl rfl ((H362.g7.rd).csA rfl (show ([(⟨[.slice (some ⟨b6, 0, none⟩) 1 1, .int .i64 0, .int .i64 1], rfl, rfl⟩ : Raw 3), (⟨[.slice (some ⟨b6, 0, none⟩) 1 1, .int .i64 (w64 (0 - w64 (1 + y1))), .int .i64 1], rfl, rfl⟩ : Raw 3), (⟨[.slice (some ⟨b6, 0, none⟩) 1 1, .int .i64 10000001, .int .i64 1], rfl, rfl⟩ : Raw 3), (⟨[.slice (some ⟨(oA (vA (η9 8))).block, 0, none⟩) 21 21, .int .i64 1, .int .i64 1], rfl, rfl⟩ : Raw 3), (⟨[.slice (some ⟨(oA (vA (η9 13))).block, 0, none⟩) 1 1, .int .i64 1, .int .i64 1], rfl, rfl⟩ : Raw 3), (⟨[.slice (some ⟨(oA (vA (η9 18))).block, 0, none⟩) 2 2, .int .i64 1, .int .i64 1], rfl, rfl⟩ : Raw 3), (⟨[.slice (some ⟨(oA (vA (η9 24))).block, 0, none⟩) 2 2, .int .i64 1, .int .i64 1], rfl, rfl⟩ : Raw 3), (⟨[.slice (some ⟨(oA (vA (η9 32))).block, 0, none⟩) 3 3, .int .i64 10000000, .int .i64 0], rfl, rfl⟩ : Raw 3), (⟨[.slice (some ⟨(oA (vA (η9 34))).block, 0, none⟩) 20 20, .int .i64 1, .int .i64 0], rfl, rfl⟩ : Raw 3), (⟨[.slice none 0 0, .int .i64 5, .int .i64 0], rfl, rfl⟩ : Raw 3)])[Int.toNat 6]? = some _ from rfl)) ?_
                            refine r_alloc [.slice none 0 0, .int .i64 0, .int .i64 0] Try.zeroValue27 H362 rfl ?_
                            intro b364 wd366 H365
                            refine r_stA [.slice (some ⟨(oA (vA (η9 24))).block, 0, none⟩) 2 2, .int .i64 1, .int .i64 1] LD27 rfl rfl rfl rfl H365 (by decide) rfl ?_
                            intro wd368 H367
                            refine r_seq ?_
                            refine st_seq ?_
                            refine st_region ?_
                            refine r_fa FA27_0 ⟨b364, 0, none⟩ rfl rfl ?_
                            refine r_ld1 (.slice (some ⟨(oA (vA (η9 24))).block, 0, none⟩) 2 2) LD25 rfl ((H367.g0).cell _ rfl) ?_
                            refine r_fa FA27_1 ⟨b364, 1, none⟩ rfl rfl ?_
                            refine r_ld1 (.int .i64 1) LD3 rfl ((H367.g0).cell _ rfl) ?_
                            obtain ⟨⟨y369, y370, y371⟩, hy372, hm⟩ := bind_some hm
                            refine r_callf Try.call7 (fx_Convert_ok [(⟨0, (-400000000000)⟩ : api_Item), (⟨0, w64 (0 - w64 (1 + y1))⟩ : api_Item)] (some ⟨(oA (vA (η9 24))).block, 0, none⟩) 2 2 rfl (((H367).g5).cap) (fun _ H => (H.g5.rd)) 1 y369 y370 y371 H367 hy372) ?_
                            rintro e378 wd377 ⟨A373, n374, c375, rfl, H376⟩
                            obtain rfl := (H376.g0).leneq
                            refine ⟨_, rfl, ?_⟩
                            refine r_pure (.tuple #[.slice A373 y369.length c375, .int .i64 y370, .int .i64 y371]) rfl ?_
                            refine r_pure (.slice A373 y369.length c375) rfl ?_
                            refine r_pure (.int .i64 y370) rfl ?_
                            refine r_pure (.int .i64 y371) rfl ?_
                            refine r_pure (.slice A373 y369.length c375) rfl ?_
                            refine r_pure (.int .i64 y370) rfl ?_
                            refine r_pure (.int .i64 y371) rfl ?_
                            refine r_seq ?_
                            refine st_cut (fun ρ w => ∃ q379 : Bool, (∃ base, ρ = updl base [(52, .slice (some ⟨(oA (vA (η9 37))).block, 0, none⟩) 10 10), (53, .int .i64 10), (54, .int .i64 6), (95, .bool q379)]) ∧ Hp w0 (Row K24 (.slice (some ⟨b6, 0, none⟩) 1 1) [(⟨1, w64 (1 + y1)⟩ : api_Item)] :: Row K24 (.slice (some ⟨(oA (vA (η9 8))).block, 0, none⟩) 21 21) (List.replicate 21 (⟨0, 0⟩ : api_Item)) :: Row K24 (.slice (some ⟨(oA (vA (η9 13))).block, 0, none⟩) 1 1) [(⟨0, w64 (400000000000 + w64 (1 + y1))⟩ : api_Item)] :: Row K24 (.slice (some ⟨(oA (vA (η9 18))).block, 0, none⟩) 2 2) [(⟨0, 400000000000⟩ : api_Item), (⟨0, w64 (1 + y1)⟩ : api_Item)] :: Row K24 (.slice (some ⟨(oA (vA (η9 24))).block, 0, none⟩) 2 2) [(⟨0, (-400000000000)⟩ : api_Item), (⟨0, w64 (0 - w64 (1 + y1))⟩ : api_Item)] :: Row K24 (.slice (some ⟨(oA (vA (η9 32))).block, 0, none⟩) 3 3) [(⟨0, 400000000000⟩ : api_Item), (⟨0, w64 (1 + y1)⟩ : api_Item), (⟨0, w64 (0 - w64 (1 + y1))⟩ : api_Item)] :: Row K24 (.slice (some ⟨(oA (vA (η9 34))).block, 0, none⟩) 20 20) (List.replicate 20 (⟨0, 0⟩ : api_Item)) :: Row (Kr 27 3 (by decide)) (.slice (some ⟨(oA (vA (η9 37))).block, 0, none⟩) 10 10) [(⟨[.slice (some ⟨b6, 0, none⟩) 1 1, .int .i64 0, .int .i64 1], rfl, rfl⟩ : Raw 3), (⟨[.slice (some ⟨b6, 0, none⟩) 1 1, .int .i64 (w64 (0 - w64 (1 + y1))), .int .i64 1], rfl, rfl⟩ : Raw 3), (⟨[.slice (some ⟨b6, 0, none⟩) 1 1, .int .i64 10000001, .int .i64 1], rfl, rfl⟩ : Raw 3), (⟨[.slice (some ⟨(oA (vA (η9 8))).block, 0, none⟩) 21 21, .int .i64 1, .int .i64 1], rfl, rfl⟩ : Raw 3), (⟨[.slice (some ⟨(oA (vA (η9 13))).block, 0, none⟩) 1 1, .int .i64 1, .int .i64 1], rfl, rfl⟩ : Raw 3), (⟨[.slice (some ⟨(oA (vA (η9 18))).block, 0, none⟩) 2 2, .int .i64 1, .int .i64 1], rfl, rfl⟩ : Raw 3), (⟨[.slice (some ⟨(oA (vA (η9 24))).block, 0, none⟩) 2 2, .int .i64 1, .int .i64 1], rfl, rfl⟩ : Raw 3), (⟨[.slice (some ⟨(oA (vA (η9 32))).block, 0, none⟩) 3 3, .int .i64 10000000, .int .i64 0], rfl, rfl⟩ : Raw 3), (⟨[.slice (some ⟨(oA (vA (η9 34))).block, 0, none⟩) 20 20, .int .i64 1, .int .i64 0], rfl, rfl⟩ : Raw 3), (⟨[.slice none 0 0, .int .i64 5, .int .i64 0], rfl, rfl⟩ : Raw 3)] :: Γ) w ∧ scutagelaw25_FxErrors.j7 y1 q379 = some r0_) ?_ ?_
                            · refine st_region ?_
                              refine r_pure (.int .i64 y371) rfl ?_
                              refine r_fa FA27_2 ⟨b364, 2, none⟩ rfl rfl ?_
                              refine r_ld1 (.int .i64 1) LD26 rfl ((H376.g1).cell _ rfl) ?_
                              refine r_pure (.bool (y371 != 1)) rfl ?_
                              refine r_pure (.bool (y371 != 1)) rfl ?_
                              rcases ite_some hm with ⟨hb458, hm⟩ | ⟨hb458, hm⟩
                              · refine r_not (wn_f rfl rfl (by decide) rfl hb458) ?_
                                refine r_not (wn_f rfl rfl (by decide) rfl hb458) ?_
                                refine r_not (wn_f rfl rfl (by decide) rfl hb458) ?_
                                refine r_not (wn_u rfl rfl (by decide) rfl rfl) ?_
                                refine r_not (wn_u rfl rfl (by decide) rfl rfl) ?_
                                refine r_not (wn_u rfl rfl (by decide) rfl rfl) ?_
                                refine r_not (wn_u rfl rfl (by decide) rfl rfl) ?_
                                refine r_not (wn_u rfl rfl (by decide) rfl rfl) ?_
                                refine r_not (wn_u rfl rfl (by decide) rfl rfl) ?_
                                refine r_not (wn_u rfl rfl (by decide) rfl rfl) ?_
                                refine r_not (wn_f rfl rfl (by decide) rfl hb458) ?_
                                refine r_pick_t (.bool true) hb458 rfl rfl ?_
                                refine r_pure (.bool true) rfl ?_
                                refine r_not (wn_f rfl rfl (by decide) rfl rfl) ?_
                                refine r_not (wn_f rfl rfl (by decide) rfl rfl) ?_
                                refine r_not (wn_f rfl rfl (by decide) rfl rfl) ?_
                                refine r_not (wn_u rfl rfl (by decide) rfl rfl) ?_
                                refine r_not (wn_u rfl rfl (by decide) rfl rfl) ?_
                                refine r_not (wn_u rfl rfl (by decide) rfl rfl) ?_
                                refine r_not (wn_u rfl rfl (by decide) rfl rfl) ?_
                                refine r_not (wn_u rfl rfl (by decide) rfl rfl) ?_
                                refine r_not (wn_u rfl rfl (by decide) rfl rfl) ?_
                                refine r_not (wn_f rfl rfl (by decide) rfl rfl) ?_
                                refine r_pick_t (.bool true) rfl rfl rfl ?_
                                refine r_nil ?_
                                refine n_cut ⟨true, upk (ac rfl (ac rfl (ac rfl (ac rfl an)))), H376.d.d.u7.u7.u7.u7.u7.u7.u7.u7, hm⟩
                              · refine r_pure (.int .i64 y371) rfl ?_ (wn_t rfl rfl (by decide) rfl hb458)
                                refine r_pure (.bool (y371 != 0)) rfl ?_ (wn_t rfl rfl (by decide) rfl hb458)
                                refine r_pure (.bool (y371 != 0)) rfl ?_ (wn_t rfl rfl (by decide) rfl hb458)
                                rcases ite_some hm with ⟨hb459, hm⟩ | ⟨hb459, hm⟩
                                · refine r_pure (.slice A373 y369.length c375) rfl ?_ (wn_t rfl rfl (by decide) rfl hb459)
                                  refine r_len Try.underlying25 rfl ?_ (wn_t rfl rfl (by decide) rfl hb459)
                                  refine r_pure (.bool ((y369.length : Int) != 0)) rfl ?_ (wn_t rfl rfl (by decide) rfl hb459)
                                  refine r_pure (.bool ((y369.length : Int) != 0)) rfl ?_ (wn_t rfl rfl (by decide) rfl hb459)
                                  rcases ite_some hm with ⟨hb460, hm⟩ | ⟨hb460, hm⟩
                                  · refine r_not (wn_f rfl rfl (by decide) rfl hb460) ?_
                                    refine r_not (wn_f rfl rfl (by decide) rfl hb460) ?_
                                    refine r_pick_t (.bool true) hb460 rfl rfl ?_ (wn_t rfl rfl (by decide) rfl hb459)
                                    refine r_pick_t (.bool true) hb459 rfl rfl ?_ (wn_t rfl rfl (by decide) rfl hb458)
                                    refine r_pick_f (.bool true) hb458 rfl rfl ?_
                                    refine r_pure (.bool true) rfl ?_
                                    refine r_not (wn_f rfl rfl (by decide) rfl rfl) ?_
                                    refine r_not (wn_f rfl rfl (by decide) rfl rfl) ?_
                                    refine r_not (wn_f rfl rfl (by decide) rfl rfl) ?_
                                    refine r_not (wn_u rfl rfl (by decide) rfl rfl) ?_
                                    refine r_not (wn_u rfl rfl (by decide) rfl rfl) ?_
                                    refine r_not (wn_u rfl rfl (by decide) rfl rfl) ?_
                                    refine r_not (wn_u rfl rfl (by decide) rfl rfl) ?_
                                    refine r_not (wn_u rfl rfl (by decide) rfl rfl) ?_
                                    refine r_not (wn_u rfl rfl (by decide) rfl rfl) ?_
                                    refine r_not (wn_f rfl rfl (by decide) rfl rfl) ?_
                                    refine r_pick_t (.bool true) rfl rfl rfl ?_
                                    refine r_nil ?_
                                    refine n_cut ⟨true, upk (ac rfl (ac rfl (ac rfl (ac rfl an)))), H376.d.d.u7.u7.u7.u7.u7.u7.u7.u7, hm⟩
                                  · refine r_pure (.int .i64 y370) rfl ?_ (wn_t rfl rfl (by decide) rfl hb460)
                                    refine r_pure (.bool (y370 != 0)) rfl ?_ (wn_t rfl rfl (by decide) rfl hb460)
                                    refine r_pick_f (.bool (y370 != 0)) hb460 rfl rfl ?_ (wn_t rfl rfl (by decide) rfl hb459)
                                    refine r_pick_t (.bool (y370 != 0)) hb459 rfl rfl ?_ (wn_t rfl rfl (by decide) rfl hb458)
                                    refine r_pick_f (.bool (y370 != 0)) hb458 rfl rfl ?_
                                    refine r_pure (.bool (y370 != 0)) rfl ?_
                                    rcases ite_some hm with ⟨hb461, hm⟩ | ⟨hb461, hm⟩
                                    · refine r_not (wn_f rfl rfl (by decide) rfl hb461) ?_
                                      refine r_not (wn_f rfl rfl (by decide) rfl hb461) ?_
                                      refine r_not (wn_f rfl rfl (by decide) rfl hb461) ?_
                                      refine r_not (wn_u rfl rfl (by decide) rfl rfl) ?_
                                      refine r_not (wn_u rfl rfl (by decide) rfl rfl) ?_
                                      refine r_not (wn_u rfl rfl (by decide) rfl rfl) ?_
                                      refine r_not (wn_u rfl rfl (by decide) rfl rfl) ?_
                                      refine r_not (wn_u rfl rfl (by decide) rfl rfl) ?_
                                      refine r_not (wn_u rfl rfl (by decide) rfl rfl) ?_
                                      refine r_not (wn_f rfl rfl (by decide) rfl hb461) ?_
                                      refine r_pick_t (.bool true) hb461 rfl rfl ?_
                                      refine r_nil ?_
                                      refine n_cut ⟨true, upk (ac rfl (ac rfl (ac rfl (ac rfl an)))), H376.d.d.u7.u7.u7.u7.u7.u7.u7.u7, hm⟩
                                    · refine r_pure (.int .i64 y371) rfl ?_ (wn_t rfl rfl (by decide) rfl hb461)
                                      refine r_pure (.bool (y371 == 0)) rfl ?_ (wn_t rfl rfl (by decide) rfl hb461)
                                      refine r_pure (.bool (y371 == 0)) rfl ?_ (wn_t rfl rfl (by decide) rfl hb461)
                                      rcases ite_some hm with ⟨hb462, hm⟩ | ⟨hb462, hm⟩
                                      · refine r_pure (.slice A373 y369.length c375) rfl ?_ (wn_t rfl rfl (by decide) rfl hb462)
                                        refine r_len Try.underlying25 rfl ?_ (wn_t rfl rfl (by decide) rfl hb462)
                                        refine r_fa FA27_0 ⟨b364, 0, none⟩ rfl rfl ?_ (wn_t rfl rfl (by decide) rfl hb462)
                                        refine r_ld1 (.slice (some ⟨(oA (vA (η9 24))).block, 0, none⟩) 2 2) LD25 rfl ((H376.g1).cell _ rfl) ?_ (wn_t rfl rfl (by decide) rfl hb462)
                                        refine r_len Try.underlying25 rfl ?_ (wn_t rfl rfl (by decide) rfl hb462)
                                        refine r_pure (.bool ((y369.length : Int) != (2 : Int))) rfl ?_ (wn_t rfl rfl (by decide) rfl hb462)
                                        refine r_pick_t (.bool ((y369.length : Int) != (2 : Int))) hb462 rfl rfl ?_ (wn_t rfl rfl (by decide) rfl hb461)
                                        refine r_pick_f (.bool ((y369.length : Int) != (2 : Int))) hb461 rfl rfl ?_
                                        refine r_nil ?_
                                        refine n_cut ⟨(y369.length : Int) != (2 : Int), upk (ac rfl (ac rfl (ac rfl (ac rfl an)))), H376.d.d.u7.u7.u7.u7.u7.u7.u7.u7, hm⟩
                                      · refine r_not (wn_f rfl rfl (by decide) rfl hb462) ?_
                                        refine r_not (wn_f rfl rfl (by decide) rfl hb462) ?_
                                        refine r_not (wn_f rfl rfl (by decide) rfl hb462) ?_
                                        refine r_not (wn_f rfl rfl (by decide) rfl hb462) ?_
                                        refine r_not (wn_f rfl rfl (by decide) rfl hb462) ?_
                                        refine r_not (wn_f rfl rfl (by decide) rfl hb462) ?_
                                        refine r_pick_f (.bool false) hb462 rfl rfl ?_ (wn_t rfl rfl (by decide) rfl hb461)
                                        refine r_pick_f (.bool false) hb461 rfl rfl ?_
                                        refine r_nil ?_
                                        refine n_cut ⟨false, upk (ac rfl (ac rfl (ac rfl (ac rfl an)))), H376.d.d.u7.u7.u7.u7.u7.u7.u7.u7, hm⟩
                                · refine r_not (wn_f rfl rfl (by decide) rfl hb459) ?_
                                  refine r_not (wn_f rfl rfl (by decide) rfl hb459) ?_
                                  refine r_not (wn_f rfl rfl (by decide) rfl hb459) ?_
                                  refine r_not (wn_f rfl rfl (by decide) rfl hb459) ?_
                                  refine r_not (wn_u rfl rfl (by decide) rfl rfl) ?_
                                  refine r_not (wn_u rfl rfl (by decide) rfl rfl) ?_
                                  refine r_not (wn_f rfl rfl (by decide) rfl hb459) ?_
                                  refine r_pick_f (.bool false) hb459 rfl rfl ?_ (wn_t rfl rfl (by decide) rfl hb458)
                                  refine r_pick_f (.bool false) hb458 rfl rfl ?_
                                  refine r_pure (.bool false) rfl ?_
                                  refine r_pure (.int .i64 y371) rfl ?_ (wn_t rfl rfl (by decide) rfl rfl)
                                  refine r_pure (.bool (y371 == 0)) rfl ?_ (wn_t rfl rfl (by decide) rfl rfl)
                                  refine r_pure (.bool (y371 == 0)) rfl ?_ (wn_t rfl rfl (by decide) rfl rfl)
                                  rcases ite_some hm with ⟨hb463, hm⟩ | ⟨hb463, hm⟩
                                  · refine r_pure (.slice A373 y369.length c375) rfl ?_ (wn_t rfl rfl (by decide) rfl hb463)
                                    refine r_len Try.underlying25 rfl ?_ (wn_t rfl rfl (by decide) rfl hb463)
                                    refine r_fa FA27_0 ⟨b364, 0, none⟩ rfl rfl ?_ (wn_t rfl rfl (by decide) rfl hb463)
                                    refine r_ld1 (.slice (some ⟨(oA (vA (η9 24))).block, 0, none⟩) 2 2) LD25 rfl ((H376.g1).cell _ rfl) ?_ (wn_t rfl rfl (by decide) rfl hb463)
                                    refine r_len Try.underlying25 rfl ?_ (wn_t rfl rfl (by decide) rfl hb463)
                                    refine r_pure (.bool ((y369.length : Int) != (2 : Int))) rfl ?_ (wn_t rfl rfl (by decide) rfl hb463)
                                    refine r_pick_t (.bool ((y369.length : Int) != (2 : Int))) hb463 rfl rfl ?_ (wn_t rfl rfl (by decide) rfl rfl)
                                    refine r_pick_f (.bool ((y369.length : Int) != (2 : Int))) rfl rfl rfl ?_
                                    refine r_nil ?_
                                    refine n_cut ⟨(y369.length : Int) != (2 : Int), upk (ac rfl (ac rfl (ac rfl (ac rfl an)))), H376.d.d.u7.u7.u7.u7.u7.u7.u7.u7, hm⟩
                                  · refine r_not (wn_f rfl rfl (by decide) rfl hb463) ?_
                                    refine r_not (wn_f rfl rfl (by decide) rfl hb463) ?_
                                    refine r_not (wn_f rfl rfl (by decide) rfl hb463) ?_
                                    refine r_not (wn_f rfl rfl (by decide) rfl hb463) ?_
                                    refine r_not (wn_f rfl rfl (by decide) rfl hb463) ?_
                                    refine r_not (wn_f rfl rfl (by decide) rfl hb463) ?_
                                    refine r_pick_f (.bool false) hb463 rfl rfl ?_ (wn_t rfl rfl (by decide) rfl rfl)
                                    refine r_pick_f (.bool false) rfl rfl rfl ?_
                                    refine r_nil ?_
                                    refine n_cut ⟨false, upk (ac rfl (ac rfl (ac rfl (ac rfl an)))), H376.d.d.u7.u7.u7.u7.u7.u7.u7.u7, hm⟩
                            · rintro ρ w ⟨q379, ⟨base, rfl⟩, H380, hm⟩
                              unfold scutagelaw25_FxErrors.j7 at hm
                              rcases ite_some hm with ⟨hb381, hm⟩ | ⟨hb381, hm⟩
                              · refine st_condt hb381 rfl ?_
                                refine st_seq ?_
                                refine st_region ?_
                                refine r_pure (.bool false) rfl ?_
                                refine r_seq ?_
                                have hq_ := Option.some.inj hm
                                subst hq_
                                refine st_ret1 rfl rfl (Nat.le_of_ble_eq_true rfl) rfl ?_
                                exact ⟨rfl, H380.d.d.d.d.d.d.d.d⟩
                              · refine st_condf hb381 rfl ?_
                                refine st_skip ?_
                                refine n_bl ?_
                                refine n_sq ?_
                                refine st_region ?_
                                refine r_pure (.int .i64 7) rfl ?_
                                refine r_pure (.int .i64 7) rfl ?_
                                refine r_nil ?_
                                refine n_round ?_
                                refine l_round ?_
                                refine st_seq ?_
                                refine st_region ?_
                                refine r_pure (.bool (decide (7 < 10))) rfl ?_
                                refine r_seq ?_
                                refine st_seq ?_
                                refine st_condt (by decide) rfl ?_
                                refine st_skip ?_
                                refine n_sq ?_
                                refine st_seq ?_
                                refine st_block ?_
                                refine st_seq ?_
                                refine st_region ?_
                                refine r_ix IX28 rfl rfl rfl (by decide) (by decide) ?_
                                refine r_ldA [.slice (some ⟨(oA (vA (η9 32))).block, 0, none⟩) 3 3, .int .i64 10000000, .int .i64 0] LD27 rfl rfl ((H380.g7.rd).csA rfl (show ([(⟨[.slice (some ⟨b6, 0, none⟩) 1 1, .int .i64 0, .int .i64 1], rfl, rfl⟩ : Raw 3), (⟨[.slice (some ⟨b6, 0, none⟩) 1 1, .int .i64 (w64 (0 - w64 (1 + y1))), .int .i64 1], rfl, rfl⟩ : Raw 3), (⟨[.slice (some ⟨b6, 0, none⟩) 1 1, .int .i64 10000001, .int .i64 1], rfl, rfl⟩ : Raw 3), (⟨[.slice (some ⟨(oA (vA (η9 8))).block, 0, none⟩) 21 21, .int .i64 1, .int .i64 1], rfl, rfl⟩ : Raw 3), (⟨[.slice (some ⟨(oA (vA (η9 13))).block, 0, none⟩) 1 1, .int .i64 1, .int .i64 1], rfl, rfl⟩ : Raw 3), (⟨[.slice (some ⟨(oA (vA (η9 18))).block, 0, none⟩) 2 2, .int .i64 1, .int .i64 1], rfl, rfl⟩ : Raw 3), (⟨[.slice (some ⟨(oA (vA (η9 24))).block, 0, none⟩) 2 2, .int .i64 1, .int .i64 1], rfl, rfl⟩ : Raw 3), (⟨[.slice (some ⟨(oA (vA (η9 32))).block, 0, none⟩) 3 3, .int .i64 10000000, .int .i64 0], rfl, rfl⟩ : Raw 3), (⟨[.slice (some ⟨(oA (vA (η9 34))).block, 0, none⟩) 20 20, .int .i64 1, .int .i64 0], rfl, rfl⟩ : Raw 3), (⟨[.slice none 0 0, .int .i64 5, .int .i64 0], rfl, rfl⟩ : Raw 3)])[Int.toNat 7]? = some _ from rfl)) ?_
                                refine r_alloc [.slice none 0 0, .int .i64 0, .int .i64 0] Try.zeroValue27 H380 rfl ?_
                                intro b382 wd384 H383
                                refine r_stA [.slice (some ⟨(oA (vA (η9 32))).block, 0, none⟩) 3 3, .int .i64 10000000, .int .i64 0] LD27 rfl rfl rfl rfl H383 (by decide) rfl ?_
                                intro wd386 H385
                                refine r_seq ?_
                                refine st_seq ?_
                                refine st_region ?_
                                refine r_fa FA27_0 ⟨b382, 0, none⟩ rfl rfl ?_
                                refine r_ld1 (.slice (some ⟨(oA (vA (η9 32))).block, 0, none⟩) 3 3) LD25 rfl ((H385.g0).cell _ rfl) ?_
                                refine r_fa FA27_1 ⟨b382, 1, none⟩ rfl rfl ?_
                                refine r_ld1 (.int .i64 10000000) LD3 rfl ((H385.g0).cell _ rfl) ?_
                                obtain ⟨⟨y387, y388, y389⟩, hy390, hm⟩ := bind_some hm
                                refine r_callf Try.call7 (fx_Convert_ok [(⟨0, 400000000000⟩ : api_Item), (⟨0, w64 (1 + y1)⟩ : api_Item), (⟨0, w64 (0 - w64 (1 + y1))⟩ : api_Item)] (some ⟨(oA (vA (η9 32))).block, 0, none⟩) 3 3 rfl (((H385).g6).cap) (fun _ H => (H.g6.rd)) 10000000 y387 y388 y389 H385 hy390) ?_
                                rintro e396 wd395 ⟨A391, n392, c393, rfl, H394⟩
                                obtain rfl := (H394.g0).leneq
                                refine ⟨_, rfl, ?_⟩
                                refine r_pure (.tuple #[.slice A391 y387.length c393, .int .i64 y388, .int .i64 y389]) rfl ?_
                                refine r_pure (.slice A391 y387.length c393) rfl ?_
                                refine r_pure (.int .i64 y388) rfl ?_
                                refine r_pure (.int .i64 y389) rfl ?_
                                refine r_pure (.slice A391 y387.length c393) rfl ?_
                                refine r_pure (.int .i64 y388) rfl ?_
                                refine r_pure (.int .i64 y389) rfl ?_
                                refine r_seq ?_
                                refine st_cut (fun ρ w => ∃ q397 : Bool, (∃ base, ρ = updl base [(52, .slice (some ⟨(oA (vA (η9 37))).block, 0, none⟩) 10 10), (53, .int .i64 10), (54, .int .i64 7), (95, .bool q397)]) ∧ Hp w0 (Row K24 (.slice (some ⟨b6, 0, none⟩) 1 1) [(⟨1, w64 (1 + y1)⟩ : api_Item)] :: Row K24 (.slice (some ⟨(oA (vA (η9 8))).block, 0, none⟩) 21 21) (List.replicate 21 (⟨0, 0⟩ : api_Item)) :: Row K24 (.slice (some ⟨(oA (vA (η9 13))).block, 0, none⟩) 1 1) [(⟨0, w64 (400000000000 + w64 (1 + y1))⟩ : api_Item)] :: Row K24 (.slice (some ⟨(oA (vA (η9 18))).block, 0, none⟩) 2 2) [(⟨0, 400000000000⟩ : api_Item), (⟨0, w64 (1 + y1)⟩ : api_Item)] :: Row K24 (.slice (some ⟨(oA (vA (η9 24))).block, 0, none⟩) 2 2) [(⟨0, (-400000000000)⟩ : api_Item), (⟨0, w64 (0 - w64 (1 + y1))⟩ : api_Item)] :: Row K24 (.slice (some ⟨(oA (vA (η9 32))).block, 0, none⟩) 3 3) [(⟨0, 400000000000⟩ : api_Item), (⟨0, w64 (1 + y1)⟩ : api_Item), (⟨0, w64 (0 - w64 (1 + y1))⟩ : api_Item)] :: Row K24 (.slice (some ⟨(oA (vA (η9 34))).block, 0, none⟩) 20 20) (List.replicate 20 (⟨0, 0⟩ : api_Item)) :: Row (Kr 27 3 (by decide)) (.slice (some ⟨(oA (vA (η9 37))).block, 0, none⟩) 10 10) [(⟨[.slice (some ⟨b6, 0, none⟩) 1 1, .int .i64 0, .int .i64 1], rfl, rfl⟩ : Raw 3), (⟨[.slice (some ⟨b6, 0, none⟩) 1 1, .int .i64 (w64 (0 - w64 (1 + y1))), .int .i64 1], rfl, rfl⟩ : Raw 3), (⟨[.slice (some ⟨b6, 0, none⟩) 1 1, .int .i64 10000001, .int .i64 1], rfl, rfl⟩ : Raw 3), (⟨[.slice (some ⟨(oA (vA (η9 8))).block, 0, none⟩) 21 21, .int .i64 1, .int .i64 1], rfl, rfl⟩ : Raw 3), (⟨[.slice (some ⟨(oA (vA (η9 13))).block, 0, none⟩) 1 1, .int .i64 1, .int .i64 1], rfl, rfl⟩ : Raw 3), (⟨[.slice (some ⟨(oA (vA (η9 18))).block, 0, none⟩) 2 2, .int .i64 1, .int .i64 1], rfl, rfl⟩ : Raw 3), (⟨[.slice (some ⟨(oA (vA (η9 24))).block, 0, none⟩) 2 2, .int .i64 1, .int .i64 1], rfl, rfl⟩ : Raw 3), (⟨[.slice (some ⟨(oA (vA (η9 32))).block, 0, none⟩) 3 3, .int .i64 10000000, .int .i64 0], rfl, rfl⟩ : Raw 3), (⟨[.slice (some ⟨(oA (vA (η9 34))).block, 0, none⟩) 20 20, .int .i64 1, .int .i64 0], rfl, rfl⟩ : Raw 3), (⟨[.slice none 0 0, .int .i64 5, .int .i64 0], rfl, rfl⟩ : Raw 3)] :: Γ) w ∧ scutagelaw25_FxErrors.j8 q397 = some r0_) ?_ ?_
                                · refine st_region ?_
                                  refine r_pure (.int .i64 y389) rfl ?_
                                  refine r_fa FA27_2 ⟨b382, 2, none⟩ rfl rfl ?_
                                  refine r_ld1 (.int .i64 0) LD26 rfl ((H394.g1).cell _ rfl) ?_
                                  refine r_pure (.bool (y389 != 0)) rfl ?_
                                  refine r_pure (.bool (y389 != 0)) rfl ?_
                                  rcases ite_some hm with ⟨hb456, hm⟩ | ⟨hb456, hm⟩
                                  · refine r_not (wn_f rfl rfl (by decide) rfl hb456) ?_
                                    refine r_not (wn_f rfl rfl (by decide) rfl hb456) ?_
                                    refine r_not (wn_f rfl rfl (by decide) rfl hb456) ?_
                                    refine r_not (wn_u rfl rfl (by decide) rfl rfl) ?_
                                    refine r_not (wn_u rfl rfl (by decide) rfl rfl) ?_
                                    refine r_not (wn_u rfl rfl (by decide) rfl rfl) ?_
                                    refine r_not (wn_u rfl rfl (by decide) rfl rfl) ?_
                                    refine r_not (wn_u rfl rfl (by decide) rfl rfl) ?_
                                    refine r_not (wn_u rfl rfl (by decide) rfl rfl) ?_
                                    refine r_not (wn_u rfl rfl (by decide) rfl rfl) ?_
                                    refine r_not (wn_f rfl rfl (by decide) rfl hb456) ?_
                                    refine r_pick_t (.bool true) hb456 rfl rfl ?_
                                    refine r_pure (.bool true) rfl ?_
                                    refine r_not (wn_f rfl rfl (by decide) rfl rfl) ?_
                                    refine r_not (wn_f rfl rfl (by decide) rfl rfl) ?_
                                    refine r_not (wn_f rfl rfl (by decide) rfl rfl) ?_
                                    refine r_not (wn_u rfl rfl (by decide) rfl rfl) ?_
                                    refine r_not (wn_u rfl rfl (by decide) rfl rfl) ?_
                                    refine r_not (wn_u rfl rfl (by decide) rfl rfl) ?_
                                    refine r_not (wn_u rfl rfl (by decide) rfl rfl) ?_
                                    refine r_not (wn_u rfl rfl (by decide) rfl rfl) ?_
                                    refine r_not (wn_u rfl rfl (by decide) rfl rfl) ?_
                                    refine r_not (wn_f rfl rfl (by decide) rfl rfl) ?_
                                    refine r_pick_t (.bool true) rfl rfl rfl ?_
                                    refine r_nil ?_
                                    refine n_cut ⟨true, upk (ac rfl (ac rfl (ac rfl (ac rfl an)))), H394.d.d.u7.u7.u7.u7.u7.u7.u7.u7, hm⟩
                                  · refine r_pure (.int .i64 y389) rfl ?_ (wn_t rfl rfl (by decide) rfl hb456)
                                    refine r_pure (.bool (y389 != 0)) rfl ?_ (wn_t rfl rfl (by decide) rfl hb456)
                                    refine r_pure (.bool (y389 != 0)) rfl ?_ (wn_t rfl rfl (by decide) rfl hb456)
                                    refine r_not (wn_f rfl rfl (by decide) rfl hb456) ?_
                                    refine r_not (wn_f rfl rfl (by decide) rfl hb456) ?_
                                    refine r_not (wn_f rfl rfl (by decide) rfl hb456) ?_
                                    refine r_not (wn_f rfl rfl (by decide) rfl hb456) ?_
                                    refine r_not (wn_u rfl rfl (by decide) rfl rfl) ?_
                                    refine r_not (wn_u rfl rfl (by decide) rfl rfl) ?_
                                    refine r_not (wn_f rfl rfl (by decide) rfl hb456) ?_
                                    refine r_pick_f (.bool false) hb456 rfl rfl ?_ (wn_t rfl rfl (by decide) rfl hb456)
                                    refine r_pick_f (.bool false) hb456 rfl rfl ?_
                                    refine r_pure (.bool false) rfl ?_
                                    refine r_pure (.int .i64 y389) rfl ?_ (wn_t rfl rfl (by decide) rfl rfl)
                                    refine r_pure (.bool (y389 == 0)) rfl ?_ (wn_t rfl rfl (by decide) rfl rfl)
                                    refine r_pure (.bool (y389 == 0)) rfl ?_ (wn_t rfl rfl (by decide) rfl rfl)
                                    rcases ite_some hm with ⟨hb457, hm⟩ | ⟨hb457, hm⟩
                                    · refine r_pure (.slice A391 y387.length c393) rfl ?_ (wn_t rfl rfl (by decide) rfl hb457)
                                      refine r_len Try.underlying25 rfl ?_ (wn_t rfl rfl (by decide) rfl hb457)
                                      refine r_fa FA27_0 ⟨b382, 0, none⟩ rfl rfl ?_ (wn_t rfl rfl (by decide) rfl hb457)
                                      refine r_ld1 (.slice (some ⟨(oA (vA (η9 32))).block, 0, none⟩) 3 3) LD25 rfl ((H394.g1).cell _ rfl) ?_ (wn_t rfl rfl (by decide) rfl hb457)
                                      refine r_len Try.underlying25 rfl ?_ (wn_t rfl rfl (by decide) rfl hb457)
                                      refine r_pure (.bool ((y387.length : Int) != (3 : Int))) rfl ?_ (wn_t rfl rfl (by decide) rfl hb457)
                                      refine r_pick_t (.bool ((y387.length : Int) != (3 : Int))) hb457 rfl rfl ?_ (wn_t rfl rfl (by decide) rfl rfl)
                                      refine r_pick_f (.bool ((y387.length : Int) != (3 : Int))) rfl rfl rfl ?_
                                      refine r_nil ?_
                                      refine n_cut ⟨(y387.length : Int) != (3 : Int), upk (ac rfl (ac rfl (ac rfl (ac rfl an)))), H394.d.d.u7.u7.u7.u7.u7.u7.u7.u7, hm⟩
                                    · refine r_not (wn_f rfl rfl (by decide) rfl hb457) ?_
                                      refine r_not (wn_f rfl rfl (by decide) rfl hb457) ?_
                                      refine r_not (wn_f rfl rfl (by decide) rfl hb457) ?_
                                      refine r_not (wn_f rfl rfl (by decide) rfl hb457) ?_
                                      refine r_not (wn_f rfl rfl (by decide) rfl hb457) ?_
                                      refine r_not (wn_f rfl rfl (by decide) rfl hb457) ?_
                                      refine r_pick_f (.bool false) hb457 rfl rfl ?_ (wn_t rfl rfl (by decide) rfl rfl)
                                      refine r_pick_f (.bool false) rfl rfl rfl ?_
                                      refine r_nil ?_
                                      refine n_cut ⟨false, upk (ac rfl (ac rfl (ac rfl (ac rfl an)))), H394.d.d.u7.u7.u7.u7.u7.u7.u7.u7, hm⟩
                                · rintro ρ w ⟨q397, ⟨base, rfl⟩, H398, hm⟩
                                  unfold scutagelaw25_FxErrors.j8 at hm
                                  rcases ite_some hm with ⟨hb399, hm⟩ | ⟨hb399, hm⟩
                                  · refine st_condt hb399 rfl ?_
                                    refine st_seq ?_
                                    refine st_region ?_
                                    refine r_pure (.bool false) rfl ?_
                                    refine r_seq ?_
                                    have hq_ := Option.some.inj hm
                                    subst hq_
                                    refine st_ret1 rfl rfl (Nat.le_of_ble_eq_true rfl) rfl ?_
                                    exact ⟨rfl, H398.d.d.d.d.d.d.d.d⟩
                                  · refine st_condf hb399 rfl ?_
                                    refine st_skip ?_
                                    refine n_bl ?_
                                    refine n_sq ?_
                                    refine st_region ?_
                                    refine r_pure (.int .i64 8) rfl ?_
                                    refine r_pure (.int .i64 8) rfl ?_
                                    refine r_nil ?_
                                    refine n_round ?_
                                    refine l_round ?_
                                    refine st_seq ?_
                                    refine st_region ?_
                                    refine r_pure (.bool (decide (8 < 10))) rfl ?_
                                    refine r_seq ?_
                                    refine st_seq ?_
                                    refine st_condt (by decide) rfl ?_
                                    refine st_skip ?_
                                    refine n_sq ?_
                                    refine st_seq ?_
                                    refine st_block ?_
                                    refine st_seq ?_
                                    refine st_region ?_
                                    refine r_ix IX28 rfl rfl rfl (by decide) (by decide) ?_
                                    refine r_ldA [.slice (some ⟨(oA (vA (η9 34))).block, 0, none⟩) 20 20, .int .i64 1, .int .i64 0] LD27 rfl rfl ((H398.g7.rd).csA rfl (show ([(⟨[.slice (some ⟨b6, 0, none⟩) 1 1, .int .i64 0, .int .i64 1], rfl, rfl⟩ : Raw 3), (⟨[.slice (some ⟨b6, 0, none⟩) 1 1, .int .i64 (w64 (0 - w64 (1 + y1))), .int .i64 1], rfl, rfl⟩ : Raw 3), (⟨[.slice (some ⟨b6, 0, none⟩) 1 1, .int .i64 10000001, .int .i64 1], rfl, rfl⟩ : Raw 3), (⟨[.slice (some ⟨(oA (vA (η9 8))).block, 0, none⟩) 21 21, .int .i64 1, .int .i64 1], rfl, rfl⟩ : Raw 3), (⟨[.slice (some ⟨(oA (vA (η9 13))).block, 0, none⟩) 1 1, .int .i64 1, .int .i64 1], rfl, rfl⟩ : Raw 3), (⟨[.slice (some ⟨(oA (vA (η9 18))).block, 0, none⟩) 2 2, .int .i64 1, .int .i64 1], rfl, rfl⟩ : Raw 3), (⟨[.slice (some ⟨(oA (vA (η9 24))).block, 0, none⟩) 2 2, .int .i64 1, .int .i64 1], rfl, rfl⟩ : Raw 3), (⟨[.slice (some ⟨(oA (vA (η9 32))).block, 0, none⟩) 3 3, .int .i64 10000000, .int .i64 0], rfl, rfl⟩ : Raw 3), (⟨[.slice (some ⟨(oA (vA (η9 34))).block, 0, none⟩) 20 20, .int .i64 1, .int .i64 0], rfl, rfl⟩ : Raw 3), (⟨[.slice none 0 0, .int .i64 5, .int .i64 0], rfl, rfl⟩ : Raw 3)])[Int.toNat 8]? = some _ from rfl)) ?_
                                    refine r_alloc [.slice none 0 0, .int .i64 0, .int .i64 0] Try.zeroValue27 H398 rfl ?_
                                    intro b400 wd402 H401
                                    refine r_stA [.slice (some ⟨(oA (vA (η9 34))).block, 0, none⟩) 20 20, .int .i64 1, .int .i64 0] LD27 rfl rfl rfl rfl H401 (by decide) rfl ?_
                                    intro wd404 H403
                                    refine r_seq ?_
                                    refine st_seq ?_
                                    refine st_region ?_
                                    refine r_fa FA27_0 ⟨b400, 0, none⟩ rfl rfl ?_
                                    refine r_ld1 (.slice (some ⟨(oA (vA (η9 34))).block, 0, none⟩) 20 20) LD25 rfl ((H403.g0).cell _ rfl) ?_
                                    refine r_fa FA27_1 ⟨b400, 1, none⟩ rfl rfl ?_
                                    refine r_ld1 (.int .i64 1) LD3 rfl ((H403.g0).cell _ rfl) ?_
                                    obtain ⟨⟨y405, y406, y407⟩, hy408, hm⟩ := bind_some hm
                                    refine r_callf Try.call7 (fx_Convert_ok (List.replicate 20 (⟨0, 0⟩ : api_Item)) (some ⟨(oA (vA (η9 34))).block, 0, none⟩) 20 20 rfl (((H403).g7).cap) (fun _ H => (H.g7.rd)) 1 y405 y406 y407 H403 hy408) ?_
                                    rintro e414 wd413 ⟨A409, n410, c411, rfl, H412⟩
                                    obtain rfl := (H412.g0).leneq
                                    refine ⟨_, rfl, ?_⟩
                                    refine r_pure (.tuple #[.slice A409 y405.length c411, .int .i64 y406, .int .i64 y407]) rfl ?_
                                    refine r_pure (.slice A409 y405.length c411) rfl ?_
                                    refine r_pure (.int .i64 y406) rfl ?_
                                    refine r_pure (.int .i64 y407) rfl ?_
                                    refine r_pure (.slice A409 y405.length c411) rfl ?_
                                    refine r_pure (.int .i64 y406) rfl ?_
                                    refine r_pure (.int .i64 y407) rfl ?_
                                    refine r_seq ?_
                                    refine st_cut (fun ρ w => ∃ q415 : Bool, (∃ base, ρ = updl base [(52, .slice (some ⟨(oA (vA (η9 37))).block, 0, none⟩) 10 10), (53, .int .i64 10), (54, .int .i64 8), (95, .bool q415)]) ∧ Hp w0 (Row K24 (.slice (some ⟨b6, 0, none⟩) 1 1) [(⟨1, w64 (1 + y1)⟩ : api_Item)] :: Row K24 (.slice (some ⟨(oA (vA (η9 8))).block, 0, none⟩) 21 21) (List.replicate 21 (⟨0, 0⟩ : api_Item)) :: Row K24 (.slice (some ⟨(oA (vA (η9 13))).block, 0, none⟩) 1 1) [(⟨0, w64 (400000000000 + w64 (1 + y1))⟩ : api_Item)] :: Row K24 (.slice (some ⟨(oA (vA (η9 18))).block, 0, none⟩) 2 2) [(⟨0, 400000000000⟩ : api_Item), (⟨0, w64 (1 + y1)⟩ : api_Item)] :: Row K24 (.slice (some ⟨(oA (vA (η9 24))).block, 0, none⟩) 2 2) [(⟨0, (-400000000000)⟩ : api_Item), (⟨0, w64 (0 - w64 (1 + y1))⟩ : api_Item)] :: Row K24 (.slice (some ⟨(oA (vA (η9 32))).block, 0, none⟩) 3 3) [(⟨0, 400000000000⟩ : api_Item), (⟨0, w64 (1 + y1)⟩ : api_Item), (⟨0, w64 (0 - w64 (1 + y1))⟩ : api_Item)] :: Row K24 (.slice (some ⟨(oA (vA (η9 34))).block, 0, none⟩) 20 20) (List.replicate 20 (⟨0, 0⟩ : api_Item)) :: Row (Kr 27 3 (by decide)) (.slice (some ⟨(oA (vA (η9 37))).block, 0, none⟩) 10 10) [(⟨[.slice (some ⟨b6, 0, none⟩) 1 1, .int .i64 0, .int .i64 1], rfl, rfl⟩ : Raw 3), (⟨[.slice (some ⟨b6, 0, none⟩) 1 1, .int .i64 (w64 (0 - w64 (1 + y1))), .int .i64 1], rfl, rfl⟩ : Raw 3), (⟨[.slice (some ⟨b6, 0, none⟩) 1 1, .int .i64 10000001, .int .i64 1], rfl, rfl⟩ : Raw 3), (⟨[.slice (some ⟨(oA (vA (η9 8))).block, 0, none⟩) 21 21, .int .i64 1, .int .i64 1], rfl, rfl⟩ : Raw 3), (⟨[.slice (some ⟨(oA (vA (η9 13))).block, 0, none⟩) 1 1, .int .i64 1, .int .i64 1], rfl, rfl⟩ : Raw 3), (⟨[.slice (some ⟨(oA (vA (η9 18))).block, 0, none⟩) 2 2, .int .i64 1, .int .i64 1], rfl, rfl⟩ : Raw 3), (⟨[.slice (some ⟨(oA (vA (η9 24))).block, 0, none⟩) 2 2, .int .i64 1, .int .i64 1], rfl, rfl⟩ : Raw 3), (⟨[.slice (some ⟨(oA (vA (η9 32))).block, 0, none⟩) 3 3, .int .i64 10000000, .int .i64 0], rfl, rfl⟩ : Raw 3), (⟨[.slice (some ⟨(oA (vA (η9 34))).block, 0, none⟩) 20 20, .int .i64 1, .int .i64 0], rfl, rfl⟩ : Raw 3), (⟨[.slice none 0 0, .int .i64 5, .int .i64 0], rfl, rfl⟩ : Raw 3)] :: Γ) w ∧ scutagelaw25_FxErrors.j9 q415 = some r0_) ?_ ?_
                                    · refine st_region ?_
                                      refine r_pure (.int .i64 y407) rfl ?_
                                      refine r_fa FA27_2 ⟨b400, 2, none⟩ rfl rfl ?_
                                      refine r_ld1 (.int .i64 0) LD26 rfl ((H412.g1).cell _ rfl) ?_
                                      refine r_pure (.bool (y407 != 0)) rfl ?_
                                      refine r_pure (.bool (y407 != 0)) rfl ?_
                                      rcases ite_some hm with ⟨hb454, hm⟩ | ⟨hb454, hm⟩
                                      · refine r_not (wn_f rfl rfl (by decide) rfl hb454) ?_
                                        refine r_not (wn_f rfl rfl (by decide) rfl hb454) ?_
                                        refine r_not (wn_f rfl rfl (by decide) rfl hb454) ?_
                                        refine r_not (wn_u rfl rfl (by decide) rfl rfl) ?_
                                        refine r_not (wn_u rfl rfl (by decide) rfl rfl) ?_
                                        refine r_not (wn_u rfl rfl (by decide) rfl rfl) ?_
                                        refine r_not (wn_u rfl rfl (by decide) rfl rfl) ?_
                                        refine r_not (wn_u rfl rfl (by decide) rfl rfl) ?_
                                        refine r_not (wn_u rfl rfl (by decide) rfl rfl) ?_
                                        refine r_not (wn_u rfl rfl (by decide) rfl rfl) ?_
                                        refine r_not (wn_f rfl rfl (by decide) rfl hb454) ?_
                                        refine r_pick_t (.bool true) hb454 rfl rfl ?_
                                        refine r_pure (.bool true) rfl ?_
                                        refine r_not (wn_f rfl rfl (by decide) rfl rfl) ?_
                                        refine r_not (wn_f rfl rfl (by decide) rfl rfl) ?_
                                        refine r_not (wn_f rfl rfl (by decide) rfl rfl) ?_
                                        refine r_not (wn_u rfl rfl (by decide) rfl rfl) ?_
                                        refine r_not (wn_u rfl rfl (by decide) rfl rfl) ?_
                                        refine r_not (wn_u rfl rfl (by decide) rfl rfl) ?_
                                        refine r_not (wn_u rfl rfl (by decide) rfl rfl) ?_
                                        refine r_not (wn_u rfl rfl (by decide) rfl rfl) ?_
                                        refine r_not (wn_u rfl rfl (by decide) rfl rfl) ?_
                                        refine r_not (wn_f rfl rfl (by decide) rfl rfl) ?_
                                        refine r_pick_t (.bool true) rfl rfl rfl ?_
                                        refine r_nil ?_
                                        refine n_cut ⟨true, upk (ac rfl (ac rfl (ac rfl (ac rfl an)))), H412.d.d.u7.u7.u7.u7.u7.u7.u7.u7, hm⟩
                                      · refine r_pure (.int .i64 y407) rfl ?_ (wn_t rfl rfl (by decide) rfl hb454)
                                        refine r_pure (.bool (y407 != 0)) rfl ?_ (wn_t rfl rfl (by decide) rfl hb454)
                                        refine r_pure (.bool (y407 != 0)) rfl ?_ (wn_t rfl rfl (by decide) rfl hb454)
                                        refine r_not (wn_f rfl rfl (by decide) rfl hb454) ?_
                                        refine r_not (wn_f rfl rfl (by decide) rfl hb454) ?_
                                        refine r_not (wn_f rfl rfl (by decide) rfl hb454) ?_
                                        refine r_not (wn_f rfl rfl (by decide) rfl hb454) ?_
                                        refine r_not (wn_u rfl rfl (by decide) rfl rfl) ?_
                                        refine r_not (wn_u rfl rfl (by decide) rfl rfl) ?_
                                        refine r_not (wn_f rfl rfl (by decide) rfl hb454) ?_
                                        refine r_pick_f (.bool false) hb454 rfl rfl ?_ (wn_t rfl rfl (by decide) rfl hb454)
                                        refine r_pick_f (.bool false) hb454 rfl rfl ?_
                                        refine r_pure (.bool false) rfl ?_
                                        refine r_pure (.int .i64 y407) rfl ?_ (wn_t rfl rfl (by decide) rfl rfl)
                                        refine r_pure (.bool (y407 == 0)) rfl ?_ (wn_t rfl rfl (by decide) rfl rfl)
                                        refine r_pure (.bool (y407 == 0)) rfl ?_ (wn_t rfl rfl (by decide) rfl rfl)
                                        rcases ite_some hm with ⟨hb455, hm⟩ | ⟨hb455, hm⟩
                                        · refine r_pure (.slice A409 y405.length c411) rfl ?_ (wn_t rfl rfl (by decide) rfl hb455)
                                          refine r_len Try.underlying25 rfl ?_ (wn_t rfl rfl (by decide) rfl hb455)
                                          refine r_fa FA27_0 ⟨b400, 0, none⟩ rfl rfl ?_ (wn_t rfl rfl (by decide) rfl hb455)
                                          refine r_ld1 (.slice (some ⟨(oA (vA (η9 34))).block, 0, none⟩) 20 20) LD25 rfl ((H412.g1).cell _ rfl) ?_ (wn_t rfl rfl (by decide) rfl hb455)
                                          refine r_len Try.underlying25 rfl ?_ (wn_t rfl rfl (by decide) rfl hb455)
                                          refine r_pure (.bool ((y405.length : Int) != (20 : Int))) rfl ?_ (wn_t rfl rfl (by decide) rfl hb455)
                                          refine r_pick_t (.bool ((y405.length : Int) != (20 : Int))) hb455 rfl rfl ?_ (wn_t rfl rfl (by decide) rfl rfl)
                                          refine r_pick_f (.bool ((y405.length : Int) != (20 : Int))) rfl rfl rfl ?_
                                          refine r_nil ?_
                                          refine n_cut ⟨(y405.length : Int) != (20 : Int), upk (ac rfl (ac rfl (ac rfl (ac rfl an)))), H412.d.d.u7.u7.u7.u7.u7.u7.u7.u7, hm⟩
                                        · refine r_not (wn_f rfl rfl (by decide) rfl hb455) ?_
                                          refine r_not (wn_f rfl rfl (by decide) rfl hb455) ?_
                                          refine r_not (wn_f rfl rfl (by decide) rfl hb455) ?_
                                          refine r_not (wn_f rfl rfl (by decide) rfl hb455) ?_
                                          refine r_not (wn_f rfl rfl (by decide) rfl hb455) ?_
                                          refine r_not (wn_f rfl rfl (by decide) rfl hb455) ?_
                                          refine r_pick_f (.bool false) hb455 rfl rfl ?_ (wn_t rfl rfl (by decide) rfl rfl)
                                          refine r_pick_f (.bool false) rfl rfl rfl ?_
                                          refine r_nil ?_
                                          refine n_cut ⟨false, upk (ac rfl (ac rfl (ac rfl (ac rfl an)))), H412.d.d.u7.u7.u7.u7.u7.u7.u7.u7, hm⟩
                                    · rintro ρ w ⟨q415, ⟨base, rfl⟩, H416, hm⟩
                                      unfold scutagelaw25_FxErrors.j9 at hm
                                      rcases ite_some hm with ⟨hb417, hm⟩ | ⟨hb417, hm⟩
                                      · refine st_condt hb417 rfl ?_
                                        refine st_seq ?_
                                        refine st_region ?_
                                        refine r_pure (.bool false) rfl ?_
                                        refine r_seq ?_
                                        have hq_ := Option.some.inj hm
                                        subst hq_
                                        refine st_ret1 rfl rfl (Nat.le_of_ble_eq_true rfl) rfl ?_
                                        exact ⟨rfl, H416.d.d.d.d.d.d.d.d⟩
                                      · refine st_condf hb417 rfl ?_
                                        refine st_skip ?_
                                        refine n_bl ?_
                                        refine n_sq ?_
                                        refine st_region ?_
                                        refine r_pure (.int .i64 9) rfl ?_
                                        refine r_pure (.int .i64 9) rfl ?_
                                        refine r_nil ?_
                                        refine n_round ?_
                                        refine l_round ?_
                                        refine st_seq ?_
                                        refine st_region ?_
                                        refine r_pure (.bool (decide (9 < 10))) rfl ?_
                                        refine r_seq ?_
                                        refine st_seq ?_
                                        refine st_condt (by decide) rfl ?_
                                        refine st_skip ?_
                                        refine n_sq ?_
                                        refine st_seq ?_
                                        refine st_block ?_
                                        refine st_seq ?_
                                        refine st_region ?_
                                        refine r_ix IX28 rfl rfl rfl (by decide) (by decide) ?_
                                        refine r_ldA [.slice none 0 0, .int .i64 5, .int .i64 0] LD27 rfl rfl ((H416.g7.rd).csA rfl (show ([(⟨[.slice (some ⟨b6, 0, none⟩) 1 1, .int .i64 0, .int .i64 1], rfl, rfl⟩ : Raw 3), (⟨[.slice (some ⟨b6, 0, none⟩) 1 1, .int .i64 (w64 (0 - w64 (1 + y1))), .int .i64 1], rfl, rfl⟩ : Raw 3), (⟨[.slice (some ⟨b6, 0, none⟩) 1 1, .int .i64 10000001, .int .i64 1], rfl, rfl⟩ : Raw 3), (⟨[.slice (some ⟨(oA (vA (η9 8))).block, 0, none⟩) 21 21, .int .i64 1, .int .i64 1], rfl, rfl⟩ : Raw 3), (⟨[.slice (some ⟨(oA (vA (η9 13))).block, 0, none⟩) 1 1, .int .i64 1, .int .i64 1], rfl, rfl⟩ : Raw 3), (⟨[.slice (some ⟨(oA (vA (η9 18))).block, 0, none⟩) 2 2, .int .i64 1, .int .i64 1], rfl, rfl⟩ : Raw 3), (⟨[.slice (some ⟨(oA (vA (η9 24))).block, 0, none⟩) 2 2, .int .i64 1, .int .i64 1], rfl, rfl⟩ : Raw 3), (⟨[.slice (some ⟨(oA (vA (η9 32))).block, 0, none⟩) 3 3, .int .i64 10000000, .int .i64 0], rfl, rfl⟩ : Raw 3), (⟨[.slice (some ⟨(oA (vA (η9 34))).block, 0, none⟩) 20 20, .int .i64 1, .int .i64 0], rfl, rfl⟩ : Raw 3), (⟨[.slice none 0 0, .int .i64 5, .int .i64 0], rfl, rfl⟩ : Raw 3)])[Int.toNat 9]? = some _ from rfl)) ?_
                                        refine r_alloc [.slice none 0 0, .int .i64 0, .int .i64 0] Try.zeroValue27 H416 rfl ?_
                                        intro b418 wd420 H419
                                        refine r_stA [.slice none 0 0, .int .i64 5, .int .i64 0] LD27 rfl rfl rfl rfl H419 (by decide) rfl ?_
                                        intro wd422 H421
                                        refine r_seq ?_
                                        refine st_seq ?_
                                        refine st_region ?_
                                        refine r_fa FA27_0 ⟨b418, 0, none⟩ rfl rfl ?_
                                        refine r_ld1 (.slice none 0 0) LD25 rfl ((H421.g0).cell _ rfl) ?_
                                        refine r_fa FA27_1 ⟨b418, 1, none⟩ rfl rfl ?_
                                        refine r_ld1 (.int .i64 5) LD3 rfl ((H421.g0).cell _ rfl) ?_
                                        obtain ⟨⟨y423, y424, y425⟩, hy426, hm⟩ := bind_some hm
                                        refine r_callf Try.call7 (fx_Convert_ok ([] : List api_Item) none 0 0 rfl (Nat.le_refl _) (fun _ H => (SlR.nil _ _ _)) 5 y423 y424 y425 H421 hy426) ?_
                                        rintro e432 wd431 ⟨A427, n428, c429, rfl, H430⟩
                                        obtain rfl := (H430.g0).leneq
                                        refine ⟨_, rfl, ?_⟩
                                        refine r_pure (.tuple #[.slice A427 y423.length c429, .int .i64 y424, .int .i64 y425]) rfl ?_
                                        refine r_pure (.slice A427 y423.length c429) rfl ?_
                                        refine r_pure (.int .i64 y424) rfl ?_
                                        refine r_pure (.int .i64 y425) rfl ?_
                                        refine r_pure (.slice A427 y423.length c429) rfl ?_
                                        refine r_pure (.int .i64 y424) rfl ?_
                                        refine r_pure (.int .i64 y425) rfl ?_
                                        refine r_seq ?_
                                        refine st_cut (fun ρ w => ∃ q433 : Bool, (∃ base, ρ = updl base [(52, .slice (some ⟨(oA (vA (η9 37))).block, 0, none⟩) 10 10), (53, .int .i64 10), (54, .int .i64 9), (95, .bool q433)]) ∧ Hp w0 (Row K24 (.slice (some ⟨b6, 0, none⟩) 1 1) [(⟨1, w64 (1 + y1)⟩ : api_Item)] :: Row K24 (.slice (some ⟨(oA (vA (η9 8))).block, 0, none⟩) 21 21) (List.replicate 21 (⟨0, 0⟩ : api_Item)) :: Row K24 (.slice (some ⟨(oA (vA (η9 13))).block, 0, none⟩) 1 1) [(⟨0, w64 (400000000000 + w64 (1 + y1))⟩ : api_Item)] :: Row K24 (.slice (some ⟨(oA (vA (η9 18))).block, 0, none⟩) 2 2) [(⟨0, 400000000000⟩ : api_Item), (⟨0, w64 (1 + y1)⟩ : api_Item)] :: Row K24 (.slice (some ⟨(oA (vA (η9 24))).block, 0, none⟩) 2 2) [(⟨0, (-400000000000)⟩ : api_Item), (⟨0, w64 (0 - w64 (1 + y1))⟩ : api_Item)] :: Row K24 (.slice (some ⟨(oA (vA (η9 32))).block, 0, none⟩) 3 3) [(⟨0, 400000000000⟩ : api_Item), (⟨0, w64 (1 + y1)⟩ : api_Item), (⟨0, w64 (0 - w64 (1 + y1))⟩ : api_Item)] :: Row K24 (.slice (some ⟨(oA (vA (η9 34))).block, 0, none⟩) 20 20) (List.replicate 20 (⟨0, 0⟩ : api_Item)) :: Row (Kr 27 3 (by decide)) (.slice (some ⟨(oA (vA (η9 37))).block, 0, none⟩) 10 10) [(⟨[.slice (some ⟨b6, 0, none⟩) 1 1, .int .i64 0, .int .i64 1], rfl, rfl⟩ : Raw 3), (⟨[.slice (some ⟨b6, 0, none⟩) 1 1, .int .i64 (w64 (0 - w64 (1 + y1))), .int .i64 1], rfl, rfl⟩ : Raw 3), (⟨[.slice (some ⟨b6, 0, none⟩) 1 1, .int .i64 10000001, .int .i64 1], rfl, rfl⟩ : Raw 3), (⟨[.slice (some ⟨(oA (vA (η9 8))).block, 0, none⟩) 21 21, .int .i64 1, .int .i64 1], rfl, rfl⟩ : Raw 3), (⟨[.slice (some ⟨(oA (vA (η9 13))).block, 0, none⟩) 1 1, .int .i64 1, .int .i64 1], rfl, rfl⟩ : Raw 3), (⟨[.slice (some ⟨(oA (vA (η9 18))).block, 0, none⟩) 2 2, .int .i64 1, .int .i64 1], rfl, rfl⟩ : Raw 3), (⟨[.slice (some ⟨(oA (vA (η9 24))).block, 0, none⟩) 2 2, .int .i64 1, .int .i64 1], rfl, rfl⟩ : Raw 3), (⟨[.slice (some ⟨(oA (vA (η9 32))).block, 0, none⟩) 3 3, .int .i64 10000000, .int .i64 0], rfl, rfl⟩ : Raw 3), (⟨[.slice (some ⟨(oA (vA (η9 34))).block, 0, none⟩) 20 20, .int .i64 1, .int .i64 0], rfl, rfl⟩ : Raw 3), (⟨[.slice none 0 0, .int .i64 5, .int .i64 0], rfl, rfl⟩ : Raw 3)] :: Γ) w ∧ scutagelaw25_FxErrors.j10 q433 = some r0_) ?_ ?_
                                        · refine st_region ?_
                                          refine r_pure (.int .i64 y425) rfl ?_
                                          refine r_fa FA27_2 ⟨b418, 2, none⟩ rfl rfl ?_
                                          refine r_ld1 (.int .i64 0) LD26 rfl ((H430.g1).cell _ rfl) ?_
                                          refine r_pure (.bool (y425 != 0)) rfl ?_
                                          refine r_pure (.bool (y425 != 0)) rfl ?_
                                          rcases ite_some hm with ⟨hb452, hm⟩ | ⟨hb452, hm⟩
                                          · refine r_not (wn_f rfl rfl (by decide) rfl hb452) ?_
                                            refine r_not (wn_f rfl rfl (by decide) rfl hb452) ?_
                                            refine r_not (wn_f rfl rfl (by decide) rfl hb452) ?_
                                            refine r_not (wn_u rfl rfl (by decide) rfl rfl) ?_
                                            refine r_not (wn_u rfl rfl (by decide) rfl rfl) ?_
                                            refine r_not (wn_u rfl rfl (by decide) rfl rfl) ?_
                                            refine r_not (wn_u rfl rfl (by decide) rfl rfl) ?_
                                            refine r_not (wn_u rfl rfl (by decide) rfl rfl) ?_
                                            refine r_not (wn_u rfl rfl (by decide) rfl rfl) ?_
                                            refine r_not (wn_u rfl rfl (by decide) rfl rfl) ?_
                                            refine r_not (wn_f rfl rfl (by decide) rfl hb452) ?_
                                            refine r_pick_t (.bool true) hb452 rfl rfl ?_
                                            refine r_pure (.bool true) rfl ?_
                                            refine r_not (wn_f rfl rfl (by decide) rfl rfl) ?_
                                            refine r_not (wn_f rfl rfl (by decide) rfl rfl) ?_
                                            refine r_not (wn_f rfl rfl (by decide) rfl rfl) ?_
                                            refine r_not (wn_u rfl rfl (by decide) rfl rfl) ?_
                                            refine r_not (wn_u rfl rfl (by decide) rfl rfl) ?_
                                            refine r_not (wn_u rfl rfl (by decide) rfl rfl) ?_
                                            refine r_not (wn_u rfl rfl (by decide) rfl rfl) ?_
                                            refine r_not (wn_u rfl rfl (by decide) rfl rfl) ?_
                                            refine r_not (wn_u rfl rfl (by decide) rfl rfl) ?_
                                            refine r_not (wn_f rfl rfl (by decide) rfl rfl) ?_
                                            refine r_pick_t (.bool true) rfl rfl rfl ?_
                                            refine r_nil ?_
                                            refine n_cut ⟨true, upk (ac rfl (ac rfl (ac rfl (ac rfl an)))), H430.d.d.u7.u7.u7.u7.u7.u7.u7.u7, hm⟩
                                          · refine r_pure (.int .i64 y425) rfl ?_ (wn_t rfl rfl (by decide) rfl hb452)
                                            refine r_pure (.bool (y425 != 0)) rfl ?_ (wn_t rfl rfl (by decide) rfl hb452)
                                            refine r_pure (.bool (y425 != 0)) rfl ?_ (wn_t rfl rfl (by decide) rfl hb452)
                                            refine r_not (wn_f rfl rfl (by decide) rfl hb452) ?_
                                            refine r_not (wn_f rfl rfl (by decide) rfl hb452) ?_
                                            refine r_not (wn_f rfl rfl (by decide) rfl hb452) ?_
                                            refine r_not (wn_f rfl rfl (by decide) rfl hb452) ?_
                                            refine r_not (wn_u rfl rfl (by decide) rfl rfl) ?_
                                            refine r_not (wn_u rfl rfl (by decide) rfl rfl) ?_
                                            refine r_not (wn_f rfl rfl (by decide) rfl hb452) ?_
                                            refine r_pick_f (.bool false) hb452 rfl rfl ?_ (wn_t rfl rfl (by decide) rfl hb452)
                                            refine r_pick_f (.bool false) hb452 rfl rfl ?_
                                            refine r_pure (.bool false) rfl ?_
                                            refine r_pure (.int .i64 y425) rfl ?_ (wn_t rfl rfl (by decide) rfl rfl)
                                            refine r_pure (.bool (y425 == 0)) rfl ?_ (wn_t rfl rfl (by decide) rfl rfl)
                                            refine r_pure (.bool (y425 == 0)) rfl ?_ (wn_t rfl rfl (by decide) rfl rfl)
                                            rcases ite_some hm with ⟨hb453, hm⟩ | ⟨hb453, hm⟩
                                            · refine r_pure (.slice A427 y423.length c429) rfl ?_ (wn_t rfl rfl (by decide) rfl hb453)
                                              refine r_len Try.underlying25 rfl ?_ (wn_t rfl rfl (by decide) rfl hb453)
                                              refine r_fa FA27_0 ⟨b418, 0, none⟩ rfl rfl ?_ (wn_t rfl rfl (by decide) rfl hb453)
                                              refine r_ld1 (.slice none 0 0) LD25 rfl ((H430.g1).cell _ rfl) ?_ (wn_t rfl rfl (by decide) rfl hb453)
                                              refine r_len Try.underlying25 rfl ?_ (wn_t rfl rfl (by decide) rfl hb453)
                                              refine r_pure (.bool ((y423.length : Int) != 0)) rfl ?_ (wn_t rfl rfl (by decide) rfl hb453)
                                              refine r_pick_t (.bool ((y423.length : Int) != 0)) hb453 rfl rfl ?_ (wn_t rfl rfl (by decide) rfl rfl)
                                              refine r_pick_f (.bool ((y423.length : Int) != 0)) rfl rfl rfl ?_
                                              refine r_nil ?_
                                              refine n_cut ⟨(y423.length : Int) != 0, upk (ac rfl (ac rfl (ac rfl (ac rfl an)))), H430.d.d.u7.u7.u7.u7.u7.u7.u7.u7, hm⟩
                                            · refine r_not (wn_f rfl rfl (by decide) rfl hb453) ?_
                                              refine r_not (wn_f rfl rfl (by decide) rfl hb453) ?_
                                              refine r_not (wn_f rfl rfl (by decide) rfl hb453) ?_
                                              refine r_not (wn_f rfl rfl (by decide) rfl hb453) ?_
                                              refine r_not (wn_f rfl rfl (by decide) rfl hb453) ?_
                                              refine r_not (wn_f rfl rfl (by decide) rfl hb453) ?_
                                              refine r_pick_f (.bool false) hb453 rfl rfl ?_ (wn_t rfl rfl (by decide) rfl rfl)
                                              refine r_pick_f (.bool false) rfl rfl rfl ?_
                                              refine r_nil ?_
                                              refine n_cut ⟨false, upk (ac rfl (ac rfl (ac rfl (ac rfl an)))), H430.d.d.u7.u7.u7.u7.u7.u7.u7.u7, hm⟩
                                        · rintro ρ w ⟨q433, ⟨base, rfl⟩, H434, hm⟩
                                          unfold scutagelaw25_FxErrors.j10 at hm
                                          rcases ite_some hm with ⟨hb435, hm⟩ | ⟨hb435, hm⟩
                                          · refine st_condt hb435 rfl ?_
                                            refine st_seq ?_
                                            refine st_region ?_
                                            refine r_pure (.bool false) rfl ?_
                                            refine r_seq ?_
                                            have hq_ := Option.some.inj hm
                                            subst hq_
                                            refine st_ret1 rfl rfl (Nat.le_of_ble_eq_true rfl) rfl ?_
                                            exact ⟨rfl, H434.d.d.d.d.d.d.d.d⟩
                                          · refine st_condf hb435 rfl ?_
                                            refine st_skip ?_
                                            refine n_bl ?_
                                            refine n_sq ?_
                                            refine st_region ?_
                                            refine r_pure (.int .i64 10) rfl ?_
                                            refine r_pure (.int .i64 10) rfl ?_
                                            refine r_nil ?_
                                            refine n_round ?_
                                            refine l_round ?_
                                            refine st_seq ?_
                                            refine st_region ?_
                                            refine r_pure (.bool (decide (10 < 10))) rfl ?_
                                            refine r_seq ?_
                                            refine st_seq ?_
                                            refine st_condf (by decide) rfl ?_
                                            refine st_exit rfl ?_
                                            refine n_sq ?_
                                            refine st_cut (fun ρ w => ∃ q436 : Bool, (∃ base, ρ = updl base [(2, .bool q436)]) ∧ Hp w0 (Γ) w ∧ scutagelaw25_FxErrors.j11 q436 = some r0_) ?_ ?_
                                            · refine st_region ?_
                                              obtain ⟨y438, hy439, hm⟩ := bind_some hm
                                              refine r_callf Try.call8 (fx_Add_ok ([] : List api_Item) none 0 0 rfl (Nat.le_refl _) (fun _ H => (SlR.nil _ _ _)) ([] : List api_Item) none 0 0 rfl (Nat.le_refl _) (fun _ H => (SlR.nil _ _ _)) y438 H434 hy439) ?_
                                              rintro e445 wd444 ⟨A440, n441, c442, rfl, H443⟩
                                              obtain rfl := (H443.g0).leneq
                                              refine ⟨_, rfl, ?_⟩
                                              refine r_len Try.underlying25 rfl ?_
                                              refine r_pure (.bool ((y438.length : Int) == 0)) rfl ?_
                                              refine r_pure (.bool ((y438.length : Int) == 0)) rfl ?_
                                              rcases ite_some hm with ⟨hb446, hm⟩ | ⟨hb446, hm⟩
                                              · obtain ⟨y447, hy448, hm⟩ := bind_some hm
                                                refine r_callf Try.call9 (scutagelaw25_wakes_ok  y447 H443 hy448) ?_ (wn_t rfl rfl (by decide) rfl hb446)
                                                rintro e451 wd450 ⟨rfl, H449⟩
                                                refine ⟨_, rfl, ?_⟩
                                                refine r_pick_t (.bool y447) hb446 rfl rfl ?_
                                                refine r_pure (.bool y447) rfl ?_
                                                refine r_nil ?_
                                                refine n_cut ⟨y447, upk (ac rfl an), H449.d.d.d.d.d.d.d.d.d, hm⟩
                                              · refine r_not (wn_f rfl rfl (by decide) rfl hb446) ?_
                                                refine r_pick_f (.bool false) hb446 rfl rfl ?_
                                                refine r_pure (.bool false) rfl ?_
                                                refine r_nil ?_
                                                refine n_cut ⟨false, upk (ac rfl an), H443.d.d.d.d.d.d.d.d.d, hm⟩
                                            · rintro ρ w ⟨q436, ⟨base, rfl⟩, H437, hm⟩
                                              unfold scutagelaw25_FxErrors.j11 at hm
                                              have hq_ := Option.some.inj hm
                                              subst hq_
                                              refine st_ret1 rfl rfl (Nat.le_of_ble_eq_true rfl) rfl ?_
                                              exact ⟨rfl, H437⟩


end Go.Proofs.Ytfoefkihcnenaaa
