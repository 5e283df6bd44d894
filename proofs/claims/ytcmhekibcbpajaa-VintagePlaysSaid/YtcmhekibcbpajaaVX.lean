/- The Go functions come to their models: printed by gen.py. -/
import Derived.Test.YtcmhekibcbpajaaVX1
set_option linter.unusedVariables false
set_option linter.unusedSimpArgs false
set_option maxRecDepth 100000
namespace Go.Proofs.Ytcmhekibcbpajaa
open Go Go.RowKit
attribute [local irreducible] W R N L Hp Row SlR Bx

set_option maxHeartbeats 2000000 in
theorem scutagelaw13_VintagePlays_ok {w0 w : World} {Γ : List (World → Prop)} (l_ : List scutagelaw13_Act) (A1 : Option Addr) (n6 c2 : Nat) (hn5 : n6 = l_.length) (hc3 : l_.length ≤ c2) (ads7 : Nat → Option Addr × Nat) (hv4 : ∀ u, Hp w0 Γ u → SlRN (fun j => KN31 (ads7 j)) 5 A1 l_ u) (hin8 : ∀ j x, l_[j]? = some x → x.Used.length ≤ (ads7 j).2 ∧ ∀ u, Hp w0 Γ u → SlR K3 (ads7 j).1 x.Used u) (r0_ : Bool) (H : Hp w0 (Γ) w) (hm : scutagelaw13_VintagePlays l_ = some r0_) : Calls Try.prog 3 #[.slice A1 n6 c2] w (fun e w => e = .returned (.bool r0_) ∧ Hp w0 (Γ) w) := by
  subst hn5
  unfold scutagelaw13_VintagePlays at hm
  refine st_enter Try.func3 rfl Try.ntmps3 (Nat.le_of_ble_eq_true rfl) ?_
  refine st_seq ?_
  refine st_region ?_
  refine r_pure (.bool false) rfl ?_
  refine r_seq ?_
  refine st_seq ?_
  refine st_region ?_
  obtain ⟨y9, hy10, hm⟩ := bind_some hm
  refine r_callf Try.call8 (vintage_New_ok  y9 H hy10) ?_
  rintro e12 wd11 ⟨b15, A16, n17, c18, rfl, H14⟩
  obtain rfl := (H14.g1).leneq
  refine ⟨_, rfl, ?_⟩
  refine r_build [.slice none 0 0] FL28 rfl ?_
  refine r_box [.slice none 0 0] H14 rfl ?_
  intro b19 wd21 H20
  refine r_pure (.pointer (some ⟨b15, 0, none⟩)) rfl ?_
  refine r_pure (.pointer (some ⟨b19, 0, none⟩)) rfl ?_
  refine r_seq ?_
  refine st_seq ?_
  refine st_seq ?_
  refine st_region ?_
  refine r_pure (.pointer (some ⟨b15, 0, none⟩)) rfl ?_
  refine r_eqn Try.underlying23 rfl rfl ?_
  refine r_seq ?_
  refine st_condf rfl rfl ?_
  refine st_skip ?_
  refine n_sq ?_
  refine st_seq ?_
  refine st_seq ?_
  refine st_region ?_
  refine r_pure (.int .i64 0) rfl ?_
  refine r_seq ?_
  refine st_block ?_
  have H36 := H20.add (A := Row K38 (.slice none 0 0) []) Row.nil
  obtain ⟨tl44, hl45, hm43⟩ := bind_some hm
  refine st_loopF (scutagelaw13_VintagePlays.l1 l_) (fun s ρ w => ∃ xs35 : List api_Vintage, ∃ xs40 : List api_Vintage, ∃ v41 : Int, ∃ A32 : Option Addr, ∃ n33 : Nat, ∃ c34 : Nat, ∃ A37 : Option Addr, ∃ n38 : Nat, ∃ c39 : Nat, (xs35, xs40, v41) = s ∧ (∃ base, ρ = updl base [(0, .slice A1 l_.length c2), (3, .pointer (some ⟨b15, 0, none⟩)), (4, .pointer (some ⟨b19, 0, none⟩)), (5, .int .i64 v41)]) ∧ Hp w0 (Row K38 (.slice A32 n33 c34) xs35 :: Bx b15 75 [.slice A32 n33 c34] :: Row K38 (.slice A37 n38 c39) xs40 :: Bx b19 28 [.slice A37 n38 c39] :: Γ) w) hl45 (fun _ => rfl) ⟨y9.f_l, ([] : List api_Vintage), 0, A16, y9.f_l.length, c18, none, 0, 0, rfl, upk (ac rfl (ac rfl (ac rfl (ac rfl an)))), H36.u1.u1.u2.u3⟩ ?_
  rintro fuel51 IH53 s ρ w ⟨xs35, xs40, v41, A32, n33, c34, A37, n38, c39, rfl, ⟨base, rfl⟩, H42⟩ hm
  obtain rfl := (H42.g0).leneq
  obtain rfl := (H42.g2).leneq
  rw [scutagelaw13_VintagePlays.l1] at hm
  refine st_seq ?_
  refine st_cut (fun ρ w => ∃ q54 : Bool, (∃ base, ρ = updl base [(0, .slice A1 l_.length c2), (3, .pointer (some ⟨b15, 0, none⟩)), (4, .pointer (some ⟨b19, 0, none⟩)), (5, .int .i64 v41), (26, .bool q54)]) ∧ Hp w0 (Row K38 (.slice A32 xs35.length c34) xs35 :: Bx b15 75 [.slice A32 xs35.length c34] :: Row K38 (.slice A37 xs40.length c39) xs40 :: Bx b19 28 [.slice A37 xs40.length c39] :: Γ) w ∧ scutagelaw13_VintagePlays.j1 v41 l_ xs35 xs40 (scutagelaw13_VintagePlays.l1 l_ fuel51) q54 = some tl44) ?_ ?_
  · refine st_region ?_
    refine r_pure (.int .i64 v41) rfl ?_
    refine r_pure (.slice A1 l_.length c2) rfl ?_
    refine r_len Try.underlying22 rfl ?_
    refine r_pure (.bool (decide (v41 < (l_.length : Int)))) rfl ?_
    refine r_pure (.bool (decide (v41 < (l_.length : Int)))) rfl ?_
    rcases ite_some hm with ⟨hb1467, hm⟩ | ⟨hb1467, hm⟩
    · refine r_pure (.int .i64 v41) rfl ?_ (wn_t rfl rfl (by decide) rfl hb1467)
      refine r_pure (.bool (decide (v41 < 24))) rfl ?_ (wn_t rfl rfl (by decide) rfl hb1467)
      refine r_pick_t (.bool (decide (v41 < 24))) hb1467 rfl rfl ?_
      refine r_nil ?_
      refine n_cut ⟨decide (v41 < 24), upk (ac rfl (ac rfl (ac rfl (ac rfl (ac rfl an))))), H42.u3.u3.u3.u3, hm⟩
    · refine r_not (wn_f rfl rfl (by decide) rfl hb1467) ?_
      refine r_not (wn_f rfl rfl (by decide) rfl hb1467) ?_
      refine r_pick_f (.bool false) hb1467 rfl rfl ?_
      refine r_nil ?_
      refine n_cut ⟨false, upk (ac rfl (ac rfl (ac rfl (ac rfl (ac rfl an))))), H42.u3.u3.u3.u3, hm⟩
  · rintro ρ w ⟨q54, ⟨base, rfl⟩, H55, hm⟩
    unfold scutagelaw13_VintagePlays.j1 at hm
    rcases ite_some hm with ⟨hb56, hm⟩ | ⟨hb56, hm⟩
    · refine st_condt hb56 rfl ?_
      refine st_skip ?_
      refine n_sq ?_
      refine st_cut (fun ρ w => ∃ A57 : Option Addr, ∃ n58 : Nat, ∃ c59 : Nat, ∃ A61 : Option Addr, ∃ n62 : Nat, ∃ c63 : Nat, ∃ xs60 : List api_Vintage, ∃ xs64 : List api_Vintage, (∃ base, ρ = updl base [(0, .slice A1 l_.length c2), (3, .pointer (some ⟨b15, 0, none⟩)), (4, .pointer (some ⟨b19, 0, none⟩)), (5, .int .i64 v41)]) ∧ Hp w0 (Row K38 (.slice A57 n58 c59) xs60 :: Bx b15 75 [.slice A57 n58 c59] :: Row K38 (.slice A61 n62 c63) xs64 :: Bx b19 28 [.slice A61 n62 c63] :: Γ) w ∧ scutagelaw13_VintagePlays.j2 (scutagelaw13_VintagePlays.l1 l_ fuel51) v41 xs60 xs64 = some tl44) ?_ ?_
      · refine st_block ?_
        refine st_seq ?_
        refine st_region ?_
        refine r_pure (.slice A1 l_.length c2) rfl ?_
        refine r_pure (.int .i64 v41) rfl ?_
        obtain ⟨⟨h066, h167⟩, hm⟩ := gd_some hm
        have hj68 := rd_get h066 h167
        have hA69 := (hv4 _ H55.d.d.d.d).adO hj68
        refine r_ix IX22 rfl rfl hA69 h066 h167 ?_
        refine r_ldA [.int .i64 ((rd l_ v41).Do), .int .i64 ((rd l_ v41).Origin), .int .i64 ((rd l_ v41).Life), .int .i64 ((rd l_ v41).f_N), .slice ((ads7 (Int.toNat v41)).1) (((rd l_ v41).Used).length) ((ads7 (Int.toNat v41)).2)] LD31 rfl rfl ((hv4 _ H55.d.d.d.d).csA hA69 hj68) ?_
        refine r_alloc [.int .i64 0, .int .i64 0, .int .i64 0, .int .i64 0, .slice none 0 0] Try.zeroValue31 H55 rfl ?_
        intro b70 wd72 H71
        refine r_stA [.int .i64 ((rd l_ v41).Do), .int .i64 ((rd l_ v41).Origin), .int .i64 ((rd l_ v41).Life), .int .i64 ((rd l_ v41).f_N), .slice ((ads7 (Int.toNat v41)).1) (((rd l_ v41).Used).length) ((ads7 (Int.toNat v41)).2)] LD31 rfl rfl rfl rfl H71 (Nat.le_of_ble_eq_true rfl) rfl ?_
        intro wd74 H73
        refine r_seq ?_
        refine st_seq ?_
        obtain ⟨y76, hy77, hm⟩ := bind_some hm
        obtain ⟨y82, hy83, hm⟩ := bind_some hm
        obtain ⟨y88, hy89, hm⟩ := bind_some hm
        obtain ⟨y94, hy95, hm⟩ := bind_some hm
        refine Flow.run' [[], [0], [0, 1], [], [3], [0, 1, 2, 3, 4], [], [6], [0, 1, 2, 3, 4, 5, 6, 7], [0, 1, 2, 3, 4, 5, 6, 7, 8], [], [10], [0, 1, 2, 3, 4, 5, 6, 7, 8, 10, 11], [0, 1, 2, 3, 4, 5, 6, 7, 8, 10, 11, 12], [0, 1, 2, 3, 4, 5, 6, 7, 8, 10, 11, 12], [0, 1, 2, 3, 4, 5, 6, 7, 8, 9, 10, 11, 12, 14], [0, 1, 2, 3, 4, 5, 6, 7, 8, 9, 10, 11, 12, 13, 14, 15]] [(33, 0), (34, 1), (35, 2), (36, 3), (37, 4), (38, 5), (39, 6), (40, 7), (41, 8), (42, 9), (43, 10), (44, 11), (45, 12), (46, 13), (7, 14), (8, 15), (9, 16)] [(fun η75 v => v.1 = .pointer (some ⟨b70, 1, none⟩)), (fun η75 v => v.1 = .int .i64 ((rd l_ v41).Origin)), (fun η75 v => v.1 = .int .i64 y76), (fun η75 v => v.1 = .pointer (some ⟨b70, 1, none⟩)), (fun η75 v => v.1 = .int .i64 ((rd l_ v41).Origin)), (fun η75 v => v.1 = .int .i64 y82), (fun η75 v => v.1 = .pointer (some ⟨b70, 2, none⟩)), (fun η75 v => v.1 = .int .i64 ((rd l_ v41).Life)), (fun η75 v => v.1 = .int .i64 y88), (fun η75 v => v.1 = .int .i64 (w64 (y82 + y88))), (fun η75 v => v.1 = .pointer (some ⟨b70, 3, none⟩)), (fun η75 v => v.1 = .int .i64 ((rd l_ v41).f_N)), (fun η75 v => v.1 = .int .i64 y94), (fun η75 v => v.1 = .int .i64 (mx y94 1)), (fun η75 v => v.1 = .int .i64 y76), (fun η75 v => v.1 = .int .i64 (w64 (y82 + y88))), (fun η75 v => v.1 = .int .i64 (mx y94 1))] [] rfl (by kernel_rfl) (by kernel_rfl) H73 ⟨?_, ?_, ?_, ?_, ?_, ?_, ?_, ?_, ?_, ?_, ?_, ?_, ?_, ?_, ?_, ?_, ?_, trivial⟩ ?_
        · intro η75 wd103 Δ104 hE100 hR101 H102
          have H102 : Hp w0 ((Δ104 ++ (Bx b70 31 [.int .i64 ((rd l_ v41).Do), .int .i64 ((rd l_ v41).Origin), .int .i64 ((rd l_ v41).Life), .int .i64 ((rd l_ v41).f_N), .slice ((ads7 (Int.toNat v41)).1) (((rd l_ v41).Used).length) ((ads7 (Int.toNat v41)).2)] :: Row K38 (.slice A32 xs35.length c34) xs35 :: Bx b15 75 [.slice A32 xs35.length c34] :: Row K38 (.slice A37 xs40.length c39) xs40 :: Bx b19 28 [.slice A37 xs40.length c39] :: Γ))) wd103 := H102
          refine sp_op [(6, .pointer (some ⟨b70, 0, none⟩))] (ac rfl an) ?_
          refine r_fa FA31_1 ⟨b70, 1, none⟩ rfl rfl ?_
          exact r_nil (n_lp ⟨_, rfl, undef, rfl, H102⟩)
        · intro η75 wd108 Δ109 hE105 hR106 H107
          have H107 : Hp w0 ((Δ109 ++ (Bx b70 31 [.int .i64 ((rd l_ v41).Do), .int .i64 ((rd l_ v41).Origin), .int .i64 ((rd l_ v41).Life), .int .i64 ((rd l_ v41).f_N), .slice ((ads7 (Int.toNat v41)).1) (((rd l_ v41).Used).length) ((ads7 (Int.toNat v41)).2)] :: Row K38 (.slice A32 xs35.length c34) xs35 :: Bx b15 75 [.slice A32 xs35.length c34] :: Row K38 (.slice A37 xs40.length c39) xs40 :: Bx b19 28 [.slice A37 xs40.length c39] :: Γ))) wd108 := H107
          refine sp_op [(33, .pointer (some ⟨b70, 1, none⟩))] (ac (hE105 0 (by decide)) an) ?_
          refine r_ld1 (.int .i64 ((rd l_ v41).Origin)) LD3 rfl (((H107).tl.g0).cell _ rfl) ?_
          exact r_nil (n_lp ⟨_, rfl, undef, rfl, H107⟩)
        · intro η75 wd113 Δ114 hE110 hR111 H112
          have H112 : Hp w0 ((Δ114 ++ (Bx b70 31 [.int .i64 ((rd l_ v41).Do), .int .i64 ((rd l_ v41).Origin), .int .i64 ((rd l_ v41).Life), .int .i64 ((rd l_ v41).f_N), .slice ((ads7 (Int.toNat v41)).1) (((rd l_ v41).Used).length) ((ads7 (Int.toNat v41)).2)] :: Row K38 (.slice A32 xs35.length c34) xs35 :: Bx b15 75 [.slice A32 xs35.length c34] :: Row K38 (.slice A37 xs40.length c39) xs40 :: Bx b19 28 [.slice A37 xs40.length c39] :: Γ))) wd113 := H112
          refine sp_op [(34, .int .i64 ((rd l_ v41).Origin))] (ac (hE110 1 (by decide)) an) ?_
          refine r_callf Try.call9 (scutagekeep_Within_ok ((rd l_ v41).Origin) 8 y76 H112 hy77) ?_
          rintro e118 wd117 ⟨rfl, H120⟩
          refine ⟨_, rfl, ?_⟩
          exact r_nil (n_lp ⟨_, rfl, undef, rfl, H120⟩)
        · intro η75 wd124 Δ125 hE121 hR122 H123
          have H123 : Hp w0 ((Δ125 ++ (Bx b70 31 [.int .i64 ((rd l_ v41).Do), .int .i64 ((rd l_ v41).Origin), .int .i64 ((rd l_ v41).Life), .int .i64 ((rd l_ v41).f_N), .slice ((ads7 (Int.toNat v41)).1) (((rd l_ v41).Used).length) ((ads7 (Int.toNat v41)).2)] :: Row K38 (.slice A32 xs35.length c34) xs35 :: Bx b15 75 [.slice A32 xs35.length c34] :: Row K38 (.slice A37 xs40.length c39) xs40 :: Bx b19 28 [.slice A37 xs40.length c39] :: Γ))) wd124 := H123
          refine sp_op [(6, .pointer (some ⟨b70, 0, none⟩))] (ac rfl an) ?_
          refine r_fa FA31_1 ⟨b70, 1, none⟩ rfl rfl ?_
          exact r_nil (n_lp ⟨_, rfl, undef, rfl, H123⟩)
        · intro η75 wd129 Δ130 hE126 hR127 H128
          have H128 : Hp w0 ((Δ130 ++ (Bx b70 31 [.int .i64 ((rd l_ v41).Do), .int .i64 ((rd l_ v41).Origin), .int .i64 ((rd l_ v41).Life), .int .i64 ((rd l_ v41).f_N), .slice ((ads7 (Int.toNat v41)).1) (((rd l_ v41).Used).length) ((ads7 (Int.toNat v41)).2)] :: Row K38 (.slice A32 xs35.length c34) xs35 :: Bx b15 75 [.slice A32 xs35.length c34] :: Row K38 (.slice A37 xs40.length c39) xs40 :: Bx b19 28 [.slice A37 xs40.length c39] :: Γ))) wd129 := H128
          refine sp_op [(36, .pointer (some ⟨b70, 1, none⟩))] (ac (hE126 3 (by decide)) an) ?_
          refine r_ld1 (.int .i64 ((rd l_ v41).Origin)) LD3 rfl (((H128).tl.g0).cell _ rfl) ?_
          exact r_nil (n_lp ⟨_, rfl, undef, rfl, H128⟩)
        · intro η75 wd134 Δ135 hE131 hR132 H133
          have H133 : Hp w0 ((Δ135 ++ (Bx b70 31 [.int .i64 ((rd l_ v41).Do), .int .i64 ((rd l_ v41).Origin), .int .i64 ((rd l_ v41).Life), .int .i64 ((rd l_ v41).f_N), .slice ((ads7 (Int.toNat v41)).1) (((rd l_ v41).Used).length) ((ads7 (Int.toNat v41)).2)] :: Row K38 (.slice A32 xs35.length c34) xs35 :: Bx b15 75 [.slice A32 xs35.length c34] :: Row K38 (.slice A37 xs40.length c39) xs40 :: Bx b19 28 [.slice A37 xs40.length c39] :: Γ))) wd134 := H133
          refine sp_op [(37, .int .i64 ((rd l_ v41).Origin))] (ac (hE131 4 (by decide)) an) ?_
          refine r_callf Try.call9 (scutagekeep_Within_ok ((rd l_ v41).Origin) 8 y82 H133 hy83) ?_
          rintro e139 wd138 ⟨rfl, H141⟩
          refine ⟨_, rfl, ?_⟩
          exact r_nil (n_lp ⟨_, rfl, undef, rfl, H141⟩)
        · intro η75 wd145 Δ146 hE142 hR143 H144
          have H144 : Hp w0 ((Δ146 ++ (Bx b70 31 [.int .i64 ((rd l_ v41).Do), .int .i64 ((rd l_ v41).Origin), .int .i64 ((rd l_ v41).Life), .int .i64 ((rd l_ v41).f_N), .slice ((ads7 (Int.toNat v41)).1) (((rd l_ v41).Used).length) ((ads7 (Int.toNat v41)).2)] :: Row K38 (.slice A32 xs35.length c34) xs35 :: Bx b15 75 [.slice A32 xs35.length c34] :: Row K38 (.slice A37 xs40.length c39) xs40 :: Bx b19 28 [.slice A37 xs40.length c39] :: Γ))) wd145 := H144
          refine sp_op [(6, .pointer (some ⟨b70, 0, none⟩))] (ac rfl an) ?_
          refine r_fa FA31_2 ⟨b70, 2, none⟩ rfl rfl ?_
          exact r_nil (n_lp ⟨_, rfl, undef, rfl, H144⟩)
        · intro η75 wd150 Δ151 hE147 hR148 H149
          have H149 : Hp w0 ((Δ151 ++ (Bx b70 31 [.int .i64 ((rd l_ v41).Do), .int .i64 ((rd l_ v41).Origin), .int .i64 ((rd l_ v41).Life), .int .i64 ((rd l_ v41).f_N), .slice ((ads7 (Int.toNat v41)).1) (((rd l_ v41).Used).length) ((ads7 (Int.toNat v41)).2)] :: Row K38 (.slice A32 xs35.length c34) xs35 :: Bx b15 75 [.slice A32 xs35.length c34] :: Row K38 (.slice A37 xs40.length c39) xs40 :: Bx b19 28 [.slice A37 xs40.length c39] :: Γ))) wd150 := H149
          refine sp_op [(39, .pointer (some ⟨b70, 2, none⟩))] (ac (hE147 6 (by decide)) an) ?_
          refine r_ld1 (.int .i64 ((rd l_ v41).Life)) LD3 rfl (((H149).tl.g0).cell _ rfl) ?_
          exact r_nil (n_lp ⟨_, rfl, undef, rfl, H149⟩)
        · intro η75 wd155 Δ156 hE152 hR153 H154
          have H154 : Hp w0 ((Δ156 ++ (Bx b70 31 [.int .i64 ((rd l_ v41).Do), .int .i64 ((rd l_ v41).Origin), .int .i64 ((rd l_ v41).Life), .int .i64 ((rd l_ v41).f_N), .slice ((ads7 (Int.toNat v41)).1) (((rd l_ v41).Used).length) ((ads7 (Int.toNat v41)).2)] :: Row K38 (.slice A32 xs35.length c34) xs35 :: Bx b15 75 [.slice A32 xs35.length c34] :: Row K38 (.slice A37 xs40.length c39) xs40 :: Bx b19 28 [.slice A37 xs40.length c39] :: Γ))) wd155 := H154
          refine sp_op [(40, .int .i64 ((rd l_ v41).Life))] (ac (hE152 7 (by decide)) an) ?_
          refine r_callf Try.call9 (scutagekeep_Within_ok ((rd l_ v41).Life) 6 y88 H154 hy89) ?_
          rintro e160 wd159 ⟨rfl, H162⟩
          refine ⟨_, rfl, ?_⟩
          exact r_nil (n_lp ⟨_, rfl, undef, rfl, H162⟩)
        · intro η75 wd166 Δ167 hE163 hR164 H165
          have H165 : Hp w0 ((Δ167 ++ (Bx b70 31 [.int .i64 ((rd l_ v41).Do), .int .i64 ((rd l_ v41).Origin), .int .i64 ((rd l_ v41).Life), .int .i64 ((rd l_ v41).f_N), .slice ((ads7 (Int.toNat v41)).1) (((rd l_ v41).Used).length) ((ads7 (Int.toNat v41)).2)] :: Row K38 (.slice A32 xs35.length c34) xs35 :: Bx b15 75 [.slice A32 xs35.length c34] :: Row K38 (.slice A37 xs40.length c39) xs40 :: Bx b19 28 [.slice A37 xs40.length c39] :: Γ))) wd166 := H165
          refine sp_op [(38, .int .i64 y82), (41, .int .i64 y88)] (ac (hE163 5 (by decide)) (ac (hE163 8 (by decide)) an)) ?_
          refine r_pure (.int .i64 (w64 (y82 + y88))) rfl ?_
          exact r_nil (n_lp ⟨_, rfl, undef, rfl, H165⟩)
        · intro η75 wd171 Δ172 hE168 hR169 H170
          have H170 : Hp w0 ((Δ172 ++ (Bx b70 31 [.int .i64 ((rd l_ v41).Do), .int .i64 ((rd l_ v41).Origin), .int .i64 ((rd l_ v41).Life), .int .i64 ((rd l_ v41).f_N), .slice ((ads7 (Int.toNat v41)).1) (((rd l_ v41).Used).length) ((ads7 (Int.toNat v41)).2)] :: Row K38 (.slice A32 xs35.length c34) xs35 :: Bx b15 75 [.slice A32 xs35.length c34] :: Row K38 (.slice A37 xs40.length c39) xs40 :: Bx b19 28 [.slice A37 xs40.length c39] :: Γ))) wd171 := H170
          refine sp_op [(6, .pointer (some ⟨b70, 0, none⟩))] (ac rfl an) ?_
          refine r_fa FA31_3 ⟨b70, 3, none⟩ rfl rfl ?_
          exact r_nil (n_lp ⟨_, rfl, undef, rfl, H170⟩)
        · intro η75 wd176 Δ177 hE173 hR174 H175
          have H175 : Hp w0 ((Δ177 ++ (Bx b70 31 [.int .i64 ((rd l_ v41).Do), .int .i64 ((rd l_ v41).Origin), .int .i64 ((rd l_ v41).Life), .int .i64 ((rd l_ v41).f_N), .slice ((ads7 (Int.toNat v41)).1) (((rd l_ v41).Used).length) ((ads7 (Int.toNat v41)).2)] :: Row K38 (.slice A32 xs35.length c34) xs35 :: Bx b15 75 [.slice A32 xs35.length c34] :: Row K38 (.slice A37 xs40.length c39) xs40 :: Bx b19 28 [.slice A37 xs40.length c39] :: Γ))) wd176 := H175
          refine sp_op [(43, .pointer (some ⟨b70, 3, none⟩))] (ac (hE173 10 (by decide)) an) ?_
          refine r_ld1 (.int .i64 ((rd l_ v41).f_N)) LD3 rfl (((H175).tl.g0).cell _ rfl) ?_
          exact r_nil (n_lp ⟨_, rfl, undef, rfl, H175⟩)
        · intro η75 wd181 Δ182 hE178 hR179 H180
          have H180 : Hp w0 ((Δ182 ++ (Bx b70 31 [.int .i64 ((rd l_ v41).Do), .int .i64 ((rd l_ v41).Origin), .int .i64 ((rd l_ v41).Life), .int .i64 ((rd l_ v41).f_N), .slice ((ads7 (Int.toNat v41)).1) (((rd l_ v41).Used).length) ((ads7 (Int.toNat v41)).2)] :: Row K38 (.slice A32 xs35.length c34) xs35 :: Bx b15 75 [.slice A32 xs35.length c34] :: Row K38 (.slice A37 xs40.length c39) xs40 :: Bx b19 28 [.slice A37 xs40.length c39] :: Γ))) wd181 := H180
          refine sp_op [(44, .int .i64 ((rd l_ v41).f_N))] (ac (hE178 11 (by decide)) an) ?_
          refine r_callf Try.call10 (scutageplay_Amount_ok ((rd l_ v41).f_N) y94 H180 hy95) ?_
          rintro e186 wd185 ⟨rfl, H188⟩
          refine ⟨_, rfl, ?_⟩
          exact r_nil (n_lp ⟨_, rfl, undef, rfl, H188⟩)
        · intro η75 wd192 Δ193 hE189 hR190 H191
          have H191 : Hp w0 ((Δ193 ++ (Bx b70 31 [.int .i64 ((rd l_ v41).Do), .int .i64 ((rd l_ v41).Origin), .int .i64 ((rd l_ v41).Life), .int .i64 ((rd l_ v41).f_N), .slice ((ads7 (Int.toNat v41)).1) (((rd l_ v41).Used).length) ((ads7 (Int.toNat v41)).2)] :: Row K38 (.slice A32 xs35.length c34) xs35 :: Bx b15 75 [.slice A32 xs35.length c34] :: Row K38 (.slice A37 xs40.length c39) xs40 :: Bx b19 28 [.slice A37 xs40.length c39] :: Γ))) wd192 := H191
          refine sp_op [(45, .int .i64 y94)] (ac (hE189 12 (by decide)) an) ?_
          refine r_max rfl rfl ?_
          exact r_nil (n_lp ⟨_, rfl, undef, rfl, H191⟩)
        · intro η75 wd197 Δ198 hE194 hR195 H196
          have H196 : Hp w0 ((Δ198 ++ (Bx b70 31 [.int .i64 ((rd l_ v41).Do), .int .i64 ((rd l_ v41).Origin), .int .i64 ((rd l_ v41).Life), .int .i64 ((rd l_ v41).f_N), .slice ((ads7 (Int.toNat v41)).1) (((rd l_ v41).Used).length) ((ads7 (Int.toNat v41)).2)] :: Row K38 (.slice A32 xs35.length c34) xs35 :: Bx b15 75 [.slice A32 xs35.length c34] :: Row K38 (.slice A37 xs40.length c39) xs40 :: Bx b19 28 [.slice A37 xs40.length c39] :: Γ))) wd197 := H196
          refine sp_op [(35, .int .i64 y76)] (ac (hE194 2 (by decide)) an) ?_
          refine r_pure (.int .i64 y76) rfl ?_
          exact r_nil (n_lp ⟨_, rfl, undef, rfl, H196⟩)
        · intro η75 wd202 Δ203 hE199 hR200 H201
          have H201 : Hp w0 ((Δ203 ++ (Bx b70 31 [.int .i64 ((rd l_ v41).Do), .int .i64 ((rd l_ v41).Origin), .int .i64 ((rd l_ v41).Life), .int .i64 ((rd l_ v41).f_N), .slice ((ads7 (Int.toNat v41)).1) (((rd l_ v41).Used).length) ((ads7 (Int.toNat v41)).2)] :: Row K38 (.slice A32 xs35.length c34) xs35 :: Bx b15 75 [.slice A32 xs35.length c34] :: Row K38 (.slice A37 xs40.length c39) xs40 :: Bx b19 28 [.slice A37 xs40.length c39] :: Γ))) wd202 := H201
          refine sp_op [(42, .int .i64 (w64 (y82 + y88)))] (ac (hE199 9 (by decide)) an) ?_
          refine r_pure (.int .i64 (w64 (y82 + y88))) rfl ?_
          exact r_nil (n_lp ⟨_, rfl, undef, rfl, H201⟩)
        · intro η75 wd207 Δ208 hE204 hR205 H206
          have H206 : Hp w0 ((Δ208 ++ (Bx b70 31 [.int .i64 ((rd l_ v41).Do), .int .i64 ((rd l_ v41).Origin), .int .i64 ((rd l_ v41).Life), .int .i64 ((rd l_ v41).f_N), .slice ((ads7 (Int.toNat v41)).1) (((rd l_ v41).Used).length) ((ads7 (Int.toNat v41)).2)] :: Row K38 (.slice A32 xs35.length c34) xs35 :: Bx b15 75 [.slice A32 xs35.length c34] :: Row K38 (.slice A37 xs40.length c39) xs40 :: Bx b19 28 [.slice A37 xs40.length c39] :: Γ))) wd207 := H206
          refine sp_op [(46, .int .i64 (mx y94 1))] (ac (hE204 13 (by decide)) an) ?_
          refine r_pure (.int .i64 (mx y94 1)) rfl ?_
          exact r_nil (n_lp ⟨_, rfl, undef, rfl, H206⟩)
        · intro η75 wd210 hV211 H209
          have H212 : Hp w0 (Bx b70 31 [.int .i64 ((rd l_ v41).Do), .int .i64 ((rd l_ v41).Origin), .int .i64 ((rd l_ v41).Life), .int .i64 ((rd l_ v41).f_N), .slice ((ads7 (Int.toNat v41)).1) (((rd l_ v41).Used).length) ((ads7 (Int.toNat v41)).2)] :: Row K38 (.slice A32 xs35.length c34) xs35 :: Bx b15 75 [.slice A32 xs35.length c34] :: Row K38 (.slice A37 xs40.length c39) xs40 :: Bx b19 28 [.slice A37 xs40.length c39] :: Γ) wd210 := H209
          refine n_frame [(0, .slice A1 l_.length c2), (3, .pointer (some ⟨b15, 0, none⟩)), (4, .pointer (some ⟨b19, 0, none⟩)), (5, .int .i64 v41), (6, .pointer (some ⟨b70, 0, none⟩)), (7, .int .i64 y76), (8, .int .i64 (w64 (y82 + y88))), (9, .int .i64 (mx y94 1))] (ac rfl (ac rfl (ac rfl (ac rfl (ac rfl (ac (hV211 14 rfl) (ac (hV211 15 rfl) (ac (hV211 16 rfl) an)))))))) ?_
          refine n_sq ?_
          refine st_cut (fun ρ w => ∃ v213 : Int, ∃ v214 : Int, ∃ v215 : Int, (∃ base, ρ = updl base [(0, .slice A1 l_.length c2), (3, .pointer (some ⟨b15, 0, none⟩)), (4, .pointer (some ⟨b19, 0, none⟩)), (5, .int .i64 v41), (6, .pointer (some ⟨b70, 0, none⟩)), (7, .int .i64 v213), (8, .int .i64 v214), (9, .int .i64 v215)]) ∧ Hp w0 (Row K38 (.slice A32 xs35.length c34) xs35 :: Bx b15 75 [.slice A32 xs35.length c34] :: Row K38 (.slice A37 xs40.length c39) xs40 :: Bx b19 28 [.slice A37 xs40.length c39] :: Bx b70 31 [.int .i64 ((rd l_ v41).Do), .int .i64 ((rd l_ v41).Origin), .int .i64 ((rd l_ v41).Life), .int .i64 ((rd l_ v41).f_N), .slice ((ads7 (Int.toNat v41)).1) (((rd l_ v41).Used).length) ((ads7 (Int.toNat v41)).2)] :: Γ) w ∧ scutagelaw13_VintagePlays.j3 v41 xs35 l_ xs40 (scutagelaw13_VintagePlays.l1 l_ fuel51) v213 v214 v215 = some tl44) ?_ ?_
          · refine st_seq ?_
            refine st_region ?_
            refine r_fa FA31_0 ⟨b70, 0, none⟩ rfl rfl ?_
            refine r_ld1 (.int .i64 ((rd l_ v41).Do)) LD3 rfl ((H212.g0).cell _ rfl) ?_
            refine r_rem (by decide) rfl rfl ?_
            refine r_pure (.bool (Int.tmod ((rd l_ v41).Do) 11 == 10)) rfl ?_
            refine r_seq ?_
            rcases ite_some hm with ⟨hb1410, hm⟩ | ⟨hb1410, hm⟩
            · refine st_condt hb1410 rfl ?_
              refine Flow.run' [[], [0], [], [2], [], [4], [0, 1], [0, 1, 2, 3, 6], [0, 1, 2, 3, 4, 5, 6, 7]] [(51, 0), (52, 1), (53, 2), (54, 3), (55, 4), (56, 5), (7, 6), (8, 7), (9, 8)] [(fun η1411 v => v.1 = .pointer (some ⟨b70, 1, none⟩)), (fun η1411 v => v.1 = .int .i64 ((rd l_ v41).Origin)), (fun η1411 v => v.1 = .pointer (some ⟨b70, 2, none⟩)), (fun η1411 v => v.1 = .int .i64 ((rd l_ v41).Life)), (fun η1411 v => v.1 = .pointer (some ⟨b70, 3, none⟩)), (fun η1411 v => v.1 = .int .i64 ((rd l_ v41).f_N)), (fun η1411 v => v.1 = .int .i64 ((rd l_ v41).Origin)), (fun η1411 v => v.1 = .int .i64 ((rd l_ v41).Life)), (fun η1411 v => v.1 = .int .i64 ((rd l_ v41).f_N))] [] rfl (by kernel_rfl) (by kernel_rfl) H212 ⟨?_, ?_, ?_, ?_, ?_, ?_, ?_, ?_, ?_, trivial⟩ ?_
              · intro η1411 wd1415 Δ1416 hE1412 hR1413 H1414
                have H1414 : Hp w0 ((Δ1416 ++ (Bx b70 31 [.int .i64 ((rd l_ v41).Do), .int .i64 ((rd l_ v41).Origin), .int .i64 ((rd l_ v41).Life), .int .i64 ((rd l_ v41).f_N), .slice ((ads7 (Int.toNat v41)).1) (((rd l_ v41).Used).length) ((ads7 (Int.toNat v41)).2)] :: Row K38 (.slice A32 xs35.length c34) xs35 :: Bx b15 75 [.slice A32 xs35.length c34] :: Row K38 (.slice A37 xs40.length c39) xs40 :: Bx b19 28 [.slice A37 xs40.length c39] :: Γ))) wd1415 := H1414
                refine sp_op [(6, .pointer (some ⟨b70, 0, none⟩))] (ac rfl an) ?_
                refine r_fa FA31_1 ⟨b70, 1, none⟩ rfl rfl ?_
                exact r_nil (n_lp ⟨_, rfl, undef, rfl, H1414⟩)
              · intro η1411 wd1420 Δ1421 hE1417 hR1418 H1419
                have H1419 : Hp w0 ((Δ1421 ++ (Bx b70 31 [.int .i64 ((rd l_ v41).Do), .int .i64 ((rd l_ v41).Origin), .int .i64 ((rd l_ v41).Life), .int .i64 ((rd l_ v41).f_N), .slice ((ads7 (Int.toNat v41)).1) (((rd l_ v41).Used).length) ((ads7 (Int.toNat v41)).2)] :: Row K38 (.slice A32 xs35.length c34) xs35 :: Bx b15 75 [.slice A32 xs35.length c34] :: Row K38 (.slice A37 xs40.length c39) xs40 :: Bx b19 28 [.slice A37 xs40.length c39] :: Γ))) wd1420 := H1419
                refine sp_op [(51, .pointer (some ⟨b70, 1, none⟩))] (ac (hE1417 0 (by decide)) an) ?_
                refine r_ld1 (.int .i64 ((rd l_ v41).Origin)) LD3 rfl (((H1419).tl.g0).cell _ rfl) ?_
                exact r_nil (n_lp ⟨_, rfl, undef, rfl, H1419⟩)
              · intro η1411 wd1425 Δ1426 hE1422 hR1423 H1424
                have H1424 : Hp w0 ((Δ1426 ++ (Bx b70 31 [.int .i64 ((rd l_ v41).Do), .int .i64 ((rd l_ v41).Origin), .int .i64 ((rd l_ v41).Life), .int .i64 ((rd l_ v41).f_N), .slice ((ads7 (Int.toNat v41)).1) (((rd l_ v41).Used).length) ((ads7 (Int.toNat v41)).2)] :: Row K38 (.slice A32 xs35.length c34) xs35 :: Bx b15 75 [.slice A32 xs35.length c34] :: Row K38 (.slice A37 xs40.length c39) xs40 :: Bx b19 28 [.slice A37 xs40.length c39] :: Γ))) wd1425 := H1424
                refine sp_op [(6, .pointer (some ⟨b70, 0, none⟩))] (ac rfl an) ?_
                refine r_fa FA31_2 ⟨b70, 2, none⟩ rfl rfl ?_
                exact r_nil (n_lp ⟨_, rfl, undef, rfl, H1424⟩)
              · intro η1411 wd1430 Δ1431 hE1427 hR1428 H1429
                have H1429 : Hp w0 ((Δ1431 ++ (Bx b70 31 [.int .i64 ((rd l_ v41).Do), .int .i64 ((rd l_ v41).Origin), .int .i64 ((rd l_ v41).Life), .int .i64 ((rd l_ v41).f_N), .slice ((ads7 (Int.toNat v41)).1) (((rd l_ v41).Used).length) ((ads7 (Int.toNat v41)).2)] :: Row K38 (.slice A32 xs35.length c34) xs35 :: Bx b15 75 [.slice A32 xs35.length c34] :: Row K38 (.slice A37 xs40.length c39) xs40 :: Bx b19 28 [.slice A37 xs40.length c39] :: Γ))) wd1430 := H1429
                refine sp_op [(53, .pointer (some ⟨b70, 2, none⟩))] (ac (hE1427 2 (by decide)) an) ?_
                refine r_ld1 (.int .i64 ((rd l_ v41).Life)) LD3 rfl (((H1429).tl.g0).cell _ rfl) ?_
                exact r_nil (n_lp ⟨_, rfl, undef, rfl, H1429⟩)
              · intro η1411 wd1435 Δ1436 hE1432 hR1433 H1434
                have H1434 : Hp w0 ((Δ1436 ++ (Bx b70 31 [.int .i64 ((rd l_ v41).Do), .int .i64 ((rd l_ v41).Origin), .int .i64 ((rd l_ v41).Life), .int .i64 ((rd l_ v41).f_N), .slice ((ads7 (Int.toNat v41)).1) (((rd l_ v41).Used).length) ((ads7 (Int.toNat v41)).2)] :: Row K38 (.slice A32 xs35.length c34) xs35 :: Bx b15 75 [.slice A32 xs35.length c34] :: Row K38 (.slice A37 xs40.length c39) xs40 :: Bx b19 28 [.slice A37 xs40.length c39] :: Γ))) wd1435 := H1434
                refine sp_op [(6, .pointer (some ⟨b70, 0, none⟩))] (ac rfl an) ?_
                refine r_fa FA31_3 ⟨b70, 3, none⟩ rfl rfl ?_
                exact r_nil (n_lp ⟨_, rfl, undef, rfl, H1434⟩)
              · intro η1411 wd1440 Δ1441 hE1437 hR1438 H1439
                have H1439 : Hp w0 ((Δ1441 ++ (Bx b70 31 [.int .i64 ((rd l_ v41).Do), .int .i64 ((rd l_ v41).Origin), .int .i64 ((rd l_ v41).Life), .int .i64 ((rd l_ v41).f_N), .slice ((ads7 (Int.toNat v41)).1) (((rd l_ v41).Used).length) ((ads7 (Int.toNat v41)).2)] :: Row K38 (.slice A32 xs35.length c34) xs35 :: Bx b15 75 [.slice A32 xs35.length c34] :: Row K38 (.slice A37 xs40.length c39) xs40 :: Bx b19 28 [.slice A37 xs40.length c39] :: Γ))) wd1440 := H1439
                refine sp_op [(55, .pointer (some ⟨b70, 3, none⟩))] (ac (hE1437 4 (by decide)) an) ?_
                refine r_ld1 (.int .i64 ((rd l_ v41).f_N)) LD3 rfl (((H1439).tl.g0).cell _ rfl) ?_
                exact r_nil (n_lp ⟨_, rfl, undef, rfl, H1439⟩)
              · intro η1411 wd1445 Δ1446 hE1442 hR1443 H1444
                have H1444 : Hp w0 ((Δ1446 ++ (Bx b70 31 [.int .i64 ((rd l_ v41).Do), .int .i64 ((rd l_ v41).Origin), .int .i64 ((rd l_ v41).Life), .int .i64 ((rd l_ v41).f_N), .slice ((ads7 (Int.toNat v41)).1) (((rd l_ v41).Used).length) ((ads7 (Int.toNat v41)).2)] :: Row K38 (.slice A32 xs35.length c34) xs35 :: Bx b15 75 [.slice A32 xs35.length c34] :: Row K38 (.slice A37 xs40.length c39) xs40 :: Bx b19 28 [.slice A37 xs40.length c39] :: Γ))) wd1445 := H1444
                refine sp_op [(52, .int .i64 ((rd l_ v41).Origin))] (ac (hE1442 1 (by decide)) an) ?_
                refine r_pure (.int .i64 ((rd l_ v41).Origin)) rfl ?_
                exact r_nil (n_lp ⟨_, rfl, undef, rfl, H1444⟩)
              · intro η1411 wd1450 Δ1451 hE1447 hR1448 H1449
                have H1449 : Hp w0 ((Δ1451 ++ (Bx b70 31 [.int .i64 ((rd l_ v41).Do), .int .i64 ((rd l_ v41).Origin), .int .i64 ((rd l_ v41).Life), .int .i64 ((rd l_ v41).f_N), .slice ((ads7 (Int.toNat v41)).1) (((rd l_ v41).Used).length) ((ads7 (Int.toNat v41)).2)] :: Row K38 (.slice A32 xs35.length c34) xs35 :: Bx b15 75 [.slice A32 xs35.length c34] :: Row K38 (.slice A37 xs40.length c39) xs40 :: Bx b19 28 [.slice A37 xs40.length c39] :: Γ))) wd1450 := H1449
                refine sp_op [(54, .int .i64 ((rd l_ v41).Life))] (ac (hE1447 3 (by decide)) an) ?_
                refine r_pure (.int .i64 ((rd l_ v41).Life)) rfl ?_
                exact r_nil (n_lp ⟨_, rfl, undef, rfl, H1449⟩)
              · intro η1411 wd1455 Δ1456 hE1452 hR1453 H1454
                have H1454 : Hp w0 ((Δ1456 ++ (Bx b70 31 [.int .i64 ((rd l_ v41).Do), .int .i64 ((rd l_ v41).Origin), .int .i64 ((rd l_ v41).Life), .int .i64 ((rd l_ v41).f_N), .slice ((ads7 (Int.toNat v41)).1) (((rd l_ v41).Used).length) ((ads7 (Int.toNat v41)).2)] :: Row K38 (.slice A32 xs35.length c34) xs35 :: Bx b15 75 [.slice A32 xs35.length c34] :: Row K38 (.slice A37 xs40.length c39) xs40 :: Bx b19 28 [.slice A37 xs40.length c39] :: Γ))) wd1455 := H1454
                refine sp_op [(56, .int .i64 ((rd l_ v41).f_N))] (ac (hE1452 5 (by decide)) an) ?_
                refine r_pure (.int .i64 ((rd l_ v41).f_N)) rfl ?_
                exact r_nil (n_lp ⟨_, rfl, undef, rfl, H1454⟩)
              · intro η1411 wd1458 hV1459 H1457
                have H1460 : Hp w0 (Bx b70 31 [.int .i64 ((rd l_ v41).Do), .int .i64 ((rd l_ v41).Origin), .int .i64 ((rd l_ v41).Life), .int .i64 ((rd l_ v41).f_N), .slice ((ads7 (Int.toNat v41)).1) (((rd l_ v41).Used).length) ((ads7 (Int.toNat v41)).2)] :: Row K38 (.slice A32 xs35.length c34) xs35 :: Bx b15 75 [.slice A32 xs35.length c34] :: Row K38 (.slice A37 xs40.length c39) xs40 :: Bx b19 28 [.slice A37 xs40.length c39] :: Γ) wd1458 := H1457
                refine n_frame [(0, .slice A1 l_.length c2), (3, .pointer (some ⟨b15, 0, none⟩)), (4, .pointer (some ⟨b19, 0, none⟩)), (5, .int .i64 v41), (6, .pointer (some ⟨b70, 0, none⟩)), (7, .int .i64 ((rd l_ v41).Origin)), (8, .int .i64 ((rd l_ v41).Life)), (9, .int .i64 ((rd l_ v41).f_N))] (ac rfl (ac rfl (ac rfl (ac rfl (ac rfl (ac (hV1459 6 rfl) (ac (hV1459 7 rfl) (ac (hV1459 8 rfl) an)))))))) ?_
                refine n_cut ⟨(rd l_ v41).Origin, (rd l_ v41).Life, (rd l_ v41).f_N, upk (ac rfl (ac rfl (ac rfl (ac rfl (ac rfl (ac rfl (ac rfl (ac rfl an)))))))), H1460.u4.u4.u4.u4, hm⟩
            · refine st_condf hb1410 rfl ?_
              refine st_skip ?_
              refine n_cut ⟨y76, w64 (y82 + y88), mx y94 1, upk (ac rfl (ac rfl (ac rfl (ac rfl (ac rfl (ac rfl (ac rfl (ac rfl an)))))))), H212.u4.u4.u4.u4, hm⟩
          · rintro ρ w ⟨v213, v214, v215, ⟨base, rfl⟩, H216, hm⟩
            unfold scutagelaw13_VintagePlays.j3 at hm
            refine st_cut (fun ρ w => (∃ base, ρ = updl base [(0, .slice A1 l_.length c2), (3, .pointer (some ⟨b15, 0, none⟩)), (4, .pointer (some ⟨b19, 0, none⟩)), (5, .int .i64 v41), (6, .pointer (some ⟨b70, 0, none⟩)), (7, .int .i64 v213), (8, .int .i64 v214), (9, .int .i64 v215)]) ∧ Hp w0 (Row K38 (.slice A32 xs35.length c34) xs35 :: Bx b15 75 [.slice A32 xs35.length c34] :: Row K38 (.slice A37 xs40.length c39) xs40 :: Bx b19 28 [.slice A37 xs40.length c39] :: Bx b70 31 [.int .i64 ((rd l_ v41).Do), .int .i64 ((rd l_ v41).Origin), .int .i64 ((rd l_ v41).Life), .int .i64 ((rd l_ v41).f_N), .slice ((ads7 (Int.toNat v41)).1) (((rd l_ v41).Used).length) ((ads7 (Int.toNat v41)).2)] :: Γ) w ∧ scutagelaw13_VintagePlays.j4 l_ v41 xs35 v213 v214 v215 xs40 (scutagelaw13_VintagePlays.l1 l_ fuel51) = some tl44) ?_ ?_
            · refine st_seq ?_
              refine st_region ?_
              refine r_pure (.int .i64 v41) rfl ?_
              refine r_pure (.bool (v41 == 9)) rfl ?_
              refine r_seq ?_
              rcases ite_some hm with ⟨hb1379, hm⟩ | ⟨hb1379, hm⟩
              · refine st_condt hb1379 rfl ?_
                refine st_seq ?_
                refine st_region ?_
                refine r_pure (.pointer (some ⟨b15, 0, none⟩)) rfl ?_
                obtain ⟨y1380, hy1381, hm⟩ := bind_some hm
                refine r_callf Try.call11 (vintage_Losses_Clone_ok b15 (⟨xs35⟩ : vintage_Losses) A32 xs35.length c34 rfl (((H216).g0).cap) (fun _ H => (H.g0.rd)) (fun _ H => (H.g1)) y1380 H216 hy1381) ?_
                rintro e1383 wd1382 ⟨b1386, A1387, n1388, c1389, rfl, H1385⟩
                obtain rfl := (H1385.g1).leneq
                refine ⟨_, rfl, ?_⟩
                refine r_pure (.pointer (some ⟨b1386, 0, none⟩)) rfl ?_
                refine r_seq ?_
                refine st_seq ?_
                refine st_seq ?_
                refine st_region ?_
                refine r_pure (.pointer (some ⟨b1386, 0, none⟩)) rfl ?_
                refine r_eqn Try.underlying23 rfl rfl ?_
                refine r_seq ?_
                refine st_condf rfl rfl ?_
                refine st_skip ?_
                refine n_sq ?_
                refine st_seq ?_
                refine st_region ?_
                refine r_pure (.pointer (some ⟨b1386, 0, none⟩)) rfl ?_
                obtain ⟨⟨y1390, y1391⟩, hy1392, hm⟩ := bind_some hm
                refine r_callf Try.call12 (vintage_Losses_Add_ok b1386 (⟨y1380.f_l⟩ : vintage_Losses) A1387 c1389 1 2 5 y1390 y1391 H1385.u1.u1 hy1392) ?_
                rintro e1394 wd1393 ⟨A1397, n1398, c1399, rfl, H1396⟩
                obtain rfl := (H1396.g1).leneq
                refine ⟨_, rfl, ?_⟩
                refine r_seq ?_
                refine st_region ?_
                refine r_pure (.pointer (some ⟨b1386, 0, none⟩)) rfl ?_
                obtain ⟨⟨y1400, y1401⟩, hy1402, hm⟩ := bind_some hm
                refine r_callf Try.call13 (vintage_Losses_Expire_ok b1386 (⟨y1391.f_l⟩ : vintage_Losses) A1397 c1399 50 y1400 y1401 H1396.u1.u1 hy1402) ?_
                rintro e1404 wd1403 ⟨A1407, n1408, c1409, rfl, H1406⟩
                obtain rfl := (H1406.g1).leneq
                refine ⟨_, rfl, ?_⟩
                refine r_nil ?_
                refine n_cut ⟨upk (ac rfl (ac rfl (ac rfl (ac rfl (ac rfl (ac rfl (ac rfl (ac rfl an)))))))), H1406.d.d.u4.u4.u4.u4.u4, hm⟩
              · refine st_condf hb1379 rfl ?_
                refine st_skip ?_
                refine n_cut ⟨upk (ac rfl (ac rfl (ac rfl (ac rfl (ac rfl (ac rfl (ac rfl (ac rfl an)))))))), H216.u4.u4.u4.u4.u4, hm⟩
            · rintro ρ w ⟨⟨base, rfl⟩, H217, hm⟩
              unfold scutagelaw13_VintagePlays.j4 at hm
              refine st_seq ?_
              refine st_seq ?_
              refine st_region ?_
              refine r_fa FA31_0 ⟨b70, 0, none⟩ rfl rfl ?_
              refine r_ld1 (.int .i64 ((rd l_ v41).Do)) LD3 rfl ((H217.g4).cell _ rfl) ?_
              obtain ⟨y218, hy219, hm⟩ := bind_some hm
              refine r_callf Try.call9 (scutagekeep_Within_ok ((rd l_ v41).Do) 7 y218 H217 hy219) ?_
              rintro e221 wd220 ⟨rfl, H223⟩
              refine ⟨_, rfl, ?_⟩
              refine r_seq ?_
              refine st_block ?_
              refine st_cut (fun ρ w => ∃ q224 : Bool, (∃ base, ρ = updl base [(0, .slice A1 l_.length c2), (3, .pointer (some ⟨b15, 0, none⟩)), (4, .pointer (some ⟨b19, 0, none⟩)), (5, .int .i64 v41), (6, .pointer (some ⟨b70, 0, none⟩)), (7, .int .i64 v213), (8, .int .i64 v214), (9, .int .i64 v215), (69, .int .i64 y218), (133, .bool q224)]) ∧ Hp w0 (Row K38 (.slice A32 xs35.length c34) xs35 :: Bx b15 75 [.slice A32 xs35.length c34] :: Row K38 (.slice A37 xs40.length c39) xs40 :: Bx b19 28 [.slice A37 xs40.length c39] :: Bx b70 31 [.int .i64 ((rd l_ v41).Do), .int .i64 ((rd l_ v41).Origin), .int .i64 ((rd l_ v41).Life), .int .i64 ((rd l_ v41).f_N), .slice ((ads7 (Int.toNat v41)).1) (((rd l_ v41).Used).length) ((ads7 (Int.toNat v41)).2)] :: Γ) w ∧ scutagelaw13_VintagePlays.j5 xs35 v213 v214 v215 xs40 (scutagelaw13_VintagePlays.l1 l_ fuel51) v41 y218 l_ q224 = some tl44) ?_ ?_
              · refine st_seq ?_
                refine st_region ?_
                refine r_pure (.bool (y218 == 0)) rfl ?_
                refine r_pure (.bool (y218 == 0)) rfl ?_
                refine r_seq ?_
                rcases ite_some hm with ⟨hb1376, hm⟩ | ⟨hb1376, hm⟩
                · refine st_condt hb1376 rfl ?_
                  refine st_skip ?_
                  refine n_cut ⟨y218 == 0, upk (ac rfl (ac rfl (ac rfl (ac rfl (ac rfl (ac rfl (ac rfl (ac rfl (ac rfl (ac rfl an)))))))))), H223.u4.u4.u4.u4.u4, hm⟩
                · refine st_condf hb1376 rfl ?_
                  refine st_seq ?_
                  refine st_region ?_
                  refine r_pure (.bool (y218 == 1)) rfl ?_
                  refine r_pure (.bool (y218 == 1)) rfl ?_
                  refine r_seq ?_
                  rcases ite_some hm with ⟨hb1377, hm⟩ | ⟨hb1377, hm⟩
                  · refine st_condt hb1377 rfl ?_
                    refine st_skip ?_
                    refine n_cut ⟨y218 == 1, upk (ac rfl (ac rfl (ac rfl (ac rfl (ac rfl (ac rfl (ac rfl (ac rfl (ac rfl (ac rfl an)))))))))), H223.u4.u4.u4.u4.u4, hm⟩
                  · refine st_condf hb1377 rfl ?_
                    refine st_seq ?_
                    refine st_region ?_
                    refine r_pure (.bool (y218 == 2)) rfl ?_
                    refine r_pure (.bool (y218 == 2)) rfl ?_
                    refine r_seq ?_
                    rcases ite_some hm with ⟨hb1378, hm⟩ | ⟨hb1378, hm⟩
                    · refine st_condt hb1378 rfl ?_
                      refine st_skip ?_
                      refine n_cut ⟨y218 == 2, upk (ac rfl (ac rfl (ac rfl (ac rfl (ac rfl (ac rfl (ac rfl (ac rfl (ac rfl (ac rfl an)))))))))), H223.u4.u4.u4.u4.u4, hm⟩
                    · refine st_condf hb1378 rfl ?_
                      refine st_region ?_
                      refine r_pure (.bool (y218 == 3)) rfl ?_
                      refine r_pure (.bool (y218 == 3)) rfl ?_
                      refine r_nil ?_
                      refine n_cut ⟨y218 == 3, upk (ac rfl (ac rfl (ac rfl (ac rfl (ac rfl (ac rfl (ac rfl (ac rfl (ac rfl (ac rfl an)))))))))), H223.u4.u4.u4.u4.u4, hm⟩
              · rintro ρ w ⟨q224, ⟨base, rfl⟩, H225, hm⟩
                unfold scutagelaw13_VintagePlays.j5 at hm
                rcases ite_some hm with ⟨hb226, hm⟩ | ⟨hb226, hm⟩
                · refine st_condt hb226 rfl ?_
                  refine st_seq ?_
                  refine st_region ?_
                  refine r_pure (.pointer (some ⟨b15, 0, none⟩)) rfl ?_
                  refine r_pure (.int .i64 v213) rfl ?_
                  refine r_pure (.int .i64 v214) rfl ?_
                  refine r_pure (.int .i64 v215) rfl ?_
                  obtain ⟨⟨y227, y228⟩, hy229, hm⟩ := bind_some hm
                  refine r_callf Try.call12 (vintage_Losses_Add_ok b15 (⟨xs35⟩ : vintage_Losses) A32 c34 v213 v214 v215 y227 y228 H225.u1 hy229) ?_
                  rintro e231 wd230 ⟨A234, n235, c236, rfl, H233⟩
                  obtain rfl := (H233.g1).leneq
                  refine ⟨_, rfl, ?_⟩
                  refine r_pure (.pointer (some ⟨b19, 0, none⟩)) rfl ?_
                  refine r_pure (.int .i64 v213) rfl ?_
                  refine r_pure (.int .i64 v214) rfl ?_
                  refine r_pure (.int .i64 v215) rfl ?_
                  obtain ⟨⟨y237, y238⟩, hy239, hm⟩ := bind_some hm
                  refine r_callf Try.call14 (scutageref09_Losses_Add_ok b19 (⟨xs40⟩ : scutageref09_Losses) A37 c39 v213 v214 v215 y237 y238 H233.u2.u3 hy239) ?_
                  rintro e241 wd240 ⟨A244, n245, c246, rfl, H243⟩
                  obtain rfl := (H243.g1).leneq
                  refine ⟨_, rfl, ?_⟩
                  refine r_pure (.bool (y227 != y237)) rfl ?_
                  refine r_seq ?_
                  rcases ite_some hm with ⟨hb247, hm⟩ | ⟨hb247, hm⟩
                  · refine st_condt hb247 rfl ?_
                    refine st_seq ?_
                    refine st_region ?_
                    refine r_pure (.bool false) rfl ?_
                    refine r_seq ?_
                    have hq_ := Option.some.inj hm
                    subst hq_
                    have hq_ := Option.some.inj (show some (false : Bool) = some r0_ from hm43)
                    subst hq_
                    refine st_ret1 rfl rfl (Nat.le_of_ble_eq_true rfl) rfl ?_
                    exact ⟨rfl, H243.d.d.d.d.d⟩
                  · refine st_condf hb247 rfl ?_
                    refine st_skip ?_
                    refine n_bl ?_
                    refine n_sq ?_
                    refine st_cut (fun ρ w => ∃ q248 : Bool, (∃ base, ρ = updl base [(0, .slice A1 l_.length c2), (3, .pointer (some ⟨b15, 0, none⟩)), (4, .pointer (some ⟨b19, 0, none⟩)), (5, .int .i64 v41), (176, .bool q248)]) ∧ Hp w0 (Row K38 (.slice A234 y228.f_l.length c236) y228.f_l :: Bx b15 75 [.slice A234 y228.f_l.length c236] :: Row K38 (.slice A244 y238.V.length c246) y238.V :: Bx b19 28 [.slice A244 y238.V.length c246] :: Γ) w ∧ scutagelaw13_VintagePlays.j6 (scutagelaw13_VintagePlays.l1 l_ fuel51) v41 y228 y238 q248 = some tl44) ?_ ?_
                    · obtain ⟨y252, hy253, hm⟩ := bind_some hm
                      obtain ⟨y261, hy262, hm⟩ := bind_some hm
                      rcases ite_some hm with ⟨hb267, hm⟩ | ⟨hb267, hm⟩
                      · refine Flow.run' [[], [0], [], [2], [2, 3], [2, 3, 4], [0, 1, 2, 3, 4, 5], [0, 1, 2, 3, 4, 5, 6], [0, 1, 2, 3, 4, 5, 6, 7], [0, 1, 2, 3, 4, 5, 6, 7, 8], [0, 1, 2, 3, 4, 5, 6, 7, 8, 9], [0, 1, 2, 3, 4, 5, 6, 7, 8], [0, 1, 2, 3, 4, 5, 6, 7, 8, 9, 10, 11], [0, 1, 2, 3, 4, 5, 6, 7, 8, 9, 10, 11, 12], [0, 1, 2, 3, 4, 5, 6, 7, 8, 9, 10, 11, 12, 13]] [(162, 0), (163, 1), (164, 2), (165, 3), (166, 4), (167, 5), (168, 6), (169, 7), (170, 8), (171, 9), (172, 10), (173, 11), (174, 12), (175, 13), (176, 14)] [(fun η251 v => v.1 = .pointer (some ⟨b15, 0, none⟩)), (fun η251 v => v.1 = .slice (vA (v.1)) y252.length (vC (v.1))), (fun η251 v => v.1 = .pointer (some ⟨b19, 0, none⟩)), (fun η251 v => v.1 = .pointer (some ⟨b19, 0, none⟩)), (fun η251 v => v.1 = .pointer (some ⟨b19, 0, none⟩)), (fun η251 v => v.1 = .slice A244 y238.V.length c246), (fun η251 v => v.1 = .bool y261), (fun η251 v => v.1 = .bool (!y261)), (fun η251 v => v.1 = .bool (!y261)), (fun η251 v => v.1 = undef), (fun η251 v => v.1 = undef), (fun η251 v => v.1 = undef), (fun η251 v => v.1 = undef), (fun η251 v => v.1 = undef), (fun η251 v => v.1 = .bool true)] [⟨(some 1), none, fun η251 => Row K38 (.slice (vA ((η251 1).1)) y252.length (vC ((η251 1).1))) y252⟩] rfl (by kernel_rfl) (by kernel_rfl) H243 ⟨?_, ?_, ?_, ?_, ?_, ?_, ?_, ?_, ?_, ?_, ?_, ?_, ?_, ?_, ?_, trivial⟩ ?_
                        · intro η251 wd271 Δ272 hE268 hR269 H270
                          have H270 : Hp w0 ((Δ272 ++ (Bx b19 28 [.slice A244 y238.V.length c246] :: Row K38 (.slice A244 y238.V.length c246) y238.V :: Bx b15 75 [.slice A234 y228.f_l.length c236] :: Row K38 (.slice A234 y228.f_l.length c236) y228.f_l :: Bx b70 31 [.int .i64 ((rd l_ v41).Do), .int .i64 ((rd l_ v41).Origin), .int .i64 ((rd l_ v41).Life), .int .i64 ((rd l_ v41).f_N), .slice ((ads7 (Int.toNat v41)).1) (((rd l_ v41).Used).length) ((ads7 (Int.toNat v41)).2)] :: Γ))) wd271 := H270
                          refine sp_op [(3, .pointer (some ⟨b15, 0, none⟩))] (ac rfl an) ?_
                          refine r_pure (.pointer (some ⟨b15, 0, none⟩)) rfl ?_
                          exact r_nil (n_lp ⟨_, rfl, undef, rfl, H270⟩)
                        · intro η251 wd276 Δ277 hE273 hR274 H275
                          have H275 : Hp w0 ((Δ277 ++ (Bx b19 28 [.slice A244 y238.V.length c246] :: Row K38 (.slice A244 y238.V.length c246) y238.V :: Bx b15 75 [.slice A234 y228.f_l.length c236] :: Row K38 (.slice A234 y228.f_l.length c236) y228.f_l :: Bx b70 31 [.int .i64 ((rd l_ v41).Do), .int .i64 ((rd l_ v41).Origin), .int .i64 ((rd l_ v41).Life), .int .i64 ((rd l_ v41).f_N), .slice ((ads7 (Int.toNat v41)).1) (((rd l_ v41).Used).length) ((ads7 (Int.toNat v41)).2)] :: Γ))) wd276 := H275
                          refine sp_op [(162, .pointer (some ⟨b15, 0, none⟩))] (ac (hE273 0 (by decide)) an) ?_
                          refine r_callf Try.call22 (vintage_Losses_Rows_ok b15 (⟨y228.f_l⟩ : vintage_Losses) A234 y228.f_l.length c236 rfl ((((H275)).tl.g3).cap) (fun _ H => ((H).tl.g3.rd)) (fun _ H => ((H).tl.g2)) y252 H275 hy253) ?_
                          rintro e281 wd280 ⟨A284, n285, c286, rfl, H283⟩
                          obtain rfl := (H283.g0).leneq
                          refine ⟨_, rfl, ?_⟩
                          exact r_nil (n_lp ⟨_, rfl, (.tuple #[.slice A284 y252.length c286]), rfl, H283⟩)
                        · intro η251 wd290 Δ291 hE287 hR288 H289
                          have H289 : Hp w0 ((Δ291 ++ (Bx b19 28 [.slice A244 y238.V.length c246] :: Row K38 (.slice A244 y238.V.length c246) y238.V :: Bx b15 75 [.slice A234 y228.f_l.length c236] :: Row K38 (.slice A234 y228.f_l.length c236) y228.f_l :: Bx b70 31 [.int .i64 ((rd l_ v41).Do), .int .i64 ((rd l_ v41).Origin), .int .i64 ((rd l_ v41).Life), .int .i64 ((rd l_ v41).f_N), .slice ((ads7 (Int.toNat v41)).1) (((rd l_ v41).Used).length) ((ads7 (Int.toNat v41)).2)] :: Γ))) wd290 := H289
                          refine sp_op [(4, .pointer (some ⟨b19, 0, none⟩))] (ac rfl an) ?_
                          refine r_pure (.pointer (some ⟨b19, 0, none⟩)) rfl ?_
                          exact r_nil (n_lp ⟨_, rfl, undef, rfl, H289⟩)
                        · intro η251 wd295 Δ296 hE292 hR293 H294
                          have H294 : Hp w0 ((Δ296 ++ (Bx b19 28 [.slice A244 y238.V.length c246] :: Row K38 (.slice A244 y238.V.length c246) y238.V :: Bx b15 75 [.slice A234 y228.f_l.length c236] :: Row K38 (.slice A234 y228.f_l.length c236) y228.f_l :: Bx b70 31 [.int .i64 ((rd l_ v41).Do), .int .i64 ((rd l_ v41).Origin), .int .i64 ((rd l_ v41).Life), .int .i64 ((rd l_ v41).f_N), .slice ((ads7 (Int.toNat v41)).1) (((rd l_ v41).Used).length) ((ads7 (Int.toNat v41)).2)] :: Γ))) wd295 := H294
                          refine sp_op [(164, .pointer (some ⟨b19, 0, none⟩))] (ac (hE292 2 (by decide)) an) ?_
                          refine r_pure (.pointer (some ⟨b19, 0, none⟩)) rfl ?_
                          exact r_nil (n_lp ⟨_, rfl, undef, rfl, H294⟩)
                        · intro η251 wd300 Δ301 hE297 hR298 H299
                          have H299 : Hp w0 ((Δ301 ++ (Bx b19 28 [.slice A244 y238.V.length c246] :: Row K38 (.slice A244 y238.V.length c246) y238.V :: Bx b15 75 [.slice A234 y228.f_l.length c236] :: Row K38 (.slice A234 y228.f_l.length c236) y228.f_l :: Bx b70 31 [.int .i64 ((rd l_ v41).Do), .int .i64 ((rd l_ v41).Origin), .int .i64 ((rd l_ v41).Life), .int .i64 ((rd l_ v41).f_N), .slice ((ads7 (Int.toNat v41)).1) (((rd l_ v41).Used).length) ((ads7 (Int.toNat v41)).2)] :: Γ))) wd300 := H299
                          refine sp_op [(165, .pointer (some ⟨b19, 0, none⟩))] (ac (hE297 3 (by decide)) an) ?_
                          refine r_fa FA28_0 ⟨b19, 0, none⟩ rfl rfl ?_
                          exact r_nil (n_lp ⟨_, rfl, undef, rfl, H299⟩)
                        · intro η251 wd305 Δ306 hE302 hR303 H304
                          have H304 : Hp w0 ((Δ306 ++ (Bx b19 28 [.slice A244 y238.V.length c246] :: Row K38 (.slice A244 y238.V.length c246) y238.V :: Bx b15 75 [.slice A234 y228.f_l.length c236] :: Row K38 (.slice A234 y228.f_l.length c236) y228.f_l :: Bx b70 31 [.int .i64 ((rd l_ v41).Do), .int .i64 ((rd l_ v41).Origin), .int .i64 ((rd l_ v41).Life), .int .i64 ((rd l_ v41).f_N), .slice ((ads7 (Int.toNat v41)).1) (((rd l_ v41).Used).length) ((ads7 (Int.toNat v41)).2)] :: Γ))) wd305 := H304
                          refine sp_op [(166, .pointer (some ⟨b19, 0, none⟩))] (ac (hE302 4 (by decide)) an) ?_
                          refine r_ld1 (.slice A244 y238.V.length c246) LD26 rfl (((H304).tl.g0).cell _ rfl) ?_
                          exact r_nil (n_lp ⟨_, rfl, undef, rfl, H304⟩)
                        · intro η251 wd310 Δ311 hE307 hR308 H309
                          have H309 : Hp w0 ((Δ311 ++ (Bx b19 28 [.slice A244 y238.V.length c246] :: Row K38 (.slice A244 y238.V.length c246) y238.V :: Bx b15 75 [.slice A234 y228.f_l.length c236] :: Row K38 (.slice A234 y228.f_l.length c236) y228.f_l :: Bx b70 31 [.int .i64 ((rd l_ v41).Do), .int .i64 ((rd l_ v41).Origin), .int .i64 ((rd l_ v41).Life), .int .i64 ((rd l_ v41).f_N), .slice ((ads7 (Int.toNat v41)).1) (((rd l_ v41).Used).length) ((ads7 (Int.toNat v41)).2)] :: Γ))) wd310 := H309
                          refine sp_op [(163, .slice (vA ((η251 1).1)) y252.length (vC ((η251 1).1))), (167, .slice A244 y238.V.length c246)] (ac (hE307 1 (by decide)) (ac (hE307 5 (by decide)) an)) ?_
                          refine r_callf Try.call21 (scutagekeep_Same_api_Vintage_ok y252 (vA ((η251 1).1)) y252.length (vC ((η251 1).1)) rfl (((show (Row K38 (.slice (vA ((η251 1).1)) y252.length (vC ((η251 1).1))) y252) _ from ((H309)).memr (hR308 _ (List.mem_of_getElem? (i := 0) rfl) rfl))).cap) (fun _ H => ((show (Row K38 (.slice (vA ((η251 1).1)) y252.length (vC ((η251 1).1))) y252) _ from (H).memr (hR308 _ (List.mem_of_getElem? (i := 0) rfl) rfl)).rd)) y238.V A244 y238.V.length c246 rfl ((((H309)).tl.g1).cap) (fun _ H => ((H).tl.g1.rd)) y261 H309 hy262) ?_
                          rintro e315 wd314 ⟨rfl, H317⟩
                          refine ⟨_, rfl, ?_⟩
                          exact r_nil (n_lp ⟨_, rfl, undef, rfl, H317⟩)
                        · intro η251 wd321 Δ322 hE318 hR319 H320
                          have H320 : Hp w0 ((Δ322 ++ (Bx b19 28 [.slice A244 y238.V.length c246] :: Row K38 (.slice A244 y238.V.length c246) y238.V :: Bx b15 75 [.slice A234 y228.f_l.length c236] :: Row K38 (.slice A234 y228.f_l.length c236) y228.f_l :: Bx b70 31 [.int .i64 ((rd l_ v41).Do), .int .i64 ((rd l_ v41).Origin), .int .i64 ((rd l_ v41).Life), .int .i64 ((rd l_ v41).f_N), .slice ((ads7 (Int.toNat v41)).1) (((rd l_ v41).Used).length) ((ads7 (Int.toNat v41)).2)] :: Γ))) wd321 := H320
                          refine sp_op [(168, .bool y261)] (ac (hE318 6 (by decide)) an) ?_
                          refine r_pure (.bool (!y261)) rfl ?_
                          exact r_nil (n_lp ⟨_, rfl, undef, rfl, H320⟩)
                        · intro η251 wd326 Δ327 hE323 hR324 H325
                          have H325 : Hp w0 ((Δ327 ++ (Bx b19 28 [.slice A244 y238.V.length c246] :: Row K38 (.slice A244 y238.V.length c246) y238.V :: Bx b15 75 [.slice A234 y228.f_l.length c236] :: Row K38 (.slice A234 y228.f_l.length c236) y228.f_l :: Bx b70 31 [.int .i64 ((rd l_ v41).Do), .int .i64 ((rd l_ v41).Origin), .int .i64 ((rd l_ v41).Life), .int .i64 ((rd l_ v41).f_N), .slice ((ads7 (Int.toNat v41)).1) (((rd l_ v41).Used).length) ((ads7 (Int.toNat v41)).2)] :: Γ))) wd326 := H325
                          refine sp_op [(169, .bool (!y261))] (ac (hE323 7 (by decide)) an) ?_
                          refine r_pure (.bool (!y261)) rfl ?_
                          exact r_nil (n_lp ⟨_, rfl, undef, rfl, H325⟩)
                        · intro η251 wd331 Δ332 hE328 hR329 H330
                          have H330 : Hp w0 ((Δ332 ++ (Bx b19 28 [.slice A244 y238.V.length c246] :: Row K38 (.slice A244 y238.V.length c246) y238.V :: Bx b15 75 [.slice A234 y228.f_l.length c236] :: Row K38 (.slice A234 y228.f_l.length c236) y228.f_l :: Bx b70 31 [.int .i64 ((rd l_ v41).Do), .int .i64 ((rd l_ v41).Origin), .int .i64 ((rd l_ v41).Life), .int .i64 ((rd l_ v41).f_N), .slice ((ads7 (Int.toNat v41)).1) (((rd l_ v41).Used).length) ((ads7 (Int.toNat v41)).2)] :: Γ))) wd331 := H330
                          refine sp_op [(3, .pointer (some ⟨b15, 0, none⟩)), (170, .bool (!y261))] (ac rfl (ac (hE328 8 (by decide)) an)) ?_
                          refine r_not (wn_f rfl rfl (by decide) rfl hb267) ?_
                          exact r_nil (n_lp ⟨_, rfl, undef, rfl, H330⟩)
                        · intro η251 wd336 Δ337 hE333 hR334 H335
                          have H335 : Hp w0 ((Δ337 ++ (Bx b19 28 [.slice A244 y238.V.length c246] :: Row K38 (.slice A244 y238.V.length c246) y238.V :: Bx b15 75 [.slice A234 y228.f_l.length c236] :: Row K38 (.slice A234 y228.f_l.length c236) y228.f_l :: Bx b70 31 [.int .i64 ((rd l_ v41).Do), .int .i64 ((rd l_ v41).Origin), .int .i64 ((rd l_ v41).Life), .int .i64 ((rd l_ v41).f_N), .slice ((ads7 (Int.toNat v41)).1) (((rd l_ v41).Used).length) ((ads7 (Int.toNat v41)).2)] :: Γ))) wd336 := H335
                          refine sp_op [(170, .bool (!y261)), (171, undef)] (ac (hE333 8 (by decide)) (ac (hE333 9 (by decide)) an)) ?_
                          refine r_not (wn_f rfl rfl (by decide) rfl hb267) ?_
                          exact r_nil (n_lp ⟨_, rfl, undef, rfl, H335⟩)
                        · intro η251 wd341 Δ342 hE338 hR339 H340
                          have H340 : Hp w0 ((Δ342 ++ (Bx b19 28 [.slice A244 y238.V.length c246] :: Row K38 (.slice A244 y238.V.length c246) y238.V :: Bx b15 75 [.slice A234 y228.f_l.length c236] :: Row K38 (.slice A234 y228.f_l.length c236) y228.f_l :: Bx b70 31 [.int .i64 ((rd l_ v41).Do), .int .i64 ((rd l_ v41).Origin), .int .i64 ((rd l_ v41).Life), .int .i64 ((rd l_ v41).f_N), .slice ((ads7 (Int.toNat v41)).1) (((rd l_ v41).Used).length) ((ads7 (Int.toNat v41)).2)] :: Γ))) wd341 := H340
                          refine sp_op [(4, .pointer (some ⟨b19, 0, none⟩)), (170, .bool (!y261))] (ac rfl (ac (hE338 8 (by decide)) an)) ?_
                          refine r_not (wn_f rfl rfl (by decide) rfl hb267) ?_
                          exact r_nil (n_lp ⟨_, rfl, undef, rfl, H340⟩)
                        · intro η251 wd346 Δ347 hE343 hR344 H345
                          have H345 : Hp w0 ((Δ347 ++ (Bx b19 28 [.slice A244 y238.V.length c246] :: Row K38 (.slice A244 y238.V.length c246) y238.V :: Bx b15 75 [.slice A234 y228.f_l.length c236] :: Row K38 (.slice A234 y228.f_l.length c236) y228.f_l :: Bx b70 31 [.int .i64 ((rd l_ v41).Do), .int .i64 ((rd l_ v41).Origin), .int .i64 ((rd l_ v41).Life), .int .i64 ((rd l_ v41).f_N), .slice ((ads7 (Int.toNat v41)).1) (((rd l_ v41).Used).length) ((ads7 (Int.toNat v41)).2)] :: Γ))) wd346 := H345
                          refine sp_op [(170, .bool (!y261)), (173, undef)] (ac (hE343 8 (by decide)) (ac (hE343 11 (by decide)) an)) ?_
                          refine r_not (wn_f rfl rfl (by decide) rfl hb267) ?_
                          exact r_nil (n_lp ⟨_, rfl, undef, rfl, H345⟩)
                        · intro η251 wd351 Δ352 hE348 hR349 H350
                          have H350 : Hp w0 ((Δ352 ++ (Bx b19 28 [.slice A244 y238.V.length c246] :: Row K38 (.slice A244 y238.V.length c246) y238.V :: Bx b15 75 [.slice A234 y228.f_l.length c236] :: Row K38 (.slice A234 y228.f_l.length c236) y228.f_l :: Bx b70 31 [.int .i64 ((rd l_ v41).Do), .int .i64 ((rd l_ v41).Origin), .int .i64 ((rd l_ v41).Life), .int .i64 ((rd l_ v41).f_N), .slice ((ads7 (Int.toNat v41)).1) (((rd l_ v41).Used).length) ((ads7 (Int.toNat v41)).2)] :: Γ))) wd351 := H350
                          refine sp_op [(170, .bool (!y261)), (172, undef), (174, undef)] (ac (hE348 8 (by decide)) (ac (hE348 10 (by decide)) (ac (hE348 12 (by decide)) an))) ?_
                          refine r_not (wn_f rfl rfl (by decide) rfl hb267) ?_
                          exact r_nil (n_lp ⟨_, rfl, undef, rfl, H350⟩)
                        · intro η251 wd356 Δ357 hE353 hR354 H355
                          have H355 : Hp w0 ((Δ357 ++ (Bx b19 28 [.slice A244 y238.V.length c246] :: Row K38 (.slice A244 y238.V.length c246) y238.V :: Bx b15 75 [.slice A234 y228.f_l.length c236] :: Row K38 (.slice A234 y228.f_l.length c236) y228.f_l :: Bx b70 31 [.int .i64 ((rd l_ v41).Do), .int .i64 ((rd l_ v41).Origin), .int .i64 ((rd l_ v41).Life), .int .i64 ((rd l_ v41).f_N), .slice ((ads7 (Int.toNat v41)).1) (((rd l_ v41).Used).length) ((ads7 (Int.toNat v41)).2)] :: Γ))) wd356 := H355
                          refine sp_op [(170, .bool (!y261)), (175, undef)] (ac (hE353 8 (by decide)) (ac (hE353 13 (by decide)) an)) ?_
                          refine r_pick_t (.bool true) hb267 rfl rfl ?_
                          exact r_nil (n_lp ⟨_, rfl, undef, rfl, H355⟩)
                        · intro η251 wd359 hV360 H358
                          have H361 : Hp w0 (Row K38 (.slice (vA ((η251 1).1)) y252.length (vC ((η251 1).1))) y252 :: Bx b19 28 [.slice A244 y238.V.length c246] :: Row K38 (.slice A244 y238.V.length c246) y238.V :: Bx b15 75 [.slice A234 y228.f_l.length c236] :: Row K38 (.slice A234 y228.f_l.length c236) y228.f_l :: Bx b70 31 [.int .i64 ((rd l_ v41).Do), .int .i64 ((rd l_ v41).Origin), .int .i64 ((rd l_ v41).Life), .int .i64 ((rd l_ v41).f_N), .slice ((ads7 (Int.toNat v41)).1) (((rd l_ v41).Used).length) ((ads7 (Int.toNat v41)).2)] :: Γ) wd359 := H358
                          refine n_frame [(0, .slice A1 l_.length c2), (3, .pointer (some ⟨b15, 0, none⟩)), (4, .pointer (some ⟨b19, 0, none⟩)), (5, .int .i64 v41), (176, .bool true)] (ac rfl (ac rfl (ac rfl (ac rfl (ac (hV360 14 rfl) an))))) ?_
                          refine n_cut ⟨true, upk (ac rfl (ac rfl (ac rfl (ac rfl (ac rfl an))))), H361.d.u4.d.u1.u2.u3, hm⟩
                      · obtain ⟨y362, hy363, hm⟩ := bind_some hm
                        obtain ⟨y368, hy369, hm⟩ := bind_some hm
                        refine Flow.run' [[], [0], [], [2], [2, 3], [2, 3, 4], [0, 1, 2, 3, 4, 5], [0, 1, 2, 3, 4, 5, 6], [0, 1, 2, 3, 4, 5, 6, 7], [0, 1, 2, 3, 4, 5, 6, 7, 8], [0, 1, 2, 3, 4, 5, 6, 7, 8, 9], [0, 1, 2, 3, 4, 5, 6, 7, 8], [0, 1, 2, 3, 4, 5, 6, 7, 8, 9, 10, 11], [0, 1, 2, 3, 4, 5, 6, 7, 8, 9, 10, 11, 12], [0, 1, 2, 3, 4, 5, 6, 7, 8, 9, 10, 11, 12, 13]] [(162, 0), (163, 1), (164, 2), (165, 3), (166, 4), (167, 5), (168, 6), (169, 7), (170, 8), (171, 9), (172, 10), (173, 11), (174, 12), (175, 13), (176, 14)] [(fun η251 v => v.1 = .pointer (some ⟨b15, 0, none⟩)), (fun η251 v => v.1 = .slice (vA (v.1)) y252.length (vC (v.1))), (fun η251 v => v.1 = .pointer (some ⟨b19, 0, none⟩)), (fun η251 v => v.1 = .pointer (some ⟨b19, 0, none⟩)), (fun η251 v => v.1 = .pointer (some ⟨b19, 0, none⟩)), (fun η251 v => v.1 = .slice A244 y238.V.length c246), (fun η251 v => v.1 = .bool y261), (fun η251 v => v.1 = .bool (!y261)), (fun η251 v => v.1 = .bool (!y261)), (fun η251 v => v.1 = .pointer (some ⟨b15, 0, none⟩)), (fun η251 v => v.1 = .int .i64 y362), (fun η251 v => v.1 = .pointer (some ⟨b19, 0, none⟩)), (fun η251 v => v.1 = .int .i64 y368), (fun η251 v => v.1 = .bool (y362 != y368)), (fun η251 v => v.1 = .bool (y362 != y368))] [⟨(some 1), none, fun η251 => Row K38 (.slice (vA ((η251 1).1)) y252.length (vC ((η251 1).1))) y252⟩] rfl (by kernel_rfl) (by kernel_rfl) H243 ⟨?_, ?_, ?_, ?_, ?_, ?_, ?_, ?_, ?_, ?_, ?_, ?_, ?_, ?_, ?_, trivial⟩ ?_
                        · intro η251 wd377 Δ378 hE374 hR375 H376
                          have H376 : Hp w0 ((Δ378 ++ (Bx b19 28 [.slice A244 y238.V.length c246] :: Row K38 (.slice A244 y238.V.length c246) y238.V :: Bx b15 75 [.slice A234 y228.f_l.length c236] :: Row K38 (.slice A234 y228.f_l.length c236) y228.f_l :: Bx b70 31 [.int .i64 ((rd l_ v41).Do), .int .i64 ((rd l_ v41).Origin), .int .i64 ((rd l_ v41).Life), .int .i64 ((rd l_ v41).f_N), .slice ((ads7 (Int.toNat v41)).1) (((rd l_ v41).Used).length) ((ads7 (Int.toNat v41)).2)] :: Γ))) wd377 := H376
                          refine sp_op [(3, .pointer (some ⟨b15, 0, none⟩))] (ac rfl an) ?_
                          refine r_pure (.pointer (some ⟨b15, 0, none⟩)) rfl ?_
                          exact r_nil (n_lp ⟨_, rfl, undef, rfl, H376⟩)
                        · intro η251 wd382 Δ383 hE379 hR380 H381
                          have H381 : Hp w0 ((Δ383 ++ (Bx b19 28 [.slice A244 y238.V.length c246] :: Row K38 (.slice A244 y238.V.length c246) y238.V :: Bx b15 75 [.slice A234 y228.f_l.length c236] :: Row K38 (.slice A234 y228.f_l.length c236) y228.f_l :: Bx b70 31 [.int .i64 ((rd l_ v41).Do), .int .i64 ((rd l_ v41).Origin), .int .i64 ((rd l_ v41).Life), .int .i64 ((rd l_ v41).f_N), .slice ((ads7 (Int.toNat v41)).1) (((rd l_ v41).Used).length) ((ads7 (Int.toNat v41)).2)] :: Γ))) wd382 := H381
                          refine sp_op [(162, .pointer (some ⟨b15, 0, none⟩))] (ac (hE379 0 (by decide)) an) ?_
                          refine r_callf Try.call22 (vintage_Losses_Rows_ok b15 (⟨y228.f_l⟩ : vintage_Losses) A234 y228.f_l.length c236 rfl ((((H381)).tl.g3).cap) (fun _ H => ((H).tl.g3.rd)) (fun _ H => ((H).tl.g2)) y252 H381 hy253) ?_
                          rintro e387 wd386 ⟨A390, n391, c392, rfl, H389⟩
                          obtain rfl := (H389.g0).leneq
                          refine ⟨_, rfl, ?_⟩
                          exact r_nil (n_lp ⟨_, rfl, (.tuple #[.slice A390 y252.length c392]), rfl, H389⟩)
                        · intro η251 wd396 Δ397 hE393 hR394 H395
                          have H395 : Hp w0 ((Δ397 ++ (Bx b19 28 [.slice A244 y238.V.length c246] :: Row K38 (.slice A244 y238.V.length c246) y238.V :: Bx b15 75 [.slice A234 y228.f_l.length c236] :: Row K38 (.slice A234 y228.f_l.length c236) y228.f_l :: Bx b70 31 [.int .i64 ((rd l_ v41).Do), .int .i64 ((rd l_ v41).Origin), .int .i64 ((rd l_ v41).Life), .int .i64 ((rd l_ v41).f_N), .slice ((ads7 (Int.toNat v41)).1) (((rd l_ v41).Used).length) ((ads7 (Int.toNat v41)).2)] :: Γ))) wd396 := H395
                          refine sp_op [(4, .pointer (some ⟨b19, 0, none⟩))] (ac rfl an) ?_
                          refine r_pure (.pointer (some ⟨b19, 0, none⟩)) rfl ?_
                          exact r_nil (n_lp ⟨_, rfl, undef, rfl, H395⟩)
                        · intro η251 wd401 Δ402 hE398 hR399 H400
                          have H400 : Hp w0 ((Δ402 ++ (Bx b19 28 [.slice A244 y238.V.length c246] :: Row K38 (.slice A244 y238.V.length c246) y238.V :: Bx b15 75 [.slice A234 y228.f_l.length c236] :: Row K38 (.slice A234 y228.f_l.length c236) y228.f_l :: Bx b70 31 [.int .i64 ((rd l_ v41).Do), .int .i64 ((rd l_ v41).Origin), .int .i64 ((rd l_ v41).Life), .int .i64 ((rd l_ v41).f_N), .slice ((ads7 (Int.toNat v41)).1) (((rd l_ v41).Used).length) ((ads7 (Int.toNat v41)).2)] :: Γ))) wd401 := H400
                          refine sp_op [(164, .pointer (some ⟨b19, 0, none⟩))] (ac (hE398 2 (by decide)) an) ?_
                          refine r_pure (.pointer (some ⟨b19, 0, none⟩)) rfl ?_
                          exact r_nil (n_lp ⟨_, rfl, undef, rfl, H400⟩)
                        · intro η251 wd406 Δ407 hE403 hR404 H405
                          have H405 : Hp w0 ((Δ407 ++ (Bx b19 28 [.slice A244 y238.V.length c246] :: Row K38 (.slice A244 y238.V.length c246) y238.V :: Bx b15 75 [.slice A234 y228.f_l.length c236] :: Row K38 (.slice A234 y228.f_l.length c236) y228.f_l :: Bx b70 31 [.int .i64 ((rd l_ v41).Do), .int .i64 ((rd l_ v41).Origin), .int .i64 ((rd l_ v41).Life), .int .i64 ((rd l_ v41).f_N), .slice ((ads7 (Int.toNat v41)).1) (((rd l_ v41).Used).length) ((ads7 (Int.toNat v41)).2)] :: Γ))) wd406 := H405
                          refine sp_op [(165, .pointer (some ⟨b19, 0, none⟩))] (ac (hE403 3 (by decide)) an) ?_
                          refine r_fa FA28_0 ⟨b19, 0, none⟩ rfl rfl ?_
                          exact r_nil (n_lp ⟨_, rfl, undef, rfl, H405⟩)
                        · intro η251 wd411 Δ412 hE408 hR409 H410
                          have H410 : Hp w0 ((Δ412 ++ (Bx b19 28 [.slice A244 y238.V.length c246] :: Row K38 (.slice A244 y238.V.length c246) y238.V :: Bx b15 75 [.slice A234 y228.f_l.length c236] :: Row K38 (.slice A234 y228.f_l.length c236) y228.f_l :: Bx b70 31 [.int .i64 ((rd l_ v41).Do), .int .i64 ((rd l_ v41).Origin), .int .i64 ((rd l_ v41).Life), .int .i64 ((rd l_ v41).f_N), .slice ((ads7 (Int.toNat v41)).1) (((rd l_ v41).Used).length) ((ads7 (Int.toNat v41)).2)] :: Γ))) wd411 := H410
                          refine sp_op [(166, .pointer (some ⟨b19, 0, none⟩))] (ac (hE408 4 (by decide)) an) ?_
                          refine r_ld1 (.slice A244 y238.V.length c246) LD26 rfl (((H410).tl.g0).cell _ rfl) ?_
                          exact r_nil (n_lp ⟨_, rfl, undef, rfl, H410⟩)
                        · intro η251 wd416 Δ417 hE413 hR414 H415
                          have H415 : Hp w0 ((Δ417 ++ (Bx b19 28 [.slice A244 y238.V.length c246] :: Row K38 (.slice A244 y238.V.length c246) y238.V :: Bx b15 75 [.slice A234 y228.f_l.length c236] :: Row K38 (.slice A234 y228.f_l.length c236) y228.f_l :: Bx b70 31 [.int .i64 ((rd l_ v41).Do), .int .i64 ((rd l_ v41).Origin), .int .i64 ((rd l_ v41).Life), .int .i64 ((rd l_ v41).f_N), .slice ((ads7 (Int.toNat v41)).1) (((rd l_ v41).Used).length) ((ads7 (Int.toNat v41)).2)] :: Γ))) wd416 := H415
                          refine sp_op [(163, .slice (vA ((η251 1).1)) y252.length (vC ((η251 1).1))), (167, .slice A244 y238.V.length c246)] (ac (hE413 1 (by decide)) (ac (hE413 5 (by decide)) an)) ?_
                          refine r_callf Try.call21 (scutagekeep_Same_api_Vintage_ok y252 (vA ((η251 1).1)) y252.length (vC ((η251 1).1)) rfl (((show (Row K38 (.slice (vA ((η251 1).1)) y252.length (vC ((η251 1).1))) y252) _ from ((H415)).memr (hR414 _ (List.mem_of_getElem? (i := 0) rfl) rfl))).cap) (fun _ H => ((show (Row K38 (.slice (vA ((η251 1).1)) y252.length (vC ((η251 1).1))) y252) _ from (H).memr (hR414 _ (List.mem_of_getElem? (i := 0) rfl) rfl)).rd)) y238.V A244 y238.V.length c246 rfl ((((H415)).tl.g1).cap) (fun _ H => ((H).tl.g1.rd)) y261 H415 hy262) ?_
                          rintro e421 wd420 ⟨rfl, H423⟩
                          refine ⟨_, rfl, ?_⟩
                          exact r_nil (n_lp ⟨_, rfl, undef, rfl, H423⟩)
                        · intro η251 wd427 Δ428 hE424 hR425 H426
                          have H426 : Hp w0 ((Δ428 ++ (Bx b19 28 [.slice A244 y238.V.length c246] :: Row K38 (.slice A244 y238.V.length c246) y238.V :: Bx b15 75 [.slice A234 y228.f_l.length c236] :: Row K38 (.slice A234 y228.f_l.length c236) y228.f_l :: Bx b70 31 [.int .i64 ((rd l_ v41).Do), .int .i64 ((rd l_ v41).Origin), .int .i64 ((rd l_ v41).Life), .int .i64 ((rd l_ v41).f_N), .slice ((ads7 (Int.toNat v41)).1) (((rd l_ v41).Used).length) ((ads7 (Int.toNat v41)).2)] :: Γ))) wd427 := H426
                          refine sp_op [(168, .bool y261)] (ac (hE424 6 (by decide)) an) ?_
                          refine r_pure (.bool (!y261)) rfl ?_
                          exact r_nil (n_lp ⟨_, rfl, undef, rfl, H426⟩)
                        · intro η251 wd432 Δ433 hE429 hR430 H431
                          have H431 : Hp w0 ((Δ433 ++ (Bx b19 28 [.slice A244 y238.V.length c246] :: Row K38 (.slice A244 y238.V.length c246) y238.V :: Bx b15 75 [.slice A234 y228.f_l.length c236] :: Row K38 (.slice A234 y228.f_l.length c236) y228.f_l :: Bx b70 31 [.int .i64 ((rd l_ v41).Do), .int .i64 ((rd l_ v41).Origin), .int .i64 ((rd l_ v41).Life), .int .i64 ((rd l_ v41).f_N), .slice ((ads7 (Int.toNat v41)).1) (((rd l_ v41).Used).length) ((ads7 (Int.toNat v41)).2)] :: Γ))) wd432 := H431
                          refine sp_op [(169, .bool (!y261))] (ac (hE429 7 (by decide)) an) ?_
                          refine r_pure (.bool (!y261)) rfl ?_
                          exact r_nil (n_lp ⟨_, rfl, undef, rfl, H431⟩)
                        · intro η251 wd437 Δ438 hE434 hR435 H436
                          have H436 : Hp w0 ((Δ438 ++ (Bx b19 28 [.slice A244 y238.V.length c246] :: Row K38 (.slice A244 y238.V.length c246) y238.V :: Bx b15 75 [.slice A234 y228.f_l.length c236] :: Row K38 (.slice A234 y228.f_l.length c236) y228.f_l :: Bx b70 31 [.int .i64 ((rd l_ v41).Do), .int .i64 ((rd l_ v41).Origin), .int .i64 ((rd l_ v41).Life), .int .i64 ((rd l_ v41).f_N), .slice ((ads7 (Int.toNat v41)).1) (((rd l_ v41).Used).length) ((ads7 (Int.toNat v41)).2)] :: Γ))) wd437 := H436
                          refine sp_op [(3, .pointer (some ⟨b15, 0, none⟩)), (170, .bool (!y261))] (ac rfl (ac (hE434 8 (by decide)) an)) ?_
                          refine r_pure (.pointer (some ⟨b15, 0, none⟩)) rfl ?_ (wn_t rfl rfl (by decide) rfl hb267)
                          exact r_nil (n_lp ⟨_, rfl, undef, rfl, H436⟩)
                        · intro η251 wd442 Δ443 hE439 hR440 H441
                          have H441 : Hp w0 ((Δ443 ++ (Bx b19 28 [.slice A244 y238.V.length c246] :: Row K38 (.slice A244 y238.V.length c246) y238.V :: Bx b15 75 [.slice A234 y228.f_l.length c236] :: Row K38 (.slice A234 y228.f_l.length c236) y228.f_l :: Bx b70 31 [.int .i64 ((rd l_ v41).Do), .int .i64 ((rd l_ v41).Origin), .int .i64 ((rd l_ v41).Life), .int .i64 ((rd l_ v41).f_N), .slice ((ads7 (Int.toNat v41)).1) (((rd l_ v41).Used).length) ((ads7 (Int.toNat v41)).2)] :: Γ))) wd442 := H441
                          refine sp_op [(170, .bool (!y261)), (171, .pointer (some ⟨b15, 0, none⟩))] (ac (hE439 8 (by decide)) (ac (hE439 9 (by decide)) an)) ?_
                          refine r_callf Try.call23 (vintage_Losses_Left_ok b15 (⟨y228.f_l⟩ : vintage_Losses) A234 y228.f_l.length c236 rfl ((((H441)).tl.g3).cap) (fun _ H => ((H).tl.g3.rd)) (fun _ H => ((H).tl.g2)) y362 H441 hy363) ?_ (wn_t rfl rfl (by decide) rfl hb267)
                          rintro e447 wd446 ⟨rfl, H449⟩
                          refine ⟨_, rfl, ?_⟩
                          exact r_nil (n_lp ⟨_, rfl, undef, rfl, H449⟩)
                        · intro η251 wd453 Δ454 hE450 hR451 H452
                          have H452 : Hp w0 ((Δ454 ++ (Bx b19 28 [.slice A244 y238.V.length c246] :: Row K38 (.slice A244 y238.V.length c246) y238.V :: Bx b15 75 [.slice A234 y228.f_l.length c236] :: Row K38 (.slice A234 y228.f_l.length c236) y228.f_l :: Bx b70 31 [.int .i64 ((rd l_ v41).Do), .int .i64 ((rd l_ v41).Origin), .int .i64 ((rd l_ v41).Life), .int .i64 ((rd l_ v41).f_N), .slice ((ads7 (Int.toNat v41)).1) (((rd l_ v41).Used).length) ((ads7 (Int.toNat v41)).2)] :: Γ))) wd453 := H452
                          refine sp_op [(4, .pointer (some ⟨b19, 0, none⟩)), (170, .bool (!y261))] (ac rfl (ac (hE450 8 (by decide)) an)) ?_
                          refine r_pure (.pointer (some ⟨b19, 0, none⟩)) rfl ?_ (wn_t rfl rfl (by decide) rfl hb267)
                          exact r_nil (n_lp ⟨_, rfl, undef, rfl, H452⟩)
                        · intro η251 wd458 Δ459 hE455 hR456 H457
                          have H457 : Hp w0 ((Δ459 ++ (Bx b19 28 [.slice A244 y238.V.length c246] :: Row K38 (.slice A244 y238.V.length c246) y238.V :: Bx b15 75 [.slice A234 y228.f_l.length c236] :: Row K38 (.slice A234 y228.f_l.length c236) y228.f_l :: Bx b70 31 [.int .i64 ((rd l_ v41).Do), .int .i64 ((rd l_ v41).Origin), .int .i64 ((rd l_ v41).Life), .int .i64 ((rd l_ v41).f_N), .slice ((ads7 (Int.toNat v41)).1) (((rd l_ v41).Used).length) ((ads7 (Int.toNat v41)).2)] :: Γ))) wd458 := H457
                          refine sp_op [(170, .bool (!y261)), (173, .pointer (some ⟨b19, 0, none⟩))] (ac (hE455 8 (by decide)) (ac (hE455 11 (by decide)) an)) ?_
                          refine r_callf Try.call24 (scutageref09_Losses_Left_ok b19 (⟨y238.V⟩ : scutageref09_Losses) A244 y238.V.length c246 rfl ((((H457)).tl.g1).cap) (fun _ H => ((H).tl.g1.rd)) (fun _ H => ((H).tl.g0)) y368 H457 hy369) ?_ (wn_t rfl rfl (by decide) rfl hb267)
                          rintro e463 wd462 ⟨rfl, H465⟩
                          refine ⟨_, rfl, ?_⟩
                          exact r_nil (n_lp ⟨_, rfl, undef, rfl, H465⟩)
                        · intro η251 wd469 Δ470 hE466 hR467 H468
                          have H468 : Hp w0 ((Δ470 ++ (Bx b19 28 [.slice A244 y238.V.length c246] :: Row K38 (.slice A244 y238.V.length c246) y238.V :: Bx b15 75 [.slice A234 y228.f_l.length c236] :: Row K38 (.slice A234 y228.f_l.length c236) y228.f_l :: Bx b70 31 [.int .i64 ((rd l_ v41).Do), .int .i64 ((rd l_ v41).Origin), .int .i64 ((rd l_ v41).Life), .int .i64 ((rd l_ v41).f_N), .slice ((ads7 (Int.toNat v41)).1) (((rd l_ v41).Used).length) ((ads7 (Int.toNat v41)).2)] :: Γ))) wd469 := H468
                          refine sp_op [(170, .bool (!y261)), (172, .int .i64 y362), (174, .int .i64 y368)] (ac (hE466 8 (by decide)) (ac (hE466 10 (by decide)) (ac (hE466 12 (by decide)) an))) ?_
                          refine r_pure (.bool (y362 != y368)) rfl ?_ (wn_t rfl rfl (by decide) rfl hb267)
                          exact r_nil (n_lp ⟨_, rfl, undef, rfl, H468⟩)
                        · intro η251 wd474 Δ475 hE471 hR472 H473
                          have H473 : Hp w0 ((Δ475 ++ (Bx b19 28 [.slice A244 y238.V.length c246] :: Row K38 (.slice A244 y238.V.length c246) y238.V :: Bx b15 75 [.slice A234 y228.f_l.length c236] :: Row K38 (.slice A234 y228.f_l.length c236) y228.f_l :: Bx b70 31 [.int .i64 ((rd l_ v41).Do), .int .i64 ((rd l_ v41).Origin), .int .i64 ((rd l_ v41).Life), .int .i64 ((rd l_ v41).f_N), .slice ((ads7 (Int.toNat v41)).1) (((rd l_ v41).Used).length) ((ads7 (Int.toNat v41)).2)] :: Γ))) wd474 := H473
                          refine sp_op [(170, .bool (!y261)), (175, .bool (y362 != y368))] (ac (hE471 8 (by decide)) (ac (hE471 13 (by decide)) an)) ?_
                          refine r_pick_f (.bool (y362 != y368)) hb267 rfl rfl ?_
                          exact r_nil (n_lp ⟨_, rfl, undef, rfl, H473⟩)
                        · intro η251 wd477 hV478 H476
                          have H479 : Hp w0 (Row K38 (.slice (vA ((η251 1).1)) y252.length (vC ((η251 1).1))) y252 :: Bx b19 28 [.slice A244 y238.V.length c246] :: Row K38 (.slice A244 y238.V.length c246) y238.V :: Bx b15 75 [.slice A234 y228.f_l.length c236] :: Row K38 (.slice A234 y228.f_l.length c236) y228.f_l :: Bx b70 31 [.int .i64 ((rd l_ v41).Do), .int .i64 ((rd l_ v41).Origin), .int .i64 ((rd l_ v41).Life), .int .i64 ((rd l_ v41).f_N), .slice ((ads7 (Int.toNat v41)).1) (((rd l_ v41).Used).length) ((ads7 (Int.toNat v41)).2)] :: Γ) wd477 := H476
                          refine n_frame [(0, .slice A1 l_.length c2), (3, .pointer (some ⟨b15, 0, none⟩)), (4, .pointer (some ⟨b19, 0, none⟩)), (5, .int .i64 v41), (171, .pointer (some ⟨b15, 0, none⟩)), (172, .int .i64 y362), (173, .pointer (some ⟨b19, 0, none⟩)), (174, .int .i64 y368), (175, .bool (y362 != y368)), (176, .bool (y362 != y368))] (ac rfl (ac rfl (ac rfl (ac rfl (ac (hV478 9 rfl) (ac (hV478 10 rfl) (ac (hV478 11 rfl) (ac (hV478 12 rfl) (ac (hV478 13 rfl) (ac (hV478 14 rfl) an)))))))))) ?_
                          refine n_cut ⟨y362 != y368, upk (ac rfl (ac rfl (ac rfl (ac rfl (ac rfl an))))), H479.d.u4.d.u1.u2.u3, hm⟩
                    · rintro ρ w ⟨q248, ⟨base, rfl⟩, H249, hm⟩
                      unfold scutagelaw13_VintagePlays.j6 at hm
                      rcases ite_some hm with ⟨hb250, hm⟩ | ⟨hb250, hm⟩
                      · refine st_condt hb250 rfl ?_
                        refine st_seq ?_
                        refine st_region ?_
                        refine r_pure (.bool false) rfl ?_
                        refine r_seq ?_
                        have hq_ := Option.some.inj hm
                        subst hq_
                        have hq_ := Option.some.inj (show some (false : Bool) = some r0_ from hm43)
                        subst hq_
                        refine st_ret1 rfl rfl (Nat.le_of_ble_eq_true rfl) rfl ?_
                        exact ⟨rfl, H249.d.d.d.d⟩
                      · refine st_condf hb250 rfl ?_
                        refine st_skip ?_
                        refine n_bl ?_
                        refine n_cut ⟨A234, y228.f_l.length, c236, A244, y238.V.length, c246, y228.f_l, y238.V, upk (ac rfl (ac rfl (ac rfl (ac rfl an)))), H249.u3.u3.u3.u3, hm⟩
                · refine st_condf hb226 rfl ?_
                  refine st_seq ?_
                  refine st_region ?_
                  refine r_pure (.bool (y218 == 4)) rfl ?_
                  refine r_pure (.bool (y218 == 4)) rfl ?_
                  refine r_seq ?_
                  rcases ite_some hm with ⟨hb480, hm⟩ | ⟨hb480, hm⟩
                  · refine st_condt hb480 rfl ?_
                    refine st_seq ?_
                    obtain ⟨y482, hy483, hm⟩ := bind_some hm
                    obtain ⟨⟨y488, y489⟩, hy490, hm⟩ := bind_some hm
                    obtain ⟨y498, hy499, hm⟩ := bind_some hm
                    obtain ⟨⟨y504, y505⟩, hy506, hm⟩ := bind_some hm
                    refine Flow.run' [[], [], [1], [1, 2], [0, 1, 2, 3], [], [], [6], [0, 1, 2, 3, 4, 6, 7], [0, 1, 2, 3, 4, 5, 6, 7, 8], [0, 1, 2, 3, 4, 5, 6, 7, 8, 9]] [(151, 0), (152, 1), (153, 2), (154, 3), (155, 4), (156, 5), (157, 6), (158, 7), (159, 8), (160, 9), (161, 10)] [(fun η481 v => v.1 = .pointer (some ⟨b15, 0, none⟩)), (fun η481 v => v.1 = .pointer (some ⟨b70, 2, none⟩)), (fun η481 v => v.1 = .int .i64 ((rd l_ v41).Life)), (fun η481 v => v.1 = .int .i64 y482), (fun η481 v => v.1 = .int .i64 y488), (fun η481 v => v.1 = .pointer (some ⟨b19, 0, none⟩)), (fun η481 v => v.1 = .pointer (some ⟨b70, 2, none⟩)), (fun η481 v => v.1 = .int .i64 ((rd l_ v41).Life)), (fun η481 v => v.1 = .int .i64 y498), (fun η481 v => v.1 = .int .i64 y504), (fun η481 v => v.1 = .bool (y488 != y504))] [⟨none, (some 4), fun η481 => Row K38 (.slice A32 xs35.length c34) xs35⟩, ⟨none, (some 4), fun η481 => Bx b15 75 [.slice A32 xs35.length c34]⟩, ⟨none, (some 9), fun η481 => Row K38 (.slice A37 xs40.length c39) xs40⟩, ⟨none, (some 9), fun η481 => Bx b19 28 [.slice A37 xs40.length c39]⟩, ⟨(some 4), none, fun η481 => Bx b15 75 [.slice (vA (vT 1 ((η481 4).2))) y489.f_l.length (vC (vT 1 ((η481 4).2)))]⟩, ⟨(some 4), none, fun η481 => Row K38 (.slice (vA (vT 1 ((η481 4).2))) y489.f_l.length (vC (vT 1 ((η481 4).2)))) y489.f_l⟩, ⟨(some 9), none, fun η481 => Bx b19 28 [.slice (vA (vT 1 ((η481 9).2))) y505.V.length (vC (vT 1 ((η481 9).2)))]⟩, ⟨(some 9), none, fun η481 => Row K38 (.slice (vA (vT 1 ((η481 9).2))) y505.V.length (vC (vT 1 ((η481 9).2)))) y505.V⟩] rfl (by kernel_rfl) (by kernel_rfl) H225.u3.u3.u3.u3 ⟨?_, ?_, ?_, ?_, ?_, ?_, ?_, ?_, ?_, ?_, ?_, trivial⟩ ?_
                    · intro η481 wd517 Δ518 hE514 hR515 H516
                      have H516 : Hp w0 ((Δ518 ++ (Bx b70 31 [.int .i64 ((rd l_ v41).Do), .int .i64 ((rd l_ v41).Origin), .int .i64 ((rd l_ v41).Life), .int .i64 ((rd l_ v41).f_N), .slice ((ads7 (Int.toNat v41)).1) (((rd l_ v41).Used).length) ((ads7 (Int.toNat v41)).2)] :: Γ))) wd517 := H516
                      refine sp_op [(3, .pointer (some ⟨b15, 0, none⟩))] (ac rfl an) ?_
                      refine r_pure (.pointer (some ⟨b15, 0, none⟩)) rfl ?_
                      exact r_nil (n_lp ⟨_, rfl, undef, rfl, H516⟩)
                    · intro η481 wd522 Δ523 hE519 hR520 H521
                      have H521 : Hp w0 ((Δ523 ++ (Bx b70 31 [.int .i64 ((rd l_ v41).Do), .int .i64 ((rd l_ v41).Origin), .int .i64 ((rd l_ v41).Life), .int .i64 ((rd l_ v41).f_N), .slice ((ads7 (Int.toNat v41)).1) (((rd l_ v41).Used).length) ((ads7 (Int.toNat v41)).2)] :: Γ))) wd522 := H521
                      refine sp_op [(6, .pointer (some ⟨b70, 0, none⟩))] (ac rfl an) ?_
                      refine r_fa FA31_2 ⟨b70, 2, none⟩ rfl rfl ?_
                      exact r_nil (n_lp ⟨_, rfl, undef, rfl, H521⟩)
                    · intro η481 wd527 Δ528 hE524 hR525 H526
                      have H526 : Hp w0 ((Δ528 ++ (Bx b70 31 [.int .i64 ((rd l_ v41).Do), .int .i64 ((rd l_ v41).Origin), .int .i64 ((rd l_ v41).Life), .int .i64 ((rd l_ v41).f_N), .slice ((ads7 (Int.toNat v41)).1) (((rd l_ v41).Used).length) ((ads7 (Int.toNat v41)).2)] :: Γ))) wd527 := H526
                      refine sp_op [(152, .pointer (some ⟨b70, 2, none⟩))] (ac (hE524 1 (by decide)) an) ?_
                      refine r_ld1 (.int .i64 ((rd l_ v41).Life)) LD3 rfl (((H526).tl.g0).cell _ rfl) ?_
                      exact r_nil (n_lp ⟨_, rfl, undef, rfl, H526⟩)
                    · intro η481 wd532 Δ533 hE529 hR530 H531
                      have H531 : Hp w0 ((Δ533 ++ (Bx b70 31 [.int .i64 ((rd l_ v41).Do), .int .i64 ((rd l_ v41).Origin), .int .i64 ((rd l_ v41).Life), .int .i64 ((rd l_ v41).f_N), .slice ((ads7 (Int.toNat v41)).1) (((rd l_ v41).Used).length) ((ads7 (Int.toNat v41)).2)] :: Γ))) wd532 := H531
                      refine sp_op [(153, .int .i64 ((rd l_ v41).Life))] (ac (hE529 2 (by decide)) an) ?_
                      refine r_callf Try.call9 (scutagekeep_Within_ok ((rd l_ v41).Life) 12 y482 H531 hy483) ?_
                      rintro e537 wd536 ⟨rfl, H539⟩
                      refine ⟨_, rfl, ?_⟩
                      exact r_nil (n_lp ⟨_, rfl, undef, rfl, H539⟩)
                    · intro η481 wd543 Δ544 hE540 hR541 H542
                      have H542 : Hp w0 (Row K38 (.slice A32 xs35.length c34) xs35 :: Bx b15 75 [.slice A32 xs35.length c34] :: (Δ544 ++ (Bx b70 31 [.int .i64 ((rd l_ v41).Do), .int .i64 ((rd l_ v41).Origin), .int .i64 ((rd l_ v41).Life), .int .i64 ((rd l_ v41).f_N), .slice ((ads7 (Int.toNat v41)).1) (((rd l_ v41).Used).length) ((ads7 (Int.toNat v41)).2)] :: Γ))) wd543 := H542
                      refine sp_op [(151, .pointer (some ⟨b15, 0, none⟩)), (154, .int .i64 y482)] (ac (hE540 0 (by decide)) (ac (hE540 3 (by decide)) an)) ?_
                      refine r_callf Try.call13 (vintage_Losses_Expire_ok b15 (⟨xs35⟩ : vintage_Losses) A32 c34 y482 y488 y489 H542.u1 hy490) ?_
                      rintro e549 wd548 ⟨A552, n553, c554, rfl, H551⟩
                      obtain rfl := (H551.g1).leneq
                      refine ⟨_, rfl, ?_⟩
                      exact r_nil (n_lp ⟨_, rfl, (.tuple #[.pointer (some ⟨b15, 0, none⟩), .slice A552 y489.f_l.length c554, .slice A552 y489.f_l.length c554]), rfl, H551.u1.u1⟩)
                    · intro η481 wd558 Δ559 hE555 hR556 H557
                      have H557 : Hp w0 ((Δ559 ++ (Bx b70 31 [.int .i64 ((rd l_ v41).Do), .int .i64 ((rd l_ v41).Origin), .int .i64 ((rd l_ v41).Life), .int .i64 ((rd l_ v41).f_N), .slice ((ads7 (Int.toNat v41)).1) (((rd l_ v41).Used).length) ((ads7 (Int.toNat v41)).2)] :: Γ))) wd558 := H557
                      refine sp_op [(4, .pointer (some ⟨b19, 0, none⟩))] (ac rfl an) ?_
                      refine r_pure (.pointer (some ⟨b19, 0, none⟩)) rfl ?_
                      exact r_nil (n_lp ⟨_, rfl, undef, rfl, H557⟩)
                    · intro η481 wd563 Δ564 hE560 hR561 H562
                      have H562 : Hp w0 ((Δ564 ++ (Bx b70 31 [.int .i64 ((rd l_ v41).Do), .int .i64 ((rd l_ v41).Origin), .int .i64 ((rd l_ v41).Life), .int .i64 ((rd l_ v41).f_N), .slice ((ads7 (Int.toNat v41)).1) (((rd l_ v41).Used).length) ((ads7 (Int.toNat v41)).2)] :: Γ))) wd563 := H562
                      refine sp_op [(6, .pointer (some ⟨b70, 0, none⟩))] (ac rfl an) ?_
                      refine r_fa FA31_2 ⟨b70, 2, none⟩ rfl rfl ?_
                      exact r_nil (n_lp ⟨_, rfl, undef, rfl, H562⟩)
                    · intro η481 wd568 Δ569 hE565 hR566 H567
                      have H567 : Hp w0 ((Δ569 ++ (Bx b70 31 [.int .i64 ((rd l_ v41).Do), .int .i64 ((rd l_ v41).Origin), .int .i64 ((rd l_ v41).Life), .int .i64 ((rd l_ v41).f_N), .slice ((ads7 (Int.toNat v41)).1) (((rd l_ v41).Used).length) ((ads7 (Int.toNat v41)).2)] :: Γ))) wd568 := H567
                      refine sp_op [(157, .pointer (some ⟨b70, 2, none⟩))] (ac (hE565 6 (by decide)) an) ?_
                      refine r_ld1 (.int .i64 ((rd l_ v41).Life)) LD3 rfl (((H567).tl.g0).cell _ rfl) ?_
                      exact r_nil (n_lp ⟨_, rfl, undef, rfl, H567⟩)
                    · intro η481 wd573 Δ574 hE570 hR571 H572
                      have H572 : Hp w0 ((Δ574 ++ (Bx b70 31 [.int .i64 ((rd l_ v41).Do), .int .i64 ((rd l_ v41).Origin), .int .i64 ((rd l_ v41).Life), .int .i64 ((rd l_ v41).f_N), .slice ((ads7 (Int.toNat v41)).1) (((rd l_ v41).Used).length) ((ads7 (Int.toNat v41)).2)] :: Γ))) wd573 := H572
                      refine sp_op [(158, .int .i64 ((rd l_ v41).Life))] (ac (hE570 7 (by decide)) an) ?_
                      refine r_callf Try.call9 (scutagekeep_Within_ok ((rd l_ v41).Life) 12 y498 H572 hy499) ?_
                      rintro e578 wd577 ⟨rfl, H580⟩
                      refine ⟨_, rfl, ?_⟩
                      exact r_nil (n_lp ⟨_, rfl, undef, rfl, H580⟩)
                    · intro η481 wd584 Δ585 hE581 hR582 H583
                      have H583 : Hp w0 (Row K38 (.slice A37 xs40.length c39) xs40 :: Bx b19 28 [.slice A37 xs40.length c39] :: (Δ585 ++ (Bx b70 31 [.int .i64 ((rd l_ v41).Do), .int .i64 ((rd l_ v41).Origin), .int .i64 ((rd l_ v41).Life), .int .i64 ((rd l_ v41).f_N), .slice ((ads7 (Int.toNat v41)).1) (((rd l_ v41).Used).length) ((ads7 (Int.toNat v41)).2)] :: Γ))) wd584 := H583
                      refine sp_op [(156, .pointer (some ⟨b19, 0, none⟩)), (159, .int .i64 y498)] (ac (hE581 5 (by decide)) (ac (hE581 8 (by decide)) an)) ?_
                      refine r_callf Try.call15 (scutageref09_Losses_Expire_ok b19 (⟨xs40⟩ : scutageref09_Losses) A37 c39 y498 y504 y505 H583.u1 hy506) ?_
                      rintro e590 wd589 ⟨A593, n594, c595, rfl, H592⟩
                      obtain rfl := (H592.g1).leneq
                      refine ⟨_, rfl, ?_⟩
                      exact r_nil (n_lp ⟨_, rfl, (.tuple #[.pointer (some ⟨b19, 0, none⟩), .slice A593 y505.V.length c595, .slice A593 y505.V.length c595]), rfl, H592.u1.u1⟩)
                    · intro η481 wd599 Δ600 hE596 hR597 H598
                      have H598 : Hp w0 ((Δ600 ++ (Bx b70 31 [.int .i64 ((rd l_ v41).Do), .int .i64 ((rd l_ v41).Origin), .int .i64 ((rd l_ v41).Life), .int .i64 ((rd l_ v41).f_N), .slice ((ads7 (Int.toNat v41)).1) (((rd l_ v41).Used).length) ((ads7 (Int.toNat v41)).2)] :: Γ))) wd599 := H598
                      refine sp_op [(155, .int .i64 y488), (160, .int .i64 y504)] (ac (hE596 4 (by decide)) (ac (hE596 9 (by decide)) an)) ?_
                      refine r_pure (.bool (y488 != y504)) rfl ?_
                      exact r_nil (n_lp ⟨_, rfl, undef, rfl, H598⟩)
                    · intro η481 wd602 hV603 H601
                      have H604 : Hp w0 (Bx b15 75 [.slice (vA (vT 1 ((η481 4).2))) y489.f_l.length (vC (vT 1 ((η481 4).2)))] :: Row K38 (.slice (vA (vT 1 ((η481 4).2))) y489.f_l.length (vC (vT 1 ((η481 4).2)))) y489.f_l :: Bx b19 28 [.slice (vA (vT 1 ((η481 9).2))) y505.V.length (vC (vT 1 ((η481 9).2)))] :: Row K38 (.slice (vA (vT 1 ((η481 9).2))) y505.V.length (vC (vT 1 ((η481 9).2)))) y505.V :: Bx b70 31 [.int .i64 ((rd l_ v41).Do), .int .i64 ((rd l_ v41).Origin), .int .i64 ((rd l_ v41).Life), .int .i64 ((rd l_ v41).f_N), .slice ((ads7 (Int.toNat v41)).1) (((rd l_ v41).Used).length) ((ads7 (Int.toNat v41)).2)] :: Γ) wd602 := H601
                      refine n_frame [(0, .slice A1 l_.length c2), (3, .pointer (some ⟨b15, 0, none⟩)), (4, .pointer (some ⟨b19, 0, none⟩)), (5, .int .i64 v41), (161, .bool (y488 != y504))] (ac rfl (ac rfl (ac rfl (ac rfl (ac (hV603 10 rfl) an))))) ?_
                      refine n_sq ?_
                      rcases ite_some hm with ⟨hb605, hm⟩ | ⟨hb605, hm⟩
                      · refine st_condt hb605 rfl ?_
                        refine st_seq ?_
                        refine st_region ?_
                        refine r_pure (.bool false) rfl ?_
                        refine r_seq ?_
                        have hq_ := Option.some.inj hm
                        subst hq_
                        have hq_ := Option.some.inj (show some (false : Bool) = some r0_ from hm43)
                        subst hq_
                        refine st_ret1 rfl rfl (Nat.le_of_ble_eq_true rfl) rfl ?_
                        exact ⟨rfl, H604.d.d.d.d.d⟩
                      · refine st_condf hb605 rfl ?_
                        refine st_skip ?_
                        refine n_bl ?_
                        refine n_sq ?_
                        refine st_cut (fun ρ w => ∃ q606 : Bool, (∃ base, ρ = updl base [(0, .slice A1 l_.length c2), (3, .pointer (some ⟨b15, 0, none⟩)), (4, .pointer (some ⟨b19, 0, none⟩)), (5, .int .i64 v41), (176, .bool q606)]) ∧ Hp w0 (Row K38 (.slice (vA (vT 1 ((η481 4).2))) y489.f_l.length (vC (vT 1 ((η481 4).2)))) y489.f_l :: Bx b15 75 [.slice (vA (vT 1 ((η481 4).2))) y489.f_l.length (vC (vT 1 ((η481 4).2)))] :: Row K38 (.slice (vA (vT 1 ((η481 9).2))) y505.V.length (vC (vT 1 ((η481 9).2)))) y505.V :: Bx b19 28 [.slice (vA (vT 1 ((η481 9).2))) y505.V.length (vC (vT 1 ((η481 9).2)))] :: Γ) w ∧ scutagelaw13_VintagePlays.j7 (scutagelaw13_VintagePlays.l1 l_ fuel51) v41 y489 y505 q606 = some tl44) ?_ ?_
                        · obtain ⟨y610, hy611, hm⟩ := bind_some hm
                          obtain ⟨y619, hy620, hm⟩ := bind_some hm
                          rcases ite_some hm with ⟨hb625, hm⟩ | ⟨hb625, hm⟩
                          · refine Flow.run' [[], [0], [], [2], [2, 3], [2, 3, 4], [0, 1, 2, 3, 4, 5], [0, 1, 2, 3, 4, 5, 6], [0, 1, 2, 3, 4, 5, 6, 7], [0, 1, 2, 3, 4, 5, 6, 7, 8], [0, 1, 2, 3, 4, 5, 6, 7, 8, 9], [0, 1, 2, 3, 4, 5, 6, 7, 8], [0, 1, 2, 3, 4, 5, 6, 7, 8, 9, 10, 11], [0, 1, 2, 3, 4, 5, 6, 7, 8, 9, 10, 11, 12], [0, 1, 2, 3, 4, 5, 6, 7, 8, 9, 10, 11, 12, 13]] [(162, 0), (163, 1), (164, 2), (165, 3), (166, 4), (167, 5), (168, 6), (169, 7), (170, 8), (171, 9), (172, 10), (173, 11), (174, 12), (175, 13), (176, 14)] [(fun η609 v => v.1 = .pointer (some ⟨b15, 0, none⟩)), (fun η609 v => v.1 = .slice (vA (v.1)) y610.length (vC (v.1))), (fun η609 v => v.1 = .pointer (some ⟨b19, 0, none⟩)), (fun η609 v => v.1 = .pointer (some ⟨b19, 0, none⟩)), (fun η609 v => v.1 = .pointer (some ⟨b19, 0, none⟩)), (fun η609 v => v.1 = .slice (vA (vT 1 ((η481 9).2))) y505.V.length (vC (vT 1 ((η481 9).2)))), (fun η609 v => v.1 = .bool y619), (fun η609 v => v.1 = .bool (!y619)), (fun η609 v => v.1 = .bool (!y619)), (fun η609 v => v.1 = undef), (fun η609 v => v.1 = undef), (fun η609 v => v.1 = undef), (fun η609 v => v.1 = undef), (fun η609 v => v.1 = undef), (fun η609 v => v.1 = .bool true)] [⟨(some 1), none, fun η609 => Row K38 (.slice (vA ((η609 1).1)) y610.length (vC ((η609 1).1))) y610⟩] rfl (by kernel_rfl) (by kernel_rfl) H604 ⟨?_, ?_, ?_, ?_, ?_, ?_, ?_, ?_, ?_, ?_, ?_, ?_, ?_, ?_, ?_, trivial⟩ ?_
                            · intro η609 wd629 Δ630 hE626 hR627 H628
                              have H628 : Hp w0 ((Δ630 ++ (Bx b15 75 [.slice (vA (vT 1 ((η481 4).2))) y489.f_l.length (vC (vT 1 ((η481 4).2)))] :: Row K38 (.slice (vA (vT 1 ((η481 4).2))) y489.f_l.length (vC (vT 1 ((η481 4).2)))) y489.f_l :: Bx b19 28 [.slice (vA (vT 1 ((η481 9).2))) y505.V.length (vC (vT 1 ((η481 9).2)))] :: Row K38 (.slice (vA (vT 1 ((η481 9).2))) y505.V.length (vC (vT 1 ((η481 9).2)))) y505.V :: Bx b70 31 [.int .i64 ((rd l_ v41).Do), .int .i64 ((rd l_ v41).Origin), .int .i64 ((rd l_ v41).Life), .int .i64 ((rd l_ v41).f_N), .slice ((ads7 (Int.toNat v41)).1) (((rd l_ v41).Used).length) ((ads7 (Int.toNat v41)).2)] :: Γ))) wd629 := H628
                              refine sp_op [(3, .pointer (some ⟨b15, 0, none⟩))] (ac rfl an) ?_
                              refine r_pure (.pointer (some ⟨b15, 0, none⟩)) rfl ?_
                              exact r_nil (n_lp ⟨_, rfl, undef, rfl, H628⟩)
                            · intro η609 wd634 Δ635 hE631 hR632 H633
                              have H633 : Hp w0 ((Δ635 ++ (Bx b15 75 [.slice (vA (vT 1 ((η481 4).2))) y489.f_l.length (vC (vT 1 ((η481 4).2)))] :: Row K38 (.slice (vA (vT 1 ((η481 4).2))) y489.f_l.length (vC (vT 1 ((η481 4).2)))) y489.f_l :: Bx b19 28 [.slice (vA (vT 1 ((η481 9).2))) y505.V.length (vC (vT 1 ((η481 9).2)))] :: Row K38 (.slice (vA (vT 1 ((η481 9).2))) y505.V.length (vC (vT 1 ((η481 9).2)))) y505.V :: Bx b70 31 [.int .i64 ((rd l_ v41).Do), .int .i64 ((rd l_ v41).Origin), .int .i64 ((rd l_ v41).Life), .int .i64 ((rd l_ v41).f_N), .slice ((ads7 (Int.toNat v41)).1) (((rd l_ v41).Used).length) ((ads7 (Int.toNat v41)).2)] :: Γ))) wd634 := H633
                              refine sp_op [(162, .pointer (some ⟨b15, 0, none⟩))] (ac (hE631 0 (by decide)) an) ?_
                              refine r_callf Try.call22 (vintage_Losses_Rows_ok b15 (⟨y489.f_l⟩ : vintage_Losses) (vA (vT 1 ((η481 4).2))) y489.f_l.length (vC (vT 1 ((η481 4).2))) rfl ((((H633)).tl.g1).cap) (fun _ H => ((H).tl.g1.rd)) (fun _ H => ((H).tl.g0)) y610 H633 hy611) ?_
                              rintro e639 wd638 ⟨A642, n643, c644, rfl, H641⟩
                              obtain rfl := (H641.g0).leneq
                              refine ⟨_, rfl, ?_⟩
                              exact r_nil (n_lp ⟨_, rfl, (.tuple #[.slice A642 y610.length c644]), rfl, H641⟩)
                            · intro η609 wd648 Δ649 hE645 hR646 H647
                              have H647 : Hp w0 ((Δ649 ++ (Bx b15 75 [.slice (vA (vT 1 ((η481 4).2))) y489.f_l.length (vC (vT 1 ((η481 4).2)))] :: Row K38 (.slice (vA (vT 1 ((η481 4).2))) y489.f_l.length (vC (vT 1 ((η481 4).2)))) y489.f_l :: Bx b19 28 [.slice (vA (vT 1 ((η481 9).2))) y505.V.length (vC (vT 1 ((η481 9).2)))] :: Row K38 (.slice (vA (vT 1 ((η481 9).2))) y505.V.length (vC (vT 1 ((η481 9).2)))) y505.V :: Bx b70 31 [.int .i64 ((rd l_ v41).Do), .int .i64 ((rd l_ v41).Origin), .int .i64 ((rd l_ v41).Life), .int .i64 ((rd l_ v41).f_N), .slice ((ads7 (Int.toNat v41)).1) (((rd l_ v41).Used).length) ((ads7 (Int.toNat v41)).2)] :: Γ))) wd648 := H647
                              refine sp_op [(4, .pointer (some ⟨b19, 0, none⟩))] (ac rfl an) ?_
                              refine r_pure (.pointer (some ⟨b19, 0, none⟩)) rfl ?_
                              exact r_nil (n_lp ⟨_, rfl, undef, rfl, H647⟩)
                            · intro η609 wd653 Δ654 hE650 hR651 H652
                              have H652 : Hp w0 ((Δ654 ++ (Bx b15 75 [.slice (vA (vT 1 ((η481 4).2))) y489.f_l.length (vC (vT 1 ((η481 4).2)))] :: Row K38 (.slice (vA (vT 1 ((η481 4).2))) y489.f_l.length (vC (vT 1 ((η481 4).2)))) y489.f_l :: Bx b19 28 [.slice (vA (vT 1 ((η481 9).2))) y505.V.length (vC (vT 1 ((η481 9).2)))] :: Row K38 (.slice (vA (vT 1 ((η481 9).2))) y505.V.length (vC (vT 1 ((η481 9).2)))) y505.V :: Bx b70 31 [.int .i64 ((rd l_ v41).Do), .int .i64 ((rd l_ v41).Origin), .int .i64 ((rd l_ v41).Life), .int .i64 ((rd l_ v41).f_N), .slice ((ads7 (Int.toNat v41)).1) (((rd l_ v41).Used).length) ((ads7 (Int.toNat v41)).2)] :: Γ))) wd653 := H652
                              refine sp_op [(164, .pointer (some ⟨b19, 0, none⟩))] (ac (hE650 2 (by decide)) an) ?_
                              refine r_pure (.pointer (some ⟨b19, 0, none⟩)) rfl ?_
                              exact r_nil (n_lp ⟨_, rfl, undef, rfl, H652⟩)
                            · intro η609 wd658 Δ659 hE655 hR656 H657
                              have H657 : Hp w0 ((Δ659 ++ (Bx b15 75 [.slice (vA (vT 1 ((η481 4).2))) y489.f_l.length (vC (vT 1 ((η481 4).2)))] :: Row K38 (.slice (vA (vT 1 ((η481 4).2))) y489.f_l.length (vC (vT 1 ((η481 4).2)))) y489.f_l :: Bx b19 28 [.slice (vA (vT 1 ((η481 9).2))) y505.V.length (vC (vT 1 ((η481 9).2)))] :: Row K38 (.slice (vA (vT 1 ((η481 9).2))) y505.V.length (vC (vT 1 ((η481 9).2)))) y505.V :: Bx b70 31 [.int .i64 ((rd l_ v41).Do), .int .i64 ((rd l_ v41).Origin), .int .i64 ((rd l_ v41).Life), .int .i64 ((rd l_ v41).f_N), .slice ((ads7 (Int.toNat v41)).1) (((rd l_ v41).Used).length) ((ads7 (Int.toNat v41)).2)] :: Γ))) wd658 := H657
                              refine sp_op [(165, .pointer (some ⟨b19, 0, none⟩))] (ac (hE655 3 (by decide)) an) ?_
                              refine r_fa FA28_0 ⟨b19, 0, none⟩ rfl rfl ?_
                              exact r_nil (n_lp ⟨_, rfl, undef, rfl, H657⟩)
                            · intro η609 wd663 Δ664 hE660 hR661 H662
                              have H662 : Hp w0 ((Δ664 ++ (Bx b15 75 [.slice (vA (vT 1 ((η481 4).2))) y489.f_l.length (vC (vT 1 ((η481 4).2)))] :: Row K38 (.slice (vA (vT 1 ((η481 4).2))) y489.f_l.length (vC (vT 1 ((η481 4).2)))) y489.f_l :: Bx b19 28 [.slice (vA (vT 1 ((η481 9).2))) y505.V.length (vC (vT 1 ((η481 9).2)))] :: Row K38 (.slice (vA (vT 1 ((η481 9).2))) y505.V.length (vC (vT 1 ((η481 9).2)))) y505.V :: Bx b70 31 [.int .i64 ((rd l_ v41).Do), .int .i64 ((rd l_ v41).Origin), .int .i64 ((rd l_ v41).Life), .int .i64 ((rd l_ v41).f_N), .slice ((ads7 (Int.toNat v41)).1) (((rd l_ v41).Used).length) ((ads7 (Int.toNat v41)).2)] :: Γ))) wd663 := H662
                              refine sp_op [(166, .pointer (some ⟨b19, 0, none⟩))] (ac (hE660 4 (by decide)) an) ?_
                              refine r_ld1 (.slice (vA (vT 1 ((η481 9).2))) y505.V.length (vC (vT 1 ((η481 9).2)))) LD26 rfl (((H662).tl.g2).cell _ rfl) ?_
                              exact r_nil (n_lp ⟨_, rfl, undef, rfl, H662⟩)
                            · intro η609 wd668 Δ669 hE665 hR666 H667
                              have H667 : Hp w0 ((Δ669 ++ (Bx b15 75 [.slice (vA (vT 1 ((η481 4).2))) y489.f_l.length (vC (vT 1 ((η481 4).2)))] :: Row K38 (.slice (vA (vT 1 ((η481 4).2))) y489.f_l.length (vC (vT 1 ((η481 4).2)))) y489.f_l :: Bx b19 28 [.slice (vA (vT 1 ((η481 9).2))) y505.V.length (vC (vT 1 ((η481 9).2)))] :: Row K38 (.slice (vA (vT 1 ((η481 9).2))) y505.V.length (vC (vT 1 ((η481 9).2)))) y505.V :: Bx b70 31 [.int .i64 ((rd l_ v41).Do), .int .i64 ((rd l_ v41).Origin), .int .i64 ((rd l_ v41).Life), .int .i64 ((rd l_ v41).f_N), .slice ((ads7 (Int.toNat v41)).1) (((rd l_ v41).Used).length) ((ads7 (Int.toNat v41)).2)] :: Γ))) wd668 := H667
                              refine sp_op [(163, .slice (vA ((η609 1).1)) y610.length (vC ((η609 1).1))), (167, .slice (vA (vT 1 ((η481 9).2))) y505.V.length (vC (vT 1 ((η481 9).2))))] (ac (hE665 1 (by decide)) (ac (hE665 5 (by decide)) an)) ?_
                              refine r_callf Try.call21 (scutagekeep_Same_api_Vintage_ok y610 (vA ((η609 1).1)) y610.length (vC ((η609 1).1)) rfl (((show (Row K38 (.slice (vA ((η609 1).1)) y610.length (vC ((η609 1).1))) y610) _ from ((H667)).memr (hR666 _ (List.mem_of_getElem? (i := 0) rfl) rfl))).cap) (fun _ H => ((show (Row K38 (.slice (vA ((η609 1).1)) y610.length (vC ((η609 1).1))) y610) _ from (H).memr (hR666 _ (List.mem_of_getElem? (i := 0) rfl) rfl)).rd)) y505.V (vA (vT 1 ((η481 9).2))) y505.V.length (vC (vT 1 ((η481 9).2))) rfl ((((H667)).tl.g3).cap) (fun _ H => ((H).tl.g3.rd)) y619 H667 hy620) ?_
                              rintro e673 wd672 ⟨rfl, H675⟩
                              refine ⟨_, rfl, ?_⟩
                              exact r_nil (n_lp ⟨_, rfl, undef, rfl, H675⟩)
                            · intro η609 wd679 Δ680 hE676 hR677 H678
                              have H678 : Hp w0 ((Δ680 ++ (Bx b15 75 [.slice (vA (vT 1 ((η481 4).2))) y489.f_l.length (vC (vT 1 ((η481 4).2)))] :: Row K38 (.slice (vA (vT 1 ((η481 4).2))) y489.f_l.length (vC (vT 1 ((η481 4).2)))) y489.f_l :: Bx b19 28 [.slice (vA (vT 1 ((η481 9).2))) y505.V.length (vC (vT 1 ((η481 9).2)))] :: Row K38 (.slice (vA (vT 1 ((η481 9).2))) y505.V.length (vC (vT 1 ((η481 9).2)))) y505.V :: Bx b70 31 [.int .i64 ((rd l_ v41).Do), .int .i64 ((rd l_ v41).Origin), .int .i64 ((rd l_ v41).Life), .int .i64 ((rd l_ v41).f_N), .slice ((ads7 (Int.toNat v41)).1) (((rd l_ v41).Used).length) ((ads7 (Int.toNat v41)).2)] :: Γ))) wd679 := H678
                              refine sp_op [(168, .bool y619)] (ac (hE676 6 (by decide)) an) ?_
                              refine r_pure (.bool (!y619)) rfl ?_
                              exact r_nil (n_lp ⟨_, rfl, undef, rfl, H678⟩)
                            · intro η609 wd684 Δ685 hE681 hR682 H683
                              have H683 : Hp w0 ((Δ685 ++ (Bx b15 75 [.slice (vA (vT 1 ((η481 4).2))) y489.f_l.length (vC (vT 1 ((η481 4).2)))] :: Row K38 (.slice (vA (vT 1 ((η481 4).2))) y489.f_l.length (vC (vT 1 ((η481 4).2)))) y489.f_l :: Bx b19 28 [.slice (vA (vT 1 ((η481 9).2))) y505.V.length (vC (vT 1 ((η481 9).2)))] :: Row K38 (.slice (vA (vT 1 ((η481 9).2))) y505.V.length (vC (vT 1 ((η481 9).2)))) y505.V :: Bx b70 31 [.int .i64 ((rd l_ v41).Do), .int .i64 ((rd l_ v41).Origin), .int .i64 ((rd l_ v41).Life), .int .i64 ((rd l_ v41).f_N), .slice ((ads7 (Int.toNat v41)).1) (((rd l_ v41).Used).length) ((ads7 (Int.toNat v41)).2)] :: Γ))) wd684 := H683
                              refine sp_op [(169, .bool (!y619))] (ac (hE681 7 (by decide)) an) ?_
                              refine r_pure (.bool (!y619)) rfl ?_
                              exact r_nil (n_lp ⟨_, rfl, undef, rfl, H683⟩)
                            · intro η609 wd689 Δ690 hE686 hR687 H688
                              have H688 : Hp w0 ((Δ690 ++ (Bx b15 75 [.slice (vA (vT 1 ((η481 4).2))) y489.f_l.length (vC (vT 1 ((η481 4).2)))] :: Row K38 (.slice (vA (vT 1 ((η481 4).2))) y489.f_l.length (vC (vT 1 ((η481 4).2)))) y489.f_l :: Bx b19 28 [.slice (vA (vT 1 ((η481 9).2))) y505.V.length (vC (vT 1 ((η481 9).2)))] :: Row K38 (.slice (vA (vT 1 ((η481 9).2))) y505.V.length (vC (vT 1 ((η481 9).2)))) y505.V :: Bx b70 31 [.int .i64 ((rd l_ v41).Do), .int .i64 ((rd l_ v41).Origin), .int .i64 ((rd l_ v41).Life), .int .i64 ((rd l_ v41).f_N), .slice ((ads7 (Int.toNat v41)).1) (((rd l_ v41).Used).length) ((ads7 (Int.toNat v41)).2)] :: Γ))) wd689 := H688
                              refine sp_op [(3, .pointer (some ⟨b15, 0, none⟩)), (170, .bool (!y619))] (ac rfl (ac (hE686 8 (by decide)) an)) ?_
                              refine r_not (wn_f rfl rfl (by decide) rfl hb625) ?_
                              exact r_nil (n_lp ⟨_, rfl, undef, rfl, H688⟩)
                            · intro η609 wd694 Δ695 hE691 hR692 H693
                              have H693 : Hp w0 ((Δ695 ++ (Bx b15 75 [.slice (vA (vT 1 ((η481 4).2))) y489.f_l.length (vC (vT 1 ((η481 4).2)))] :: Row K38 (.slice (vA (vT 1 ((η481 4).2))) y489.f_l.length (vC (vT 1 ((η481 4).2)))) y489.f_l :: Bx b19 28 [.slice (vA (vT 1 ((η481 9).2))) y505.V.length (vC (vT 1 ((η481 9).2)))] :: Row K38 (.slice (vA (vT 1 ((η481 9).2))) y505.V.length (vC (vT 1 ((η481 9).2)))) y505.V :: Bx b70 31 [.int .i64 ((rd l_ v41).Do), .int .i64 ((rd l_ v41).Origin), .int .i64 ((rd l_ v41).Life), .int .i64 ((rd l_ v41).f_N), .slice ((ads7 (Int.toNat v41)).1) (((rd l_ v41).Used).length) ((ads7 (Int.toNat v41)).2)] :: Γ))) wd694 := H693
                              refine sp_op [(170, .bool (!y619)), (171, undef)] (ac (hE691 8 (by decide)) (ac (hE691 9 (by decide)) an)) ?_
                              refine r_not (wn_f rfl rfl (by decide) rfl hb625) ?_
                              exact r_nil (n_lp ⟨_, rfl, undef, rfl, H693⟩)
                            · intro η609 wd699 Δ700 hE696 hR697 H698
                              have H698 : Hp w0 ((Δ700 ++ (Bx b15 75 [.slice (vA (vT 1 ((η481 4).2))) y489.f_l.length (vC (vT 1 ((η481 4).2)))] :: Row K38 (.slice (vA (vT 1 ((η481 4).2))) y489.f_l.length (vC (vT 1 ((η481 4).2)))) y489.f_l :: Bx b19 28 [.slice (vA (vT 1 ((η481 9).2))) y505.V.length (vC (vT 1 ((η481 9).2)))] :: Row K38 (.slice (vA (vT 1 ((η481 9).2))) y505.V.length (vC (vT 1 ((η481 9).2)))) y505.V :: Bx b70 31 [.int .i64 ((rd l_ v41).Do), .int .i64 ((rd l_ v41).Origin), .int .i64 ((rd l_ v41).Life), .int .i64 ((rd l_ v41).f_N), .slice ((ads7 (Int.toNat v41)).1) (((rd l_ v41).Used).length) ((ads7 (Int.toNat v41)).2)] :: Γ))) wd699 := H698
                              refine sp_op [(4, .pointer (some ⟨b19, 0, none⟩)), (170, .bool (!y619))] (ac rfl (ac (hE696 8 (by decide)) an)) ?_
                              refine r_not (wn_f rfl rfl (by decide) rfl hb625) ?_
                              exact r_nil (n_lp ⟨_, rfl, undef, rfl, H698⟩)
                            · intro η609 wd704 Δ705 hE701 hR702 H703
                              have H703 : Hp w0 ((Δ705 ++ (Bx b15 75 [.slice (vA (vT 1 ((η481 4).2))) y489.f_l.length (vC (vT 1 ((η481 4).2)))] :: Row K38 (.slice (vA (vT 1 ((η481 4).2))) y489.f_l.length (vC (vT 1 ((η481 4).2)))) y489.f_l :: Bx b19 28 [.slice (vA (vT 1 ((η481 9).2))) y505.V.length (vC (vT 1 ((η481 9).2)))] :: Row K38 (.slice (vA (vT 1 ((η481 9).2))) y505.V.length (vC (vT 1 ((η481 9).2)))) y505.V :: Bx b70 31 [.int .i64 ((rd l_ v41).Do), .int .i64 ((rd l_ v41).Origin), .int .i64 ((rd l_ v41).Life), .int .i64 ((rd l_ v41).f_N), .slice ((ads7 (Int.toNat v41)).1) (((rd l_ v41).Used).length) ((ads7 (Int.toNat v41)).2)] :: Γ))) wd704 := H703
                              refine sp_op [(170, .bool (!y619)), (173, undef)] (ac (hE701 8 (by decide)) (ac (hE701 11 (by decide)) an)) ?_
                              refine r_not (wn_f rfl rfl (by decide) rfl hb625) ?_
                              exact r_nil (n_lp ⟨_, rfl, undef, rfl, H703⟩)
                            · intro η609 wd709 Δ710 hE706 hR707 H708
                              have H708 : Hp w0 ((Δ710 ++ (Bx b15 75 [.slice (vA (vT 1 ((η481 4).2))) y489.f_l.length (vC (vT 1 ((η481 4).2)))] :: Row K38 (.slice (vA (vT 1 ((η481 4).2))) y489.f_l.length (vC (vT 1 ((η481 4).2)))) y489.f_l :: Bx b19 28 [.slice (vA (vT 1 ((η481 9).2))) y505.V.length (vC (vT 1 ((η481 9).2)))] :: Row K38 (.slice (vA (vT 1 ((η481 9).2))) y505.V.length (vC (vT 1 ((η481 9).2)))) y505.V :: Bx b70 31 [.int .i64 ((rd l_ v41).Do), .int .i64 ((rd l_ v41).Origin), .int .i64 ((rd l_ v41).Life), .int .i64 ((rd l_ v41).f_N), .slice ((ads7 (Int.toNat v41)).1) (((rd l_ v41).Used).length) ((ads7 (Int.toNat v41)).2)] :: Γ))) wd709 := H708
                              refine sp_op [(170, .bool (!y619)), (172, undef), (174, undef)] (ac (hE706 8 (by decide)) (ac (hE706 10 (by decide)) (ac (hE706 12 (by decide)) an))) ?_
                              refine r_not (wn_f rfl rfl (by decide) rfl hb625) ?_
                              exact r_nil (n_lp ⟨_, rfl, undef, rfl, H708⟩)
                            · intro η609 wd714 Δ715 hE711 hR712 H713
                              have H713 : Hp w0 ((Δ715 ++ (Bx b15 75 [.slice (vA (vT 1 ((η481 4).2))) y489.f_l.length (vC (vT 1 ((η481 4).2)))] :: Row K38 (.slice (vA (vT 1 ((η481 4).2))) y489.f_l.length (vC (vT 1 ((η481 4).2)))) y489.f_l :: Bx b19 28 [.slice (vA (vT 1 ((η481 9).2))) y505.V.length (vC (vT 1 ((η481 9).2)))] :: Row K38 (.slice (vA (vT 1 ((η481 9).2))) y505.V.length (vC (vT 1 ((η481 9).2)))) y505.V :: Bx b70 31 [.int .i64 ((rd l_ v41).Do), .int .i64 ((rd l_ v41).Origin), .int .i64 ((rd l_ v41).Life), .int .i64 ((rd l_ v41).f_N), .slice ((ads7 (Int.toNat v41)).1) (((rd l_ v41).Used).length) ((ads7 (Int.toNat v41)).2)] :: Γ))) wd714 := H713
                              refine sp_op [(170, .bool (!y619)), (175, undef)] (ac (hE711 8 (by decide)) (ac (hE711 13 (by decide)) an)) ?_
                              refine r_pick_t (.bool true) hb625 rfl rfl ?_
                              exact r_nil (n_lp ⟨_, rfl, undef, rfl, H713⟩)
                            · intro η609 wd717 hV718 H716
                              have H719 : Hp w0 (Row K38 (.slice (vA ((η609 1).1)) y610.length (vC ((η609 1).1))) y610 :: Bx b15 75 [.slice (vA (vT 1 ((η481 4).2))) y489.f_l.length (vC (vT 1 ((η481 4).2)))] :: Row K38 (.slice (vA (vT 1 ((η481 4).2))) y489.f_l.length (vC (vT 1 ((η481 4).2)))) y489.f_l :: Bx b19 28 [.slice (vA (vT 1 ((η481 9).2))) y505.V.length (vC (vT 1 ((η481 9).2)))] :: Row K38 (.slice (vA (vT 1 ((η481 9).2))) y505.V.length (vC (vT 1 ((η481 9).2)))) y505.V :: Bx b70 31 [.int .i64 ((rd l_ v41).Do), .int .i64 ((rd l_ v41).Origin), .int .i64 ((rd l_ v41).Life), .int .i64 ((rd l_ v41).f_N), .slice ((ads7 (Int.toNat v41)).1) (((rd l_ v41).Used).length) ((ads7 (Int.toNat v41)).2)] :: Γ) wd717 := H716
                              refine n_frame [(0, .slice A1 l_.length c2), (3, .pointer (some ⟨b15, 0, none⟩)), (4, .pointer (some ⟨b19, 0, none⟩)), (5, .int .i64 v41), (176, .bool true)] (ac rfl (ac rfl (ac rfl (ac rfl (ac (hV718 14 rfl) an))))) ?_
                              refine n_cut ⟨true, upk (ac rfl (ac rfl (ac rfl (ac rfl (ac rfl an))))), H719.d.u4.d.u2.u3.u2.u3, hm⟩
                          · obtain ⟨y720, hy721, hm⟩ := bind_some hm
                            obtain ⟨y726, hy727, hm⟩ := bind_some hm
                            refine Flow.run' [[], [0], [], [2], [2, 3], [2, 3, 4], [0, 1, 2, 3, 4, 5], [0, 1, 2, 3, 4, 5, 6], [0, 1, 2, 3, 4, 5, 6, 7], [0, 1, 2, 3, 4, 5, 6, 7, 8], [0, 1, 2, 3, 4, 5, 6, 7, 8, 9], [0, 1, 2, 3, 4, 5, 6, 7, 8], [0, 1, 2, 3, 4, 5, 6, 7, 8, 9, 10, 11], [0, 1, 2, 3, 4, 5, 6, 7, 8, 9, 10, 11, 12], [0, 1, 2, 3, 4, 5, 6, 7, 8, 9, 10, 11, 12, 13]] [(162, 0), (163, 1), (164, 2), (165, 3), (166, 4), (167, 5), (168, 6), (169, 7), (170, 8), (171, 9), (172, 10), (173, 11), (174, 12), (175, 13), (176, 14)] [(fun η609 v => v.1 = .pointer (some ⟨b15, 0, none⟩)), (fun η609 v => v.1 = .slice (vA (v.1)) y610.length (vC (v.1))), (fun η609 v => v.1 = .pointer (some ⟨b19, 0, none⟩)), (fun η609 v => v.1 = .pointer (some ⟨b19, 0, none⟩)), (fun η609 v => v.1 = .pointer (some ⟨b19, 0, none⟩)), (fun η609 v => v.1 = .slice (vA (vT 1 ((η481 9).2))) y505.V.length (vC (vT 1 ((η481 9).2)))), (fun η609 v => v.1 = .bool y619), (fun η609 v => v.1 = .bool (!y619)), (fun η609 v => v.1 = .bool (!y619)), (fun η609 v => v.1 = .pointer (some ⟨b15, 0, none⟩)), (fun η609 v => v.1 = .int .i64 y720), (fun η609 v => v.1 = .pointer (some ⟨b19, 0, none⟩)), (fun η609 v => v.1 = .int .i64 y726), (fun η609 v => v.1 = .bool (y720 != y726)), (fun η609 v => v.1 = .bool (y720 != y726))] [⟨(some 1), none, fun η609 => Row K38 (.slice (vA ((η609 1).1)) y610.length (vC ((η609 1).1))) y610⟩] rfl (by kernel_rfl) (by kernel_rfl) H604 ⟨?_, ?_, ?_, ?_, ?_, ?_, ?_, ?_, ?_, ?_, ?_, ?_, ?_, ?_, ?_, trivial⟩ ?_
                            · intro η609 wd735 Δ736 hE732 hR733 H734
                              have H734 : Hp w0 ((Δ736 ++ (Bx b15 75 [.slice (vA (vT 1 ((η481 4).2))) y489.f_l.length (vC (vT 1 ((η481 4).2)))] :: Row K38 (.slice (vA (vT 1 ((η481 4).2))) y489.f_l.length (vC (vT 1 ((η481 4).2)))) y489.f_l :: Bx b19 28 [.slice (vA (vT 1 ((η481 9).2))) y505.V.length (vC (vT 1 ((η481 9).2)))] :: Row K38 (.slice (vA (vT 1 ((η481 9).2))) y505.V.length (vC (vT 1 ((η481 9).2)))) y505.V :: Bx b70 31 [.int .i64 ((rd l_ v41).Do), .int .i64 ((rd l_ v41).Origin), .int .i64 ((rd l_ v41).Life), .int .i64 ((rd l_ v41).f_N), .slice ((ads7 (Int.toNat v41)).1) (((rd l_ v41).Used).length) ((ads7 (Int.toNat v41)).2)] :: Γ))) wd735 := H734
                              refine sp_op [(3, .pointer (some ⟨b15, 0, none⟩))] (ac rfl an) ?_
                              refine r_pure (.pointer (some ⟨b15, 0, none⟩)) rfl ?_
                              exact r_nil (n_lp ⟨_, rfl, undef, rfl, H734⟩)
                            · intro η609 wd740 Δ741 hE737 hR738 H739
                              have H739 : Hp w0 ((Δ741 ++ (Bx b15 75 [.slice (vA (vT 1 ((η481 4).2))) y489.f_l.length (vC (vT 1 ((η481 4).2)))] :: Row K38 (.slice (vA (vT 1 ((η481 4).2))) y489.f_l.length (vC (vT 1 ((η481 4).2)))) y489.f_l :: Bx b19 28 [.slice (vA (vT 1 ((η481 9).2))) y505.V.length (vC (vT 1 ((η481 9).2)))] :: Row K38 (.slice (vA (vT 1 ((η481 9).2))) y505.V.length (vC (vT 1 ((η481 9).2)))) y505.V :: Bx b70 31 [.int .i64 ((rd l_ v41).Do), .int .i64 ((rd l_ v41).Origin), .int .i64 ((rd l_ v41).Life), .int .i64 ((rd l_ v41).f_N), .slice ((ads7 (Int.toNat v41)).1) (((rd l_ v41).Used).length) ((ads7 (Int.toNat v41)).2)] :: Γ))) wd740 := H739
                              refine sp_op [(162, .pointer (some ⟨b15, 0, none⟩))] (ac (hE737 0 (by decide)) an) ?_
                              refine r_callf Try.call22 (vintage_Losses_Rows_ok b15 (⟨y489.f_l⟩ : vintage_Losses) (vA (vT 1 ((η481 4).2))) y489.f_l.length (vC (vT 1 ((η481 4).2))) rfl ((((H739)).tl.g1).cap) (fun _ H => ((H).tl.g1.rd)) (fun _ H => ((H).tl.g0)) y610 H739 hy611) ?_
                              rintro e745 wd744 ⟨A748, n749, c750, rfl, H747⟩
                              obtain rfl := (H747.g0).leneq
                              refine ⟨_, rfl, ?_⟩
                              exact r_nil (n_lp ⟨_, rfl, (.tuple #[.slice A748 y610.length c750]), rfl, H747⟩)
                            · intro η609 wd754 Δ755 hE751 hR752 H753
                              have H753 : Hp w0 ((Δ755 ++ (Bx b15 75 [.slice (vA (vT 1 ((η481 4).2))) y489.f_l.length (vC (vT 1 ((η481 4).2)))] :: Row K38 (.slice (vA (vT 1 ((η481 4).2))) y489.f_l.length (vC (vT 1 ((η481 4).2)))) y489.f_l :: Bx b19 28 [.slice (vA (vT 1 ((η481 9).2))) y505.V.length (vC (vT 1 ((η481 9).2)))] :: Row K38 (.slice (vA (vT 1 ((η481 9).2))) y505.V.length (vC (vT 1 ((η481 9).2)))) y505.V :: Bx b70 31 [.int .i64 ((rd l_ v41).Do), .int .i64 ((rd l_ v41).Origin), .int .i64 ((rd l_ v41).Life), .int .i64 ((rd l_ v41).f_N), .slice ((ads7 (Int.toNat v41)).1) (((rd l_ v41).Used).length) ((ads7 (Int.toNat v41)).2)] :: Γ))) wd754 := H753
                              refine sp_op [(4, .pointer (some ⟨b19, 0, none⟩))] (ac rfl an) ?_
                              refine r_pure (.pointer (some ⟨b19, 0, none⟩)) rfl ?_
                              exact r_nil (n_lp ⟨_, rfl, undef, rfl, H753⟩)
                            · intro η609 wd759 Δ760 hE756 hR757 H758
                              have H758 : Hp w0 ((Δ760 ++ (Bx b15 75 [.slice (vA (vT 1 ((η481 4).2))) y489.f_l.length (vC (vT 1 ((η481 4).2)))] :: Row K38 (.slice (vA (vT 1 ((η481 4).2))) y489.f_l.length (vC (vT 1 ((η481 4).2)))) y489.f_l :: Bx b19 28 [.slice (vA (vT 1 ((η481 9).2))) y505.V.length (vC (vT 1 ((η481 9).2)))] :: Row K38 (.slice (vA (vT 1 ((η481 9).2))) y505.V.length (vC (vT 1 ((η481 9).2)))) y505.V :: Bx b70 31 [.int .i64 ((rd l_ v41).Do), .int .i64 ((rd l_ v41).Origin), .int .i64 ((rd l_ v41).Life), .int .i64 ((rd l_ v41).f_N), .slice ((ads7 (Int.toNat v41)).1) (((rd l_ v41).Used).length) ((ads7 (Int.toNat v41)).2)] :: Γ))) wd759 := H758
                              refine sp_op [(164, .pointer (some ⟨b19, 0, none⟩))] (ac (hE756 2 (by decide)) an) ?_
                              refine r_pure (.pointer (some ⟨b19, 0, none⟩)) rfl ?_
                              exact r_nil (n_lp ⟨_, rfl, undef, rfl, H758⟩)
                            · intro η609 wd764 Δ765 hE761 hR762 H763
                              have H763 : Hp w0 ((Δ765 ++ (Bx b15 75 [.slice (vA (vT 1 ((η481 4).2))) y489.f_l.length (vC (vT 1 ((η481 4).2)))] :: Row K38 (.slice (vA (vT 1 ((η481 4).2))) y489.f_l.length (vC (vT 1 ((η481 4).2)))) y489.f_l :: Bx b19 28 [.slice (vA (vT 1 ((η481 9).2))) y505.V.length (vC (vT 1 ((η481 9).2)))] :: Row K38 (.slice (vA (vT 1 ((η481 9).2))) y505.V.length (vC (vT 1 ((η481 9).2)))) y505.V :: Bx b70 31 [.int .i64 ((rd l_ v41).Do), .int .i64 ((rd l_ v41).Origin), .int .i64 ((rd l_ v41).Life), .int .i64 ((rd l_ v41).f_N), .slice ((ads7 (Int.toNat v41)).1) (((rd l_ v41).Used).length) ((ads7 (Int.toNat v41)).2)] :: Γ))) wd764 := H763
                              refine sp_op [(165, .pointer (some ⟨b19, 0, none⟩))] (ac (hE761 3 (by decide)) an) ?_
                              refine r_fa FA28_0 ⟨b19, 0, none⟩ rfl rfl ?_
                              exact r_nil (n_lp ⟨_, rfl, undef, rfl, H763⟩)
                            · intro η609 wd769 Δ770 hE766 hR767 H768
                              have H768 : Hp w0 ((Δ770 ++ (Bx b15 75 [.slice (vA (vT 1 ((η481 4).2))) y489.f_l.length (vC (vT 1 ((η481 4).2)))] :: Row K38 (.slice (vA (vT 1 ((η481 4).2))) y489.f_l.length (vC (vT 1 ((η481 4).2)))) y489.f_l :: Bx b19 28 [.slice (vA (vT 1 ((η481 9).2))) y505.V.length (vC (vT 1 ((η481 9).2)))] :: Row K38 (.slice (vA (vT 1 ((η481 9).2))) y505.V.length (vC (vT 1 ((η481 9).2)))) y505.V :: Bx b70 31 [.int .i64 ((rd l_ v41).Do), .int .i64 ((rd l_ v41).Origin), .int .i64 ((rd l_ v41).Life), .int .i64 ((rd l_ v41).f_N), .slice ((ads7 (Int.toNat v41)).1) (((rd l_ v41).Used).length) ((ads7 (Int.toNat v41)).2)] :: Γ))) wd769 := H768
                              refine sp_op [(166, .pointer (some ⟨b19, 0, none⟩))] (ac (hE766 4 (by decide)) an) ?_
                              refine r_ld1 (.slice (vA (vT 1 ((η481 9).2))) y505.V.length (vC (vT 1 ((η481 9).2)))) LD26 rfl (((H768).tl.g2).cell _ rfl) ?_
                              exact r_nil (n_lp ⟨_, rfl, undef, rfl, H768⟩)
                            · intro η609 wd774 Δ775 hE771 hR772 H773
                              have H773 : Hp w0 ((Δ775 ++ (Bx b15 75 [.slice (vA (vT 1 ((η481 4).2))) y489.f_l.length (vC (vT 1 ((η481 4).2)))] :: Row K38 (.slice (vA (vT 1 ((η481 4).2))) y489.f_l.length (vC (vT 1 ((η481 4).2)))) y489.f_l :: Bx b19 28 [.slice (vA (vT 1 ((η481 9).2))) y505.V.length (vC (vT 1 ((η481 9).2)))] :: Row K38 (.slice (vA (vT 1 ((η481 9).2))) y505.V.length (vC (vT 1 ((η481 9).2)))) y505.V :: Bx b70 31 [.int .i64 ((rd l_ v41).Do), .int .i64 ((rd l_ v41).Origin), .int .i64 ((rd l_ v41).Life), .int .i64 ((rd l_ v41).f_N), .slice ((ads7 (Int.toNat v41)).1) (((rd l_ v41).Used).length) ((ads7 (Int.toNat v41)).2)] :: Γ))) wd774 := H773
                              refine sp_op [(163, .slice (vA ((η609 1).1)) y610.length (vC ((η609 1).1))), (167, .slice (vA (vT 1 ((η481 9).2))) y505.V.length (vC (vT 1 ((η481 9).2))))] (ac (hE771 1 (by decide)) (ac (hE771 5 (by decide)) an)) ?_
                              refine r_callf Try.call21 (scutagekeep_Same_api_Vintage_ok y610 (vA ((η609 1).1)) y610.length (vC ((η609 1).1)) rfl (((show (Row K38 (.slice (vA ((η609 1).1)) y610.length (vC ((η609 1).1))) y610) _ from ((H773)).memr (hR772 _ (List.mem_of_getElem? (i := 0) rfl) rfl))).cap) (fun _ H => ((show (Row K38 (.slice (vA ((η609 1).1)) y610.length (vC ((η609 1).1))) y610) _ from (H).memr (hR772 _ (List.mem_of_getElem? (i := 0) rfl) rfl)).rd)) y505.V (vA (vT 1 ((η481 9).2))) y505.V.length (vC (vT 1 ((η481 9).2))) rfl ((((H773)).tl.g3).cap) (fun _ H => ((H).tl.g3.rd)) y619 H773 hy620) ?_
                              rintro e779 wd778 ⟨rfl, H781⟩
                              refine ⟨_, rfl, ?_⟩
                              exact r_nil (n_lp ⟨_, rfl, undef, rfl, H781⟩)
                            · intro η609 wd785 Δ786 hE782 hR783 H784
                              have H784 : Hp w0 ((Δ786 ++ (Bx b15 75 [.slice (vA (vT 1 ((η481 4).2))) y489.f_l.length (vC (vT 1 ((η481 4).2)))] :: Row K38 (.slice (vA (vT 1 ((η481 4).2))) y489.f_l.length (vC (vT 1 ((η481 4).2)))) y489.f_l :: Bx b19 28 [.slice (vA (vT 1 ((η481 9).2))) y505.V.length (vC (vT 1 ((η481 9).2)))] :: Row K38 (.slice (vA (vT 1 ((η481 9).2))) y505.V.length (vC (vT 1 ((η481 9).2)))) y505.V :: Bx b70 31 [.int .i64 ((rd l_ v41).Do), .int .i64 ((rd l_ v41).Origin), .int .i64 ((rd l_ v41).Life), .int .i64 ((rd l_ v41).f_N), .slice ((ads7 (Int.toNat v41)).1) (((rd l_ v41).Used).length) ((ads7 (Int.toNat v41)).2)] :: Γ))) wd785 := H784
                              refine sp_op [(168, .bool y619)] (ac (hE782 6 (by decide)) an) ?_
                              refine r_pure (.bool (!y619)) rfl ?_
                              exact r_nil (n_lp ⟨_, rfl, undef, rfl, H784⟩)
                            · intro η609 wd790 Δ791 hE787 hR788 H789
                              have H789 : Hp w0 ((Δ791 ++ (Bx b15 75 [.slice (vA (vT 1 ((η481 4).2))) y489.f_l.length (vC (vT 1 ((η481 4).2)))] :: Row K38 (.slice (vA (vT 1 ((η481 4).2))) y489.f_l.length (vC (vT 1 ((η481 4).2)))) y489.f_l :: Bx b19 28 [.slice (vA (vT 1 ((η481 9).2))) y505.V.length (vC (vT 1 ((η481 9).2)))] :: Row K38 (.slice (vA (vT 1 ((η481 9).2))) y505.V.length (vC (vT 1 ((η481 9).2)))) y505.V :: Bx b70 31 [.int .i64 ((rd l_ v41).Do), .int .i64 ((rd l_ v41).Origin), .int .i64 ((rd l_ v41).Life), .int .i64 ((rd l_ v41).f_N), .slice ((ads7 (Int.toNat v41)).1) (((rd l_ v41).Used).length) ((ads7 (Int.toNat v41)).2)] :: Γ))) wd790 := H789
                              refine sp_op [(169, .bool (!y619))] (ac (hE787 7 (by decide)) an) ?_
                              refine r_pure (.bool (!y619)) rfl ?_
                              exact r_nil (n_lp ⟨_, rfl, undef, rfl, H789⟩)
                            · intro η609 wd795 Δ796 hE792 hR793 H794
                              have H794 : Hp w0 ((Δ796 ++ (Bx b15 75 [.slice (vA (vT 1 ((η481 4).2))) y489.f_l.length (vC (vT 1 ((η481 4).2)))] :: Row K38 (.slice (vA (vT 1 ((η481 4).2))) y489.f_l.length (vC (vT 1 ((η481 4).2)))) y489.f_l :: Bx b19 28 [.slice (vA (vT 1 ((η481 9).2))) y505.V.length (vC (vT 1 ((η481 9).2)))] :: Row K38 (.slice (vA (vT 1 ((η481 9).2))) y505.V.length (vC (vT 1 ((η481 9).2)))) y505.V :: Bx b70 31 [.int .i64 ((rd l_ v41).Do), .int .i64 ((rd l_ v41).Origin), .int .i64 ((rd l_ v41).Life), .int .i64 ((rd l_ v41).f_N), .slice ((ads7 (Int.toNat v41)).1) (((rd l_ v41).Used).length) ((ads7 (Int.toNat v41)).2)] :: Γ))) wd795 := H794
                              refine sp_op [(3, .pointer (some ⟨b15, 0, none⟩)), (170, .bool (!y619))] (ac rfl (ac (hE792 8 (by decide)) an)) ?_
                              refine r_pure (.pointer (some ⟨b15, 0, none⟩)) rfl ?_ (wn_t rfl rfl (by decide) rfl hb625)
                              exact r_nil (n_lp ⟨_, rfl, undef, rfl, H794⟩)
                            · intro η609 wd800 Δ801 hE797 hR798 H799
                              have H799 : Hp w0 ((Δ801 ++ (Bx b15 75 [.slice (vA (vT 1 ((η481 4).2))) y489.f_l.length (vC (vT 1 ((η481 4).2)))] :: Row K38 (.slice (vA (vT 1 ((η481 4).2))) y489.f_l.length (vC (vT 1 ((η481 4).2)))) y489.f_l :: Bx b19 28 [.slice (vA (vT 1 ((η481 9).2))) y505.V.length (vC (vT 1 ((η481 9).2)))] :: Row K38 (.slice (vA (vT 1 ((η481 9).2))) y505.V.length (vC (vT 1 ((η481 9).2)))) y505.V :: Bx b70 31 [.int .i64 ((rd l_ v41).Do), .int .i64 ((rd l_ v41).Origin), .int .i64 ((rd l_ v41).Life), .int .i64 ((rd l_ v41).f_N), .slice ((ads7 (Int.toNat v41)).1) (((rd l_ v41).Used).length) ((ads7 (Int.toNat v41)).2)] :: Γ))) wd800 := H799
                              refine sp_op [(170, .bool (!y619)), (171, .pointer (some ⟨b15, 0, none⟩))] (ac (hE797 8 (by decide)) (ac (hE797 9 (by decide)) an)) ?_
                              refine r_callf Try.call23 (vintage_Losses_Left_ok b15 (⟨y489.f_l⟩ : vintage_Losses) (vA (vT 1 ((η481 4).2))) y489.f_l.length (vC (vT 1 ((η481 4).2))) rfl ((((H799)).tl.g1).cap) (fun _ H => ((H).tl.g1.rd)) (fun _ H => ((H).tl.g0)) y720 H799 hy721) ?_ (wn_t rfl rfl (by decide) rfl hb625)
                              rintro e805 wd804 ⟨rfl, H807⟩
                              refine ⟨_, rfl, ?_⟩
                              exact r_nil (n_lp ⟨_, rfl, undef, rfl, H807⟩)
                            · intro η609 wd811 Δ812 hE808 hR809 H810
                              have H810 : Hp w0 ((Δ812 ++ (Bx b15 75 [.slice (vA (vT 1 ((η481 4).2))) y489.f_l.length (vC (vT 1 ((η481 4).2)))] :: Row K38 (.slice (vA (vT 1 ((η481 4).2))) y489.f_l.length (vC (vT 1 ((η481 4).2)))) y489.f_l :: Bx b19 28 [.slice (vA (vT 1 ((η481 9).2))) y505.V.length (vC (vT 1 ((η481 9).2)))] :: Row K38 (.slice (vA (vT 1 ((η481 9).2))) y505.V.length (vC (vT 1 ((η481 9).2)))) y505.V :: Bx b70 31 [.int .i64 ((rd l_ v41).Do), .int .i64 ((rd l_ v41).Origin), .int .i64 ((rd l_ v41).Life), .int .i64 ((rd l_ v41).f_N), .slice ((ads7 (Int.toNat v41)).1) (((rd l_ v41).Used).length) ((ads7 (Int.toNat v41)).2)] :: Γ))) wd811 := H810
                              refine sp_op [(4, .pointer (some ⟨b19, 0, none⟩)), (170, .bool (!y619))] (ac rfl (ac (hE808 8 (by decide)) an)) ?_
                              refine r_pure (.pointer (some ⟨b19, 0, none⟩)) rfl ?_ (wn_t rfl rfl (by decide) rfl hb625)
                              exact r_nil (n_lp ⟨_, rfl, undef, rfl, H810⟩)
                            · intro η609 wd816 Δ817 hE813 hR814 H815
                              have H815 : Hp w0 ((Δ817 ++ (Bx b15 75 [.slice (vA (vT 1 ((η481 4).2))) y489.f_l.length (vC (vT 1 ((η481 4).2)))] :: Row K38 (.slice (vA (vT 1 ((η481 4).2))) y489.f_l.length (vC (vT 1 ((η481 4).2)))) y489.f_l :: Bx b19 28 [.slice (vA (vT 1 ((η481 9).2))) y505.V.length (vC (vT 1 ((η481 9).2)))] :: Row K38 (.slice (vA (vT 1 ((η481 9).2))) y505.V.length (vC (vT 1 ((η481 9).2)))) y505.V :: Bx b70 31 [.int .i64 ((rd l_ v41).Do), .int .i64 ((rd l_ v41).Origin), .int .i64 ((rd l_ v41).Life), .int .i64 ((rd l_ v41).f_N), .slice ((ads7 (Int.toNat v41)).1) (((rd l_ v41).Used).length) ((ads7 (Int.toNat v41)).2)] :: Γ))) wd816 := H815
                              refine sp_op [(170, .bool (!y619)), (173, .pointer (some ⟨b19, 0, none⟩))] (ac (hE813 8 (by decide)) (ac (hE813 11 (by decide)) an)) ?_
                              refine r_callf Try.call24 (scutageref09_Losses_Left_ok b19 (⟨y505.V⟩ : scutageref09_Losses) (vA (vT 1 ((η481 9).2))) y505.V.length (vC (vT 1 ((η481 9).2))) rfl ((((H815)).tl.g3).cap) (fun _ H => ((H).tl.g3.rd)) (fun _ H => ((H).tl.g2)) y726 H815 hy727) ?_ (wn_t rfl rfl (by decide) rfl hb625)
                              rintro e821 wd820 ⟨rfl, H823⟩
                              refine ⟨_, rfl, ?_⟩
                              exact r_nil (n_lp ⟨_, rfl, undef, rfl, H823⟩)
                            · intro η609 wd827 Δ828 hE824 hR825 H826
                              have H826 : Hp w0 ((Δ828 ++ (Bx b15 75 [.slice (vA (vT 1 ((η481 4).2))) y489.f_l.length (vC (vT 1 ((η481 4).2)))] :: Row K38 (.slice (vA (vT 1 ((η481 4).2))) y489.f_l.length (vC (vT 1 ((η481 4).2)))) y489.f_l :: Bx b19 28 [.slice (vA (vT 1 ((η481 9).2))) y505.V.length (vC (vT 1 ((η481 9).2)))] :: Row K38 (.slice (vA (vT 1 ((η481 9).2))) y505.V.length (vC (vT 1 ((η481 9).2)))) y505.V :: Bx b70 31 [.int .i64 ((rd l_ v41).Do), .int .i64 ((rd l_ v41).Origin), .int .i64 ((rd l_ v41).Life), .int .i64 ((rd l_ v41).f_N), .slice ((ads7 (Int.toNat v41)).1) (((rd l_ v41).Used).length) ((ads7 (Int.toNat v41)).2)] :: Γ))) wd827 := H826
                              refine sp_op [(170, .bool (!y619)), (172, .int .i64 y720), (174, .int .i64 y726)] (ac (hE824 8 (by decide)) (ac (hE824 10 (by decide)) (ac (hE824 12 (by decide)) an))) ?_
                              refine r_pure (.bool (y720 != y726)) rfl ?_ (wn_t rfl rfl (by decide) rfl hb625)
                              exact r_nil (n_lp ⟨_, rfl, undef, rfl, H826⟩)
                            · intro η609 wd832 Δ833 hE829 hR830 H831
                              have H831 : Hp w0 ((Δ833 ++ (Bx b15 75 [.slice (vA (vT 1 ((η481 4).2))) y489.f_l.length (vC (vT 1 ((η481 4).2)))] :: Row K38 (.slice (vA (vT 1 ((η481 4).2))) y489.f_l.length (vC (vT 1 ((η481 4).2)))) y489.f_l :: Bx b19 28 [.slice (vA (vT 1 ((η481 9).2))) y505.V.length (vC (vT 1 ((η481 9).2)))] :: Row K38 (.slice (vA (vT 1 ((η481 9).2))) y505.V.length (vC (vT 1 ((η481 9).2)))) y505.V :: Bx b70 31 [.int .i64 ((rd l_ v41).Do), .int .i64 ((rd l_ v41).Origin), .int .i64 ((rd l_ v41).Life), .int .i64 ((rd l_ v41).f_N), .slice ((ads7 (Int.toNat v41)).1) (((rd l_ v41).Used).length) ((ads7 (Int.toNat v41)).2)] :: Γ))) wd832 := H831
                              refine sp_op [(170, .bool (!y619)), (175, .bool (y720 != y726))] (ac (hE829 8 (by decide)) (ac (hE829 13 (by decide)) an)) ?_
                              refine r_pick_f (.bool (y720 != y726)) hb625 rfl rfl ?_
                              exact r_nil (n_lp ⟨_, rfl, undef, rfl, H831⟩)
                            · intro η609 wd835 hV836 H834
                              have H837 : Hp w0 (Row K38 (.slice (vA ((η609 1).1)) y610.length (vC ((η609 1).1))) y610 :: Bx b15 75 [.slice (vA (vT 1 ((η481 4).2))) y489.f_l.length (vC (vT 1 ((η481 4).2)))] :: Row K38 (.slice (vA (vT 1 ((η481 4).2))) y489.f_l.length (vC (vT 1 ((η481 4).2)))) y489.f_l :: Bx b19 28 [.slice (vA (vT 1 ((η481 9).2))) y505.V.length (vC (vT 1 ((η481 9).2)))] :: Row K38 (.slice (vA (vT 1 ((η481 9).2))) y505.V.length (vC (vT 1 ((η481 9).2)))) y505.V :: Bx b70 31 [.int .i64 ((rd l_ v41).Do), .int .i64 ((rd l_ v41).Origin), .int .i64 ((rd l_ v41).Life), .int .i64 ((rd l_ v41).f_N), .slice ((ads7 (Int.toNat v41)).1) (((rd l_ v41).Used).length) ((ads7 (Int.toNat v41)).2)] :: Γ) wd835 := H834
                              refine n_frame [(0, .slice A1 l_.length c2), (3, .pointer (some ⟨b15, 0, none⟩)), (4, .pointer (some ⟨b19, 0, none⟩)), (5, .int .i64 v41), (171, .pointer (some ⟨b15, 0, none⟩)), (172, .int .i64 y720), (173, .pointer (some ⟨b19, 0, none⟩)), (174, .int .i64 y726), (175, .bool (y720 != y726)), (176, .bool (y720 != y726))] (ac rfl (ac rfl (ac rfl (ac rfl (ac (hV836 9 rfl) (ac (hV836 10 rfl) (ac (hV836 11 rfl) (ac (hV836 12 rfl) (ac (hV836 13 rfl) (ac (hV836 14 rfl) an)))))))))) ?_
                              refine n_cut ⟨y720 != y726, upk (ac rfl (ac rfl (ac rfl (ac rfl (ac rfl an))))), H837.d.u4.d.u2.u3.u2.u3, hm⟩
                        · rintro ρ w ⟨q606, ⟨base, rfl⟩, H607, hm⟩
                          unfold scutagelaw13_VintagePlays.j7 at hm
                          rcases ite_some hm with ⟨hb608, hm⟩ | ⟨hb608, hm⟩
                          · refine st_condt hb608 rfl ?_
                            refine st_seq ?_
                            refine st_region ?_
                            refine r_pure (.bool false) rfl ?_
                            refine r_seq ?_
                            have hq_ := Option.some.inj hm
                            subst hq_
                            have hq_ := Option.some.inj (show some (false : Bool) = some r0_ from hm43)
                            subst hq_
                            refine st_ret1 rfl rfl (Nat.le_of_ble_eq_true rfl) rfl ?_
                            exact ⟨rfl, H607.d.d.d.d⟩
                          · refine st_condf hb608 rfl ?_
                            refine st_skip ?_
                            refine n_bl ?_
                            refine n_cut ⟨(vA (vT 1 ((η481 4).2))), y489.f_l.length, (vC (vT 1 ((η481 4).2))), (vA (vT 1 ((η481 9).2))), y505.V.length, (vC (vT 1 ((η481 9).2))), y489.f_l, y505.V, upk (ac rfl (ac rfl (ac rfl (ac rfl an)))), H607.u3.u3.u3.u3, hm⟩
                  · refine st_condf hb480 rfl ?_
                    refine st_seq ?_
                    obtain ⟨y839, hy840, hm⟩ := bind_some hm
                    obtain ⟨y845, hy846, hm⟩ := bind_some hm
                    refine Flow.run' [[], [0], [], [2], [2, 3], [2, 3, 4], [2, 3, 4, 5], [], [7], [7, 8], [2, 3, 4, 5, 6, 7, 8, 9], [0, 1, 2, 3, 4, 5, 6, 7, 8, 9, 10], [0, 1, 2, 3, 4, 5, 6, 7, 8, 9, 10, 11]] [(70, 0), (71, 1), (72, 2), (73, 3), (74, 4), (75, 5), (76, 6), (77, 7), (78, 8), (79, 9), (80, 10), (81, 11), (11, 12)] [(fun η838 v => v.1 = .pointer (some ⟨b70, 4, none⟩)), (fun η838 v => v.1 = .slice ((ads7 (Int.toNat v41)).1) (((rd l_ v41).Used).length) ((ads7 (Int.toNat v41)).2)), (fun η838 v => v.1 = .pointer (some ⟨b19, 0, none⟩)), (fun η838 v => v.1 = .pointer (some ⟨b19, 0, none⟩)), (fun η838 v => v.1 = .pointer (some ⟨b19, 0, none⟩)), (fun η838 v => v.1 = .slice A37 xs40.length c39), (fun η838 v => v.1 = .int .i64 (xs40.length : Int)), (fun η838 v => v.1 = .pointer (some ⟨b70, 3, none⟩)), (fun η838 v => v.1 = .int .i64 ((rd l_ v41).f_N)), (fun η838 v => v.1 = .int .i64 y839), (fun η838 v => v.1 = .int .i64 (w64 ((xs40.length : Int) + y839))), (fun η838 v => v.1 = .slice (vA (v.1)) y845.length (vC (v.1))), (fun η838 v => v.1 = .slice (vA ((η838 11).1)) y845.length (vC ((η838 11).1)))] [⟨(some 11), none, fun η838 => Row K3 (.slice (vA ((η838 11).1)) y845.length (vC ((η838 11).1))) y845⟩] rfl (by kernel_rfl) (by kernel_rfl) H225 ⟨?_, ?_, ?_, ?_, ?_, ?_, ?_, ?_, ?_, ?_, ?_, ?_, ?_, trivial⟩ ?_
                    · intro η838 wd857 Δ858 hE854 hR855 H856
                      have H856 : Hp w0 ((Δ858 ++ (Row K38 (.slice A32 xs35.length c34) xs35 :: Bx b15 75 [.slice A32 xs35.length c34] :: Row K38 (.slice A37 xs40.length c39) xs40 :: Bx b19 28 [.slice A37 xs40.length c39] :: Bx b70 31 [.int .i64 ((rd l_ v41).Do), .int .i64 ((rd l_ v41).Origin), .int .i64 ((rd l_ v41).Life), .int .i64 ((rd l_ v41).f_N), .slice ((ads7 (Int.toNat v41)).1) (((rd l_ v41).Used).length) ((ads7 (Int.toNat v41)).2)] :: Γ))) wd857 := H856
                      refine sp_op [(6, .pointer (some ⟨b70, 0, none⟩))] (ac rfl an) ?_
                      refine r_fa FA31_4 ⟨b70, 4, none⟩ rfl rfl ?_
                      exact r_nil (n_lp ⟨_, rfl, undef, rfl, H856⟩)
                    · intro η838 wd862 Δ863 hE859 hR860 H861
                      have H861 : Hp w0 ((Δ863 ++ (Row K38 (.slice A32 xs35.length c34) xs35 :: Bx b15 75 [.slice A32 xs35.length c34] :: Row K38 (.slice A37 xs40.length c39) xs40 :: Bx b19 28 [.slice A37 xs40.length c39] :: Bx b70 31 [.int .i64 ((rd l_ v41).Do), .int .i64 ((rd l_ v41).Origin), .int .i64 ((rd l_ v41).Life), .int .i64 ((rd l_ v41).f_N), .slice ((ads7 (Int.toNat v41)).1) (((rd l_ v41).Used).length) ((ads7 (Int.toNat v41)).2)] :: Γ))) wd862 := H861
                      refine sp_op [(70, .pointer (some ⟨b70, 4, none⟩))] (ac (hE859 0 (by decide)) an) ?_
                      refine r_ld1 (.slice ((ads7 (Int.toNat v41)).1) (((rd l_ v41).Used).length) ((ads7 (Int.toNat v41)).2)) LD29 rfl (((H861).tl.g4).cell _ rfl) ?_
                      exact r_nil (n_lp ⟨_, rfl, undef, rfl, H861⟩)
                    · intro η838 wd867 Δ868 hE864 hR865 H866
                      have H866 : Hp w0 ((Δ868 ++ (Row K38 (.slice A32 xs35.length c34) xs35 :: Bx b15 75 [.slice A32 xs35.length c34] :: Row K38 (.slice A37 xs40.length c39) xs40 :: Bx b19 28 [.slice A37 xs40.length c39] :: Bx b70 31 [.int .i64 ((rd l_ v41).Do), .int .i64 ((rd l_ v41).Origin), .int .i64 ((rd l_ v41).Life), .int .i64 ((rd l_ v41).f_N), .slice ((ads7 (Int.toNat v41)).1) (((rd l_ v41).Used).length) ((ads7 (Int.toNat v41)).2)] :: Γ))) wd867 := H866
                      refine sp_op [(4, .pointer (some ⟨b19, 0, none⟩))] (ac rfl an) ?_
                      refine r_pure (.pointer (some ⟨b19, 0, none⟩)) rfl ?_
                      exact r_nil (n_lp ⟨_, rfl, undef, rfl, H866⟩)
                    · intro η838 wd872 Δ873 hE869 hR870 H871
                      have H871 : Hp w0 ((Δ873 ++ (Row K38 (.slice A32 xs35.length c34) xs35 :: Bx b15 75 [.slice A32 xs35.length c34] :: Row K38 (.slice A37 xs40.length c39) xs40 :: Bx b19 28 [.slice A37 xs40.length c39] :: Bx b70 31 [.int .i64 ((rd l_ v41).Do), .int .i64 ((rd l_ v41).Origin), .int .i64 ((rd l_ v41).Life), .int .i64 ((rd l_ v41).f_N), .slice ((ads7 (Int.toNat v41)).1) (((rd l_ v41).Used).length) ((ads7 (Int.toNat v41)).2)] :: Γ))) wd872 := H871
                      refine sp_op [(72, .pointer (some ⟨b19, 0, none⟩))] (ac (hE869 2 (by decide)) an) ?_
                      refine r_pure (.pointer (some ⟨b19, 0, none⟩)) rfl ?_
                      exact r_nil (n_lp ⟨_, rfl, undef, rfl, H871⟩)
                    · intro η838 wd877 Δ878 hE874 hR875 H876
                      have H876 : Hp w0 ((Δ878 ++ (Row K38 (.slice A32 xs35.length c34) xs35 :: Bx b15 75 [.slice A32 xs35.length c34] :: Row K38 (.slice A37 xs40.length c39) xs40 :: Bx b19 28 [.slice A37 xs40.length c39] :: Bx b70 31 [.int .i64 ((rd l_ v41).Do), .int .i64 ((rd l_ v41).Origin), .int .i64 ((rd l_ v41).Life), .int .i64 ((rd l_ v41).f_N), .slice ((ads7 (Int.toNat v41)).1) (((rd l_ v41).Used).length) ((ads7 (Int.toNat v41)).2)] :: Γ))) wd877 := H876
                      refine sp_op [(73, .pointer (some ⟨b19, 0, none⟩))] (ac (hE874 3 (by decide)) an) ?_
                      refine r_fa FA28_0 ⟨b19, 0, none⟩ rfl rfl ?_
                      exact r_nil (n_lp ⟨_, rfl, undef, rfl, H876⟩)
                    · intro η838 wd882 Δ883 hE879 hR880 H881
                      have H881 : Hp w0 ((Δ883 ++ (Row K38 (.slice A32 xs35.length c34) xs35 :: Bx b15 75 [.slice A32 xs35.length c34] :: Row K38 (.slice A37 xs40.length c39) xs40 :: Bx b19 28 [.slice A37 xs40.length c39] :: Bx b70 31 [.int .i64 ((rd l_ v41).Do), .int .i64 ((rd l_ v41).Origin), .int .i64 ((rd l_ v41).Life), .int .i64 ((rd l_ v41).f_N), .slice ((ads7 (Int.toNat v41)).1) (((rd l_ v41).Used).length) ((ads7 (Int.toNat v41)).2)] :: Γ))) wd882 := H881
                      refine sp_op [(74, .pointer (some ⟨b19, 0, none⟩))] (ac (hE879 4 (by decide)) an) ?_
                      refine r_ld1 (.slice A37 xs40.length c39) LD26 rfl (((H881).tl.g3).cell _ rfl) ?_
                      exact r_nil (n_lp ⟨_, rfl, undef, rfl, H881⟩)
                    · intro η838 wd887 Δ888 hE884 hR885 H886
                      have H886 : Hp w0 ((Δ888 ++ (Row K38 (.slice A32 xs35.length c34) xs35 :: Bx b15 75 [.slice A32 xs35.length c34] :: Row K38 (.slice A37 xs40.length c39) xs40 :: Bx b19 28 [.slice A37 xs40.length c39] :: Bx b70 31 [.int .i64 ((rd l_ v41).Do), .int .i64 ((rd l_ v41).Origin), .int .i64 ((rd l_ v41).Life), .int .i64 ((rd l_ v41).f_N), .slice ((ads7 (Int.toNat v41)).1) (((rd l_ v41).Used).length) ((ads7 (Int.toNat v41)).2)] :: Γ))) wd887 := H886
                      refine sp_op [(75, .slice A37 xs40.length c39)] (ac (hE884 5 (by decide)) an) ?_
                      refine r_len Try.underlying26 rfl ?_
                      exact r_nil (n_lp ⟨_, rfl, undef, rfl, H886⟩)
                    · intro η838 wd892 Δ893 hE889 hR890 H891
                      have H891 : Hp w0 ((Δ893 ++ (Row K38 (.slice A32 xs35.length c34) xs35 :: Bx b15 75 [.slice A32 xs35.length c34] :: Row K38 (.slice A37 xs40.length c39) xs40 :: Bx b19 28 [.slice A37 xs40.length c39] :: Bx b70 31 [.int .i64 ((rd l_ v41).Do), .int .i64 ((rd l_ v41).Origin), .int .i64 ((rd l_ v41).Life), .int .i64 ((rd l_ v41).f_N), .slice ((ads7 (Int.toNat v41)).1) (((rd l_ v41).Used).length) ((ads7 (Int.toNat v41)).2)] :: Γ))) wd892 := H891
                      refine sp_op [(6, .pointer (some ⟨b70, 0, none⟩))] (ac rfl an) ?_
                      refine r_fa FA31_3 ⟨b70, 3, none⟩ rfl rfl ?_
                      exact r_nil (n_lp ⟨_, rfl, undef, rfl, H891⟩)
                    · intro η838 wd897 Δ898 hE894 hR895 H896
                      have H896 : Hp w0 ((Δ898 ++ (Row K38 (.slice A32 xs35.length c34) xs35 :: Bx b15 75 [.slice A32 xs35.length c34] :: Row K38 (.slice A37 xs40.length c39) xs40 :: Bx b19 28 [.slice A37 xs40.length c39] :: Bx b70 31 [.int .i64 ((rd l_ v41).Do), .int .i64 ((rd l_ v41).Origin), .int .i64 ((rd l_ v41).Life), .int .i64 ((rd l_ v41).f_N), .slice ((ads7 (Int.toNat v41)).1) (((rd l_ v41).Used).length) ((ads7 (Int.toNat v41)).2)] :: Γ))) wd897 := H896
                      refine sp_op [(77, .pointer (some ⟨b70, 3, none⟩))] (ac (hE894 7 (by decide)) an) ?_
                      refine r_ld1 (.int .i64 ((rd l_ v41).f_N)) LD3 rfl (((H896).tl.g4).cell _ rfl) ?_
                      exact r_nil (n_lp ⟨_, rfl, undef, rfl, H896⟩)
                    · intro η838 wd902 Δ903 hE899 hR900 H901
                      have H901 : Hp w0 ((Δ903 ++ (Row K38 (.slice A32 xs35.length c34) xs35 :: Bx b15 75 [.slice A32 xs35.length c34] :: Row K38 (.slice A37 xs40.length c39) xs40 :: Bx b19 28 [.slice A37 xs40.length c39] :: Bx b70 31 [.int .i64 ((rd l_ v41).Do), .int .i64 ((rd l_ v41).Origin), .int .i64 ((rd l_ v41).Life), .int .i64 ((rd l_ v41).f_N), .slice ((ads7 (Int.toNat v41)).1) (((rd l_ v41).Used).length) ((ads7 (Int.toNat v41)).2)] :: Γ))) wd902 := H901
                      refine sp_op [(78, .int .i64 ((rd l_ v41).f_N))] (ac (hE899 8 (by decide)) an) ?_
                      refine r_callf Try.call9 (scutagekeep_Within_ok ((rd l_ v41).f_N) 2 y839 H901 hy840) ?_
                      rintro e907 wd906 ⟨rfl, H909⟩
                      refine ⟨_, rfl, ?_⟩
                      exact r_nil (n_lp ⟨_, rfl, undef, rfl, H909⟩)
                    · intro η838 wd913 Δ914 hE910 hR911 H912
                      have H912 : Hp w0 ((Δ914 ++ (Row K38 (.slice A32 xs35.length c34) xs35 :: Bx b15 75 [.slice A32 xs35.length c34] :: Row K38 (.slice A37 xs40.length c39) xs40 :: Bx b19 28 [.slice A37 xs40.length c39] :: Bx b70 31 [.int .i64 ((rd l_ v41).Do), .int .i64 ((rd l_ v41).Origin), .int .i64 ((rd l_ v41).Life), .int .i64 ((rd l_ v41).f_N), .slice ((ads7 (Int.toNat v41)).1) (((rd l_ v41).Used).length) ((ads7 (Int.toNat v41)).2)] :: Γ))) wd913 := H912
                      refine sp_op [(76, .int .i64 (xs40.length : Int)), (79, .int .i64 y839)] (ac (hE910 6 (by decide)) (ac (hE910 9 (by decide)) an)) ?_
                      refine r_pure (.int .i64 (w64 ((xs40.length : Int) + y839))) rfl ?_
                      exact r_nil (n_lp ⟨_, rfl, undef, rfl, H912⟩)
                    · intro η838 wd918 Δ919 hE915 hR916 H917
                      have H917 : Hp w0 ((Δ919 ++ (Row K38 (.slice A32 xs35.length c34) xs35 :: Bx b15 75 [.slice A32 xs35.length c34] :: Row K38 (.slice A37 xs40.length c39) xs40 :: Bx b19 28 [.slice A37 xs40.length c39] :: Bx b70 31 [.int .i64 ((rd l_ v41).Do), .int .i64 ((rd l_ v41).Origin), .int .i64 ((rd l_ v41).Life), .int .i64 ((rd l_ v41).f_N), .slice ((ads7 (Int.toNat v41)).1) (((rd l_ v41).Used).length) ((ads7 (Int.toNat v41)).2)] :: Γ))) wd918 := H917
                      refine sp_op [(71, .slice ((ads7 (Int.toNat v41)).1) (((rd l_ v41).Used).length) ((ads7 (Int.toNat v41)).2)), (80, .int .i64 (w64 ((xs40.length : Int) + y839)))] (ac (hE915 1 (by decide)) (ac (hE915 10 (by decide)) an)) ?_
                      refine r_callf Try.call16 (scutagekeep_Cut_int_ok ((rd l_ v41).Used) ((ads7 (Int.toNat v41)).1) (((rd l_ v41).Used).length) ((ads7 (Int.toNat v41)).2) rfl (hin8 _ _ hj68).1 (fun _ H => ((hin8 _ _ hj68).2 _ (H).tl.d.d.d.d.d)) (w64 ((xs40.length : Int) + y839)) y845 H917 hy846) ?_
                      rintro e923 wd922 ⟨A926, n927, c928, rfl, H925⟩
                      obtain rfl := (H925.g0).leneq
                      refine ⟨_, rfl, ?_⟩
                      exact r_nil (n_lp ⟨_, rfl, (.tuple #[.slice A926 y845.length c928]), rfl, H925⟩)
                    · intro η838 wd932 Δ933 hE929 hR930 H931
                      have H931 : Hp w0 ((Δ933 ++ (Row K38 (.slice A32 xs35.length c34) xs35 :: Bx b15 75 [.slice A32 xs35.length c34] :: Row K38 (.slice A37 xs40.length c39) xs40 :: Bx b19 28 [.slice A37 xs40.length c39] :: Bx b70 31 [.int .i64 ((rd l_ v41).Do), .int .i64 ((rd l_ v41).Origin), .int .i64 ((rd l_ v41).Life), .int .i64 ((rd l_ v41).f_N), .slice ((ads7 (Int.toNat v41)).1) (((rd l_ v41).Used).length) ((ads7 (Int.toNat v41)).2)] :: Γ))) wd932 := H931
                      refine sp_op [(81, .slice (vA ((η838 11).1)) y845.length (vC ((η838 11).1)))] (ac (hE929 11 (by decide)) an) ?_
                      refine r_pure (.slice (vA ((η838 11).1)) y845.length (vC ((η838 11).1))) rfl ?_
                      exact r_nil (n_lp ⟨_, rfl, undef, rfl, H931⟩)
                    · intro η838 wd935 hV936 H934
                      have H937 : Hp w0 (Row K3 (.slice (vA ((η838 11).1)) y845.length (vC ((η838 11).1))) y845 :: Row K38 (.slice A32 xs35.length c34) xs35 :: Bx b15 75 [.slice A32 xs35.length c34] :: Row K38 (.slice A37 xs40.length c39) xs40 :: Bx b19 28 [.slice A37 xs40.length c39] :: Bx b70 31 [.int .i64 ((rd l_ v41).Do), .int .i64 ((rd l_ v41).Origin), .int .i64 ((rd l_ v41).Life), .int .i64 ((rd l_ v41).f_N), .slice ((ads7 (Int.toNat v41)).1) (((rd l_ v41).Used).length) ((ads7 (Int.toNat v41)).2)] :: Γ) wd935 := H934
                      refine n_frame [(0, .slice A1 l_.length c2), (3, .pointer (some ⟨b15, 0, none⟩)), (4, .pointer (some ⟨b19, 0, none⟩)), (5, .int .i64 v41), (6, .pointer (some ⟨b70, 0, none⟩)), (11, .slice (vA ((η838 11).1)) y845.length (vC ((η838 11).1)))] (ac rfl (ac rfl (ac rfl (ac rfl (ac rfl (ac (hV936 12 rfl) an)))))) ?_
                      refine n_sq ?_
                      refine st_seq ?_
                      refine st_seq ?_
                      refine st_region ?_
                      refine r_pure (.slice (vA ((η838 11).1)) y845.length (vC ((η838 11).1))) rfl ?_
                      refine r_len Try.underlying29 rfl ?_
                      refine r_pure (.int .i64 0) rfl ?_
                      refine r_seq ?_
                      refine st_block ?_
                      have hlim959 := (H937.g0.rd).lim
                      obtain ⟨tl942, hl943, hm941⟩ := bind_some hm
                      refine st_loopL (scutagelaw13_VintagePlays.l2 xs40 l_ v41) (fun ys948 s ρ w => ∃ i944 : Int, ∃ xs939 : List Int, ∃ dn945 : List Int, (i944, xs939) = s ∧ y845 = dn945 ++ ys948 ∧ i944 = (dn945.length : Int) ∧ (∃ base, ρ = updl base [(0, .slice A1 l_.length c2), (3, .pointer (some ⟨b15, 0, none⟩)), (4, .pointer (some ⟨b19, 0, none⟩)), (5, .int .i64 v41), (6, .pointer (some ⟨b70, 0, none⟩)), (11, .slice (vA ((η838 11).1)) y845.length (vC ((η838 11).1))), (83, .int .i64 (y845.length : Int)), (84, .int .i64 i944)]) ∧ Hp w0 (Row K38 (.slice A32 xs35.length c34) xs35 :: Bx b15 75 [.slice A32 xs35.length c34] :: Row K38 (.slice A37 xs40.length c39) xs40 :: Bx b19 28 [.slice A37 xs40.length c39] :: Bx b70 31 [.int .i64 ((rd l_ v41).Do), .int .i64 ((rd l_ v41).Origin), .int .i64 ((rd l_ v41).Life), .int .i64 ((rd l_ v41).f_N), .slice ((ads7 (Int.toNat v41)).1) (((rd l_ v41).Used).length) ((ads7 (Int.toNat v41)).2)] :: Row K3 (.slice (vA ((η838 11).1)) y845.length (vC ((η838 11).1))) xs939 :: Γ) w) hl943 ⟨0, y845, [], rfl, rfl, rfl, upk (ac rfl (ac rfl (ac rfl (ac rfl (ac rfl (ac rfl (ac rfl (ac rfl an)))))))), H937.u5.u5.u5.u5.u5⟩ ?_
                      rintro m ys948 IH952 s ρ w ⟨i944, xs939, dn945, rfl, hxs946, hi947, ⟨base, rfl⟩, H940⟩ hm
                      rcases ys948 with _ | ⟨y949, ys948⟩
                      · rw [scutagelaw13_VintagePlays.l2] at hm
                        have hb953 := range_end hxs946 hi947
                        refine st_seq ?_
                        refine st_region ?_
                        refine r_pure (.bool (decide (i944 < (y845.length : Int)))) rfl ?_
                        refine r_seq ?_
                        refine st_seq ?_
                        refine st_condf hb953 rfl ?_
                        have hq_ := Option.some.inj hm
                        refine st_exit rfl ?_
                        subst hq_
                        refine n_sq ?_
                        refine st_seq ?_
                        refine st_region ?_
                        refine r_pure (.slice (vA ((η838 11).1)) y845.length (vC ((η838 11).1))) rfl ?_
                        obtain ⟨y960, hy961, hm⟩ := bind_some hm941
                        refine r_callf Try.call17 (scutagekeep_Copy_int_ok xs939 (vA ((η838 11).1)) y845.length (vC ((η838 11).1)) (((H940).g5).leneq) (((H940).g5).cap) (fun _ H => (H.g5.rd)) y960 H940 hy961) ?_
                        rintro e963 wd962 ⟨A966, n967, c968, rfl, H965⟩
                        obtain rfl := (H965.g0).leneq
                        refine ⟨_, rfl, ?_⟩
                        refine r_pure (.slice A966 y960.length c968) rfl ?_
                        refine r_seq ?_
                        refine st_cut (fun ρ w => ∃ A969 : Option Addr, ∃ n970 : Nat, ∃ c971 : Nat, ∃ A973 : Option Addr, ∃ n974 : Nat, ∃ c975 : Nat, ∃ xs972 : List api_Vintage, ∃ xs976 : List api_Vintage, ∃ q977 : Bool, (∃ base, ρ = updl base [(0, .slice A1 l_.length c2), (3, .pointer (some ⟨b15, 0, none⟩)), (4, .pointer (some ⟨b19, 0, none⟩)), (5, .int .i64 v41), (132, .bool q977)]) ∧ Hp w0 (Row K38 (.slice A969 n970 c971) xs972 :: Bx b15 75 [.slice A969 n970 c971] :: Row K38 (.slice A973 n974 c975) xs976 :: Bx b19 28 [.slice A973 n974 c975] :: Γ) w ∧ scutagelaw13_VintagePlays.j8 (scutagelaw13_VintagePlays.l1 l_ fuel51) v41 xs972 xs976 q977 = some tl44) ?_ ?_
                        · refine st_region ?_
                          refine r_pure (.pointer (some ⟨b15, 0, none⟩)) rfl ?_
                          refine r_pure (.slice (vA ((η838 11).1)) y845.length (vC ((η838 11).1))) rfl ?_
                          obtain ⟨⟨y1212, y1213⟩, hy1214, hm⟩ := bind_some hm
                          refine r_callf Try.call18 (vintage_Losses_Take_ok b15 (⟨xs35⟩ : vintage_Losses) A32 c34 xs939 (vA ((η838 11).1)) y845.length (vC ((η838 11).1)) (((H965.u1.u2.d.d).g4).leneq) (((H965.u1.u2.d.d).g4).cap) (fun _ H => (H.g4.rd)) y1212 y1213 H965.u1.u2 hy1214) ?_
                          rintro e1216 wd1215 ⟨A1219, n1220, c1221, rfl, H1218⟩
                          obtain rfl := (H1218.g1).leneq
                          refine ⟨_, rfl, ?_⟩
                          refine r_pure (.pointer (some ⟨b19, 0, none⟩)) rfl ?_
                          refine r_pure (.slice (vA ((η838 11).1)) y845.length (vC ((η838 11).1))) rfl ?_
                          obtain ⟨⟨y1222, y1223⟩, hy1224, hm⟩ := bind_some hm
                          refine r_callf Try.call19 (scutageref09_Losses_Take_ok b19 (⟨xs40⟩ : scutageref09_Losses) A37 c39 xs939 (vA ((η838 11).1)) y845.length (vC ((η838 11).1)) (((H1218.u3.u4.d.d).g4).leneq) (((H1218.u3.u4.d.d).g4).cap) (fun _ H => (H.g4.rd)) y1222 y1223 H1218.u3.u4 hy1224) ?_
                          rintro e1226 wd1225 ⟨A1229, n1230, c1231, rfl, H1228⟩
                          obtain rfl := (H1228.g1).leneq
                          refine ⟨_, rfl, ?_⟩
                          refine r_pure (.bool (y1212 != y1222)) rfl ?_
                          refine r_pure (.bool (y1212 != y1222)) rfl ?_
                          rcases ite_some hm with ⟨hb1232, hm⟩ | ⟨hb1232, hm⟩
                          · refine r_not (wn_f rfl rfl (by decide) rfl hb1232) ?_
                            refine r_not (wn_f rfl rfl (by decide) rfl hb1232) ?_
                            refine r_not (wn_f rfl rfl (by decide) rfl hb1232) ?_
                            refine r_not (wn_f rfl rfl (by decide) rfl hb1232) ?_
                            refine r_pick_t (.bool true) hb1232 rfl rfl ?_
                            refine r_nil ?_
                            refine n_cut ⟨A1219, y1213.f_l.length, c1221, A1229, y1223.V.length, c1231, y1213.f_l, y1223.V, true, upk (ac rfl (ac rfl (ac rfl (ac rfl (ac rfl an))))), H1228.u4.d.u4.d.u4.d.u1.u2.u3, hm⟩
                          · refine r_pure (.slice (vA ((η838 11).1)) y845.length (vC ((η838 11).1))) rfl ?_ (wn_t rfl rfl (by decide) rfl hb1232)
                            refine r_pure (.slice A966 y960.length c968) rfl ?_ (wn_t rfl rfl (by decide) rfl hb1232)
                            obtain ⟨y1233, hy1234, hm⟩ := bind_some hm
                            refine r_callf Try.call20 (scutagekeep_Same_int_ok xs939 (vA ((η838 11).1)) y845.length (vC ((η838 11).1)) (((H1228).g6).leneq) (((H1228).g6).cap) (fun _ H => (H.g6.rd)) y960 A966 y960.length c968 rfl (((H1228).g4).cap) (fun _ H => (H.g4.rd)) y1233 H1228 hy1234) ?_ (wn_t rfl rfl (by decide) rfl hb1232)
                            rintro e1236 wd1235 ⟨rfl, H1238⟩
                            refine ⟨_, rfl, ?_⟩
                            refine r_pure (.bool (!y1233)) rfl ?_ (wn_t rfl rfl (by decide) rfl hb1232)
                            refine r_pick_f (.bool (!y1233)) hb1232 rfl rfl ?_
                            refine r_nil ?_
                            refine n_cut ⟨A1219, y1213.f_l.length, c1221, A1229, y1223.V.length, c1231, y1213.f_l, y1223.V, !y1233, upk (ac rfl (ac rfl (ac rfl (ac rfl (ac rfl an))))), H1238.u4.d.u4.d.u4.d.u1.u2.u3, hm⟩
                        · rintro ρ w ⟨A969, n970, c971, A973, n974, c975, xs972, xs976, q977, ⟨base, rfl⟩, H978, hm⟩
                          obtain rfl := (H978.g0).leneq
                          obtain rfl := (H978.g2).leneq
                          unfold scutagelaw13_VintagePlays.j8 at hm
                          rcases ite_some hm with ⟨hb979, hm⟩ | ⟨hb979, hm⟩
                          · refine st_condt hb979 rfl ?_
                            refine st_seq ?_
                            refine st_region ?_
                            refine r_pure (.bool false) rfl ?_
                            refine r_seq ?_
                            have hq_ := Option.some.inj hm
                            subst hq_
                            have hq_ := Option.some.inj (show some (false : Bool) = some r0_ from hm43)
                            subst hq_
                            refine st_ret1 rfl rfl (Nat.le_of_ble_eq_true rfl) rfl ?_
                            exact ⟨rfl, H978.d.d.d.d⟩
                          · refine st_condf hb979 rfl ?_
                            refine st_skip ?_
                            refine n_bl ?_
                            refine n_sq ?_
                            refine st_cut (fun ρ w => ∃ q980 : Bool, (∃ base, ρ = updl base [(0, .slice A1 l_.length c2), (3, .pointer (some ⟨b15, 0, none⟩)), (4, .pointer (some ⟨b19, 0, none⟩)), (5, .int .i64 v41), (176, .bool q980)]) ∧ Hp w0 (Row K38 (.slice A969 xs972.length c971) xs972 :: Bx b15 75 [.slice A969 xs972.length c971] :: Row K38 (.slice A973 xs976.length c975) xs976 :: Bx b19 28 [.slice A973 xs976.length c975] :: Γ) w ∧ scutagelaw13_VintagePlays.j9 (scutagelaw13_VintagePlays.l1 l_ fuel51) v41 xs972 xs976 q980 = some tl44) ?_ ?_
                            · obtain ⟨y984, hy985, hm⟩ := bind_some hm
                              obtain ⟨y993, hy994, hm⟩ := bind_some hm
                              rcases ite_some hm with ⟨hb999, hm⟩ | ⟨hb999, hm⟩
                              · refine Flow.run' [[], [0], [], [2], [2, 3], [2, 3, 4], [0, 1, 2, 3, 4, 5], [0, 1, 2, 3, 4, 5, 6], [0, 1, 2, 3, 4, 5, 6, 7], [0, 1, 2, 3, 4, 5, 6, 7, 8], [0, 1, 2, 3, 4, 5, 6, 7, 8, 9], [0, 1, 2, 3, 4, 5, 6, 7, 8], [0, 1, 2, 3, 4, 5, 6, 7, 8, 9, 10, 11], [0, 1, 2, 3, 4, 5, 6, 7, 8, 9, 10, 11, 12], [0, 1, 2, 3, 4, 5, 6, 7, 8, 9, 10, 11, 12, 13]] [(162, 0), (163, 1), (164, 2), (165, 3), (166, 4), (167, 5), (168, 6), (169, 7), (170, 8), (171, 9), (172, 10), (173, 11), (174, 12), (175, 13), (176, 14)] [(fun η983 v => v.1 = .pointer (some ⟨b15, 0, none⟩)), (fun η983 v => v.1 = .slice (vA (v.1)) y984.length (vC (v.1))), (fun η983 v => v.1 = .pointer (some ⟨b19, 0, none⟩)), (fun η983 v => v.1 = .pointer (some ⟨b19, 0, none⟩)), (fun η983 v => v.1 = .pointer (some ⟨b19, 0, none⟩)), (fun η983 v => v.1 = .slice A973 xs976.length c975), (fun η983 v => v.1 = .bool y993), (fun η983 v => v.1 = .bool (!y993)), (fun η983 v => v.1 = .bool (!y993)), (fun η983 v => v.1 = undef), (fun η983 v => v.1 = undef), (fun η983 v => v.1 = undef), (fun η983 v => v.1 = undef), (fun η983 v => v.1 = undef), (fun η983 v => v.1 = .bool true)] [⟨(some 1), none, fun η983 => Row K38 (.slice (vA ((η983 1).1)) y984.length (vC ((η983 1).1))) y984⟩] rfl (by kernel_rfl) (by kernel_rfl) H978 ⟨?_, ?_, ?_, ?_, ?_, ?_, ?_, ?_, ?_, ?_, ?_, ?_, ?_, ?_, ?_, trivial⟩ ?_
                                · intro η983 wd1003 Δ1004 hE1000 hR1001 H1002
                                  have H1002 : Hp w0 ((Δ1004 ++ (Row K38 (.slice A969 xs972.length c971) xs972 :: Bx b15 75 [.slice A969 xs972.length c971] :: Row K38 (.slice A973 xs976.length c975) xs976 :: Bx b19 28 [.slice A973 xs976.length c975] :: Γ))) wd1003 := H1002
                                  refine sp_op [(3, .pointer (some ⟨b15, 0, none⟩))] (ac rfl an) ?_
                                  refine r_pure (.pointer (some ⟨b15, 0, none⟩)) rfl ?_
                                  exact r_nil (n_lp ⟨_, rfl, undef, rfl, H1002⟩)
                                · intro η983 wd1008 Δ1009 hE1005 hR1006 H1007
                                  have H1007 : Hp w0 ((Δ1009 ++ (Row K38 (.slice A969 xs972.length c971) xs972 :: Bx b15 75 [.slice A969 xs972.length c971] :: Row K38 (.slice A973 xs976.length c975) xs976 :: Bx b19 28 [.slice A973 xs976.length c975] :: Γ))) wd1008 := H1007
                                  refine sp_op [(162, .pointer (some ⟨b15, 0, none⟩))] (ac (hE1005 0 (by decide)) an) ?_
                                  refine r_callf Try.call22 (vintage_Losses_Rows_ok b15 (⟨xs972⟩ : vintage_Losses) A969 xs972.length c971 rfl ((((H1007)).tl.g0).cap) (fun _ H => ((H).tl.g0.rd)) (fun _ H => ((H).tl.g1)) y984 H1007 hy985) ?_
                                  rintro e1013 wd1012 ⟨A1016, n1017, c1018, rfl, H1015⟩
                                  obtain rfl := (H1015.g0).leneq
                                  refine ⟨_, rfl, ?_⟩
                                  exact r_nil (n_lp ⟨_, rfl, (.tuple #[.slice A1016 y984.length c1018]), rfl, H1015⟩)
                                · intro η983 wd1022 Δ1023 hE1019 hR1020 H1021
                                  have H1021 : Hp w0 ((Δ1023 ++ (Row K38 (.slice A969 xs972.length c971) xs972 :: Bx b15 75 [.slice A969 xs972.length c971] :: Row K38 (.slice A973 xs976.length c975) xs976 :: Bx b19 28 [.slice A973 xs976.length c975] :: Γ))) wd1022 := H1021
                                  refine sp_op [(4, .pointer (some ⟨b19, 0, none⟩))] (ac rfl an) ?_
                                  refine r_pure (.pointer (some ⟨b19, 0, none⟩)) rfl ?_
                                  exact r_nil (n_lp ⟨_, rfl, undef, rfl, H1021⟩)
                                · intro η983 wd1027 Δ1028 hE1024 hR1025 H1026
                                  have H1026 : Hp w0 ((Δ1028 ++ (Row K38 (.slice A969 xs972.length c971) xs972 :: Bx b15 75 [.slice A969 xs972.length c971] :: Row K38 (.slice A973 xs976.length c975) xs976 :: Bx b19 28 [.slice A973 xs976.length c975] :: Γ))) wd1027 := H1026
                                  refine sp_op [(164, .pointer (some ⟨b19, 0, none⟩))] (ac (hE1024 2 (by decide)) an) ?_
                                  refine r_pure (.pointer (some ⟨b19, 0, none⟩)) rfl ?_
                                  exact r_nil (n_lp ⟨_, rfl, undef, rfl, H1026⟩)
                                · intro η983 wd1032 Δ1033 hE1029 hR1030 H1031
                                  have H1031 : Hp w0 ((Δ1033 ++ (Row K38 (.slice A969 xs972.length c971) xs972 :: Bx b15 75 [.slice A969 xs972.length c971] :: Row K38 (.slice A973 xs976.length c975) xs976 :: Bx b19 28 [.slice A973 xs976.length c975] :: Γ))) wd1032 := H1031
                                  refine sp_op [(165, .pointer (some ⟨b19, 0, none⟩))] (ac (hE1029 3 (by decide)) an) ?_
                                  refine r_fa FA28_0 ⟨b19, 0, none⟩ rfl rfl ?_
                                  exact r_nil (n_lp ⟨_, rfl, undef, rfl, H1031⟩)
                                · intro η983 wd1037 Δ1038 hE1034 hR1035 H1036
                                  have H1036 : Hp w0 ((Δ1038 ++ (Row K38 (.slice A969 xs972.length c971) xs972 :: Bx b15 75 [.slice A969 xs972.length c971] :: Row K38 (.slice A973 xs976.length c975) xs976 :: Bx b19 28 [.slice A973 xs976.length c975] :: Γ))) wd1037 := H1036
                                  refine sp_op [(166, .pointer (some ⟨b19, 0, none⟩))] (ac (hE1034 4 (by decide)) an) ?_
                                  refine r_ld1 (.slice A973 xs976.length c975) LD26 rfl (((H1036).tl.g3).cell _ rfl) ?_
                                  exact r_nil (n_lp ⟨_, rfl, undef, rfl, H1036⟩)
                                · intro η983 wd1042 Δ1043 hE1039 hR1040 H1041
                                  have H1041 : Hp w0 ((Δ1043 ++ (Row K38 (.slice A969 xs972.length c971) xs972 :: Bx b15 75 [.slice A969 xs972.length c971] :: Row K38 (.slice A973 xs976.length c975) xs976 :: Bx b19 28 [.slice A973 xs976.length c975] :: Γ))) wd1042 := H1041
                                  refine sp_op [(163, .slice (vA ((η983 1).1)) y984.length (vC ((η983 1).1))), (167, .slice A973 xs976.length c975)] (ac (hE1039 1 (by decide)) (ac (hE1039 5 (by decide)) an)) ?_
                                  refine r_callf Try.call21 (scutagekeep_Same_api_Vintage_ok y984 (vA ((η983 1).1)) y984.length (vC ((η983 1).1)) rfl (((show (Row K38 (.slice (vA ((η983 1).1)) y984.length (vC ((η983 1).1))) y984) _ from ((H1041)).memr (hR1040 _ (List.mem_of_getElem? (i := 0) rfl) rfl))).cap) (fun _ H => ((show (Row K38 (.slice (vA ((η983 1).1)) y984.length (vC ((η983 1).1))) y984) _ from (H).memr (hR1040 _ (List.mem_of_getElem? (i := 0) rfl) rfl)).rd)) xs976 A973 xs976.length c975 rfl ((((H1041)).tl.g2).cap) (fun _ H => ((H).tl.g2.rd)) y993 H1041 hy994) ?_
                                  rintro e1047 wd1046 ⟨rfl, H1049⟩
                                  refine ⟨_, rfl, ?_⟩
                                  exact r_nil (n_lp ⟨_, rfl, undef, rfl, H1049⟩)
                                · intro η983 wd1053 Δ1054 hE1050 hR1051 H1052
                                  have H1052 : Hp w0 ((Δ1054 ++ (Row K38 (.slice A969 xs972.length c971) xs972 :: Bx b15 75 [.slice A969 xs972.length c971] :: Row K38 (.slice A973 xs976.length c975) xs976 :: Bx b19 28 [.slice A973 xs976.length c975] :: Γ))) wd1053 := H1052
                                  refine sp_op [(168, .bool y993)] (ac (hE1050 6 (by decide)) an) ?_
                                  refine r_pure (.bool (!y993)) rfl ?_
                                  exact r_nil (n_lp ⟨_, rfl, undef, rfl, H1052⟩)
                                · intro η983 wd1058 Δ1059 hE1055 hR1056 H1057
                                  have H1057 : Hp w0 ((Δ1059 ++ (Row K38 (.slice A969 xs972.length c971) xs972 :: Bx b15 75 [.slice A969 xs972.length c971] :: Row K38 (.slice A973 xs976.length c975) xs976 :: Bx b19 28 [.slice A973 xs976.length c975] :: Γ))) wd1058 := H1057
                                  refine sp_op [(169, .bool (!y993))] (ac (hE1055 7 (by decide)) an) ?_
                                  refine r_pure (.bool (!y993)) rfl ?_
                                  exact r_nil (n_lp ⟨_, rfl, undef, rfl, H1057⟩)
                                · intro η983 wd1063 Δ1064 hE1060 hR1061 H1062
                                  have H1062 : Hp w0 ((Δ1064 ++ (Row K38 (.slice A969 xs972.length c971) xs972 :: Bx b15 75 [.slice A969 xs972.length c971] :: Row K38 (.slice A973 xs976.length c975) xs976 :: Bx b19 28 [.slice A973 xs976.length c975] :: Γ))) wd1063 := H1062
                                  refine sp_op [(3, .pointer (some ⟨b15, 0, none⟩)), (170, .bool (!y993))] (ac rfl (ac (hE1060 8 (by decide)) an)) ?_
                                  refine r_not (wn_f rfl rfl (by decide) rfl hb999) ?_
                                  exact r_nil (n_lp ⟨_, rfl, undef, rfl, H1062⟩)
                                · intro η983 wd1068 Δ1069 hE1065 hR1066 H1067
                                  have H1067 : Hp w0 ((Δ1069 ++ (Row K38 (.slice A969 xs972.length c971) xs972 :: Bx b15 75 [.slice A969 xs972.length c971] :: Row K38 (.slice A973 xs976.length c975) xs976 :: Bx b19 28 [.slice A973 xs976.length c975] :: Γ))) wd1068 := H1067
                                  refine sp_op [(170, .bool (!y993)), (171, undef)] (ac (hE1065 8 (by decide)) (ac (hE1065 9 (by decide)) an)) ?_
                                  refine r_not (wn_f rfl rfl (by decide) rfl hb999) ?_
                                  exact r_nil (n_lp ⟨_, rfl, undef, rfl, H1067⟩)
                                · intro η983 wd1073 Δ1074 hE1070 hR1071 H1072
                                  have H1072 : Hp w0 ((Δ1074 ++ (Row K38 (.slice A969 xs972.length c971) xs972 :: Bx b15 75 [.slice A969 xs972.length c971] :: Row K38 (.slice A973 xs976.length c975) xs976 :: Bx b19 28 [.slice A973 xs976.length c975] :: Γ))) wd1073 := H1072
                                  refine sp_op [(4, .pointer (some ⟨b19, 0, none⟩)), (170, .bool (!y993))] (ac rfl (ac (hE1070 8 (by decide)) an)) ?_
                                  refine r_not (wn_f rfl rfl (by decide) rfl hb999) ?_
                                  exact r_nil (n_lp ⟨_, rfl, undef, rfl, H1072⟩)
                                · intro η983 wd1078 Δ1079 hE1075 hR1076 H1077
                                  have H1077 : Hp w0 ((Δ1079 ++ (Row K38 (.slice A969 xs972.length c971) xs972 :: Bx b15 75 [.slice A969 xs972.length c971] :: Row K38 (.slice A973 xs976.length c975) xs976 :: Bx b19 28 [.slice A973 xs976.length c975] :: Γ))) wd1078 := H1077
                                  refine sp_op [(170, .bool (!y993)), (173, undef)] (ac (hE1075 8 (by decide)) (ac (hE1075 11 (by decide)) an)) ?_
                                  refine r_not (wn_f rfl rfl (by decide) rfl hb999) ?_
                                  exact r_nil (n_lp ⟨_, rfl, undef, rfl, H1077⟩)
                                · intro η983 wd1083 Δ1084 hE1080 hR1081 H1082
                                  have H1082 : Hp w0 ((Δ1084 ++ (Row K38 (.slice A969 xs972.length c971) xs972 :: Bx b15 75 [.slice A969 xs972.length c971] :: Row K38 (.slice A973 xs976.length c975) xs976 :: Bx b19 28 [.slice A973 xs976.length c975] :: Γ))) wd1083 := H1082
                                  refine sp_op [(170, .bool (!y993)), (172, undef), (174, undef)] (ac (hE1080 8 (by decide)) (ac (hE1080 10 (by decide)) (ac (hE1080 12 (by decide)) an))) ?_
                                  refine r_not (wn_f rfl rfl (by decide) rfl hb999) ?_
                                  exact r_nil (n_lp ⟨_, rfl, undef, rfl, H1082⟩)
                                · intro η983 wd1088 Δ1089 hE1085 hR1086 H1087
                                  have H1087 : Hp w0 ((Δ1089 ++ (Row K38 (.slice A969 xs972.length c971) xs972 :: Bx b15 75 [.slice A969 xs972.length c971] :: Row K38 (.slice A973 xs976.length c975) xs976 :: Bx b19 28 [.slice A973 xs976.length c975] :: Γ))) wd1088 := H1087
                                  refine sp_op [(170, .bool (!y993)), (175, undef)] (ac (hE1085 8 (by decide)) (ac (hE1085 13 (by decide)) an)) ?_
                                  refine r_pick_t (.bool true) hb999 rfl rfl ?_
                                  exact r_nil (n_lp ⟨_, rfl, undef, rfl, H1087⟩)
                                · intro η983 wd1091 hV1092 H1090
                                  have H1093 : Hp w0 (Row K38 (.slice (vA ((η983 1).1)) y984.length (vC ((η983 1).1))) y984 :: Row K38 (.slice A969 xs972.length c971) xs972 :: Bx b15 75 [.slice A969 xs972.length c971] :: Row K38 (.slice A973 xs976.length c975) xs976 :: Bx b19 28 [.slice A973 xs976.length c975] :: Γ) wd1091 := H1090
                                  refine n_frame [(0, .slice A1 l_.length c2), (3, .pointer (some ⟨b15, 0, none⟩)), (4, .pointer (some ⟨b19, 0, none⟩)), (5, .int .i64 v41), (176, .bool true)] (ac rfl (ac rfl (ac rfl (ac rfl (ac (hV1092 14 rfl) an))))) ?_
                                  refine n_cut ⟨true, upk (ac rfl (ac rfl (ac rfl (ac rfl (ac rfl an))))), H1093.d.u3.u3.u3.u3, hm⟩
                              · obtain ⟨y1094, hy1095, hm⟩ := bind_some hm
                                obtain ⟨y1100, hy1101, hm⟩ := bind_some hm
                                refine Flow.run' [[], [0], [], [2], [2, 3], [2, 3, 4], [0, 1, 2, 3, 4, 5], [0, 1, 2, 3, 4, 5, 6], [0, 1, 2, 3, 4, 5, 6, 7], [0, 1, 2, 3, 4, 5, 6, 7, 8], [0, 1, 2, 3, 4, 5, 6, 7, 8, 9], [0, 1, 2, 3, 4, 5, 6, 7, 8], [0, 1, 2, 3, 4, 5, 6, 7, 8, 9, 10, 11], [0, 1, 2, 3, 4, 5, 6, 7, 8, 9, 10, 11, 12], [0, 1, 2, 3, 4, 5, 6, 7, 8, 9, 10, 11, 12, 13]] [(162, 0), (163, 1), (164, 2), (165, 3), (166, 4), (167, 5), (168, 6), (169, 7), (170, 8), (171, 9), (172, 10), (173, 11), (174, 12), (175, 13), (176, 14)] [(fun η983 v => v.1 = .pointer (some ⟨b15, 0, none⟩)), (fun η983 v => v.1 = .slice (vA (v.1)) y984.length (vC (v.1))), (fun η983 v => v.1 = .pointer (some ⟨b19, 0, none⟩)), (fun η983 v => v.1 = .pointer (some ⟨b19, 0, none⟩)), (fun η983 v => v.1 = .pointer (some ⟨b19, 0, none⟩)), (fun η983 v => v.1 = .slice A973 xs976.length c975), (fun η983 v => v.1 = .bool y993), (fun η983 v => v.1 = .bool (!y993)), (fun η983 v => v.1 = .bool (!y993)), (fun η983 v => v.1 = .pointer (some ⟨b15, 0, none⟩)), (fun η983 v => v.1 = .int .i64 y1094), (fun η983 v => v.1 = .pointer (some ⟨b19, 0, none⟩)), (fun η983 v => v.1 = .int .i64 y1100), (fun η983 v => v.1 = .bool (y1094 != y1100)), (fun η983 v => v.1 = .bool (y1094 != y1100))] [⟨(some 1), none, fun η983 => Row K38 (.slice (vA ((η983 1).1)) y984.length (vC ((η983 1).1))) y984⟩] rfl (by kernel_rfl) (by kernel_rfl) H978 ⟨?_, ?_, ?_, ?_, ?_, ?_, ?_, ?_, ?_, ?_, ?_, ?_, ?_, ?_, ?_, trivial⟩ ?_
                                · intro η983 wd1109 Δ1110 hE1106 hR1107 H1108
                                  have H1108 : Hp w0 ((Δ1110 ++ (Row K38 (.slice A969 xs972.length c971) xs972 :: Bx b15 75 [.slice A969 xs972.length c971] :: Row K38 (.slice A973 xs976.length c975) xs976 :: Bx b19 28 [.slice A973 xs976.length c975] :: Γ))) wd1109 := H1108
                                  refine sp_op [(3, .pointer (some ⟨b15, 0, none⟩))] (ac rfl an) ?_
                                  refine r_pure (.pointer (some ⟨b15, 0, none⟩)) rfl ?_
                                  exact r_nil (n_lp ⟨_, rfl, undef, rfl, H1108⟩)
                                · intro η983 wd1114 Δ1115 hE1111 hR1112 H1113
                                  have H1113 : Hp w0 ((Δ1115 ++ (Row K38 (.slice A969 xs972.length c971) xs972 :: Bx b15 75 [.slice A969 xs972.length c971] :: Row K38 (.slice A973 xs976.length c975) xs976 :: Bx b19 28 [.slice A973 xs976.length c975] :: Γ))) wd1114 := H1113
                                  refine sp_op [(162, .pointer (some ⟨b15, 0, none⟩))] (ac (hE1111 0 (by decide)) an) ?_
                                  refine r_callf Try.call22 (vintage_Losses_Rows_ok b15 (⟨xs972⟩ : vintage_Losses) A969 xs972.length c971 rfl ((((H1113)).tl.g0).cap) (fun _ H => ((H).tl.g0.rd)) (fun _ H => ((H).tl.g1)) y984 H1113 hy985) ?_
                                  rintro e1119 wd1118 ⟨A1122, n1123, c1124, rfl, H1121⟩
                                  obtain rfl := (H1121.g0).leneq
                                  refine ⟨_, rfl, ?_⟩
                                  exact r_nil (n_lp ⟨_, rfl, (.tuple #[.slice A1122 y984.length c1124]), rfl, H1121⟩)
                                · intro η983 wd1128 Δ1129 hE1125 hR1126 H1127
                                  have H1127 : Hp w0 ((Δ1129 ++ (Row K38 (.slice A969 xs972.length c971) xs972 :: Bx b15 75 [.slice A969 xs972.length c971] :: Row K38 (.slice A973 xs976.length c975) xs976 :: Bx b19 28 [.slice A973 xs976.length c975] :: Γ))) wd1128 := H1127
                                  refine sp_op [(4, .pointer (some ⟨b19, 0, none⟩))] (ac rfl an) ?_
                                  refine r_pure (.pointer (some ⟨b19, 0, none⟩)) rfl ?_
                                  exact r_nil (n_lp ⟨_, rfl, undef, rfl, H1127⟩)
                                · intro η983 wd1133 Δ1134 hE1130 hR1131 H1132
                                  have H1132 : Hp w0 ((Δ1134 ++ (Row K38 (.slice A969 xs972.length c971) xs972 :: Bx b15 75 [.slice A969 xs972.length c971] :: Row K38 (.slice A973 xs976.length c975) xs976 :: Bx b19 28 [.slice A973 xs976.length c975] :: Γ))) wd1133 := H1132
                                  refine sp_op [(164, .pointer (some ⟨b19, 0, none⟩))] (ac (hE1130 2 (by decide)) an) ?_
                                  refine r_pure (.pointer (some ⟨b19, 0, none⟩)) rfl ?_
                                  exact r_nil (n_lp ⟨_, rfl, undef, rfl, H1132⟩)
                                · intro η983 wd1138 Δ1139 hE1135 hR1136 H1137
                                  have H1137 : Hp w0 ((Δ1139 ++ (Row K38 (.slice A969 xs972.length c971) xs972 :: Bx b15 75 [.slice A969 xs972.length c971] :: Row K38 (.slice A973 xs976.length c975) xs976 :: Bx b19 28 [.slice A973 xs976.length c975] :: Γ))) wd1138 := H1137
                                  refine sp_op [(165, .pointer (some ⟨b19, 0, none⟩))] (ac (hE1135 3 (by decide)) an) ?_
                                  refine r_fa FA28_0 ⟨b19, 0, none⟩ rfl rfl ?_
                                  exact r_nil (n_lp ⟨_, rfl, undef, rfl, H1137⟩)
                                · intro η983 wd1143 Δ1144 hE1140 hR1141 H1142
                                  have H1142 : Hp w0 ((Δ1144 ++ (Row K38 (.slice A969 xs972.length c971) xs972 :: Bx b15 75 [.slice A969 xs972.length c971] :: Row K38 (.slice A973 xs976.length c975) xs976 :: Bx b19 28 [.slice A973 xs976.length c975] :: Γ))) wd1143 := H1142
                                  refine sp_op [(166, .pointer (some ⟨b19, 0, none⟩))] (ac (hE1140 4 (by decide)) an) ?_
                                  refine r_ld1 (.slice A973 xs976.length c975) LD26 rfl (((H1142).tl.g3).cell _ rfl) ?_
                                  exact r_nil (n_lp ⟨_, rfl, undef, rfl, H1142⟩)
                                · intro η983 wd1148 Δ1149 hE1145 hR1146 H1147
                                  have H1147 : Hp w0 ((Δ1149 ++ (Row K38 (.slice A969 xs972.length c971) xs972 :: Bx b15 75 [.slice A969 xs972.length c971] :: Row K38 (.slice A973 xs976.length c975) xs976 :: Bx b19 28 [.slice A973 xs976.length c975] :: Γ))) wd1148 := H1147
                                  refine sp_op [(163, .slice (vA ((η983 1).1)) y984.length (vC ((η983 1).1))), (167, .slice A973 xs976.length c975)] (ac (hE1145 1 (by decide)) (ac (hE1145 5 (by decide)) an)) ?_
                                  refine r_callf Try.call21 (scutagekeep_Same_api_Vintage_ok y984 (vA ((η983 1).1)) y984.length (vC ((η983 1).1)) rfl (((show (Row K38 (.slice (vA ((η983 1).1)) y984.length (vC ((η983 1).1))) y984) _ from ((H1147)).memr (hR1146 _ (List.mem_of_getElem? (i := 0) rfl) rfl))).cap) (fun _ H => ((show (Row K38 (.slice (vA ((η983 1).1)) y984.length (vC ((η983 1).1))) y984) _ from (H).memr (hR1146 _ (List.mem_of_getElem? (i := 0) rfl) rfl)).rd)) xs976 A973 xs976.length c975 rfl ((((H1147)).tl.g2).cap) (fun _ H => ((H).tl.g2.rd)) y993 H1147 hy994) ?_
                                  rintro e1153 wd1152 ⟨rfl, H1155⟩
                                  refine ⟨_, rfl, ?_⟩
                                  exact r_nil (n_lp ⟨_, rfl, undef, rfl, H1155⟩)
                                · intro η983 wd1159 Δ1160 hE1156 hR1157 H1158
                                  have H1158 : Hp w0 ((Δ1160 ++ (Row K38 (.slice A969 xs972.length c971) xs972 :: Bx b15 75 [.slice A969 xs972.length c971] :: Row K38 (.slice A973 xs976.length c975) xs976 :: Bx b19 28 [.slice A973 xs976.length c975] :: Γ))) wd1159 := H1158
                                  refine sp_op [(168, .bool y993)] (ac (hE1156 6 (by decide)) an) ?_
                                  refine r_pure (.bool (!y993)) rfl ?_
                                  exact r_nil (n_lp ⟨_, rfl, undef, rfl, H1158⟩)
                                · intro η983 wd1164 Δ1165 hE1161 hR1162 H1163
                                  have H1163 : Hp w0 ((Δ1165 ++ (Row K38 (.slice A969 xs972.length c971) xs972 :: Bx b15 75 [.slice A969 xs972.length c971] :: Row K38 (.slice A973 xs976.length c975) xs976 :: Bx b19 28 [.slice A973 xs976.length c975] :: Γ))) wd1164 := H1163
                                  refine sp_op [(169, .bool (!y993))] (ac (hE1161 7 (by decide)) an) ?_
                                  refine r_pure (.bool (!y993)) rfl ?_
                                  exact r_nil (n_lp ⟨_, rfl, undef, rfl, H1163⟩)
                                · intro η983 wd1169 Δ1170 hE1166 hR1167 H1168
                                  have H1168 : Hp w0 ((Δ1170 ++ (Row K38 (.slice A969 xs972.length c971) xs972 :: Bx b15 75 [.slice A969 xs972.length c971] :: Row K38 (.slice A973 xs976.length c975) xs976 :: Bx b19 28 [.slice A973 xs976.length c975] :: Γ))) wd1169 := H1168
                                  refine sp_op [(3, .pointer (some ⟨b15, 0, none⟩)), (170, .bool (!y993))] (ac rfl (ac (hE1166 8 (by decide)) an)) ?_
                                  refine r_pure (.pointer (some ⟨b15, 0, none⟩)) rfl ?_ (wn_t rfl rfl (by decide) rfl hb999)
                                  exact r_nil (n_lp ⟨_, rfl, undef, rfl, H1168⟩)
                                · intro η983 wd1174 Δ1175 hE1171 hR1172 H1173
                                  have H1173 : Hp w0 ((Δ1175 ++ (Row K38 (.slice A969 xs972.length c971) xs972 :: Bx b15 75 [.slice A969 xs972.length c971] :: Row K38 (.slice A973 xs976.length c975) xs976 :: Bx b19 28 [.slice A973 xs976.length c975] :: Γ))) wd1174 := H1173
                                  refine sp_op [(170, .bool (!y993)), (171, .pointer (some ⟨b15, 0, none⟩))] (ac (hE1171 8 (by decide)) (ac (hE1171 9 (by decide)) an)) ?_
                                  refine r_callf Try.call23 (vintage_Losses_Left_ok b15 (⟨xs972⟩ : vintage_Losses) A969 xs972.length c971 rfl ((((H1173)).tl.g0).cap) (fun _ H => ((H).tl.g0.rd)) (fun _ H => ((H).tl.g1)) y1094 H1173 hy1095) ?_ (wn_t rfl rfl (by decide) rfl hb999)
                                  rintro e1179 wd1178 ⟨rfl, H1181⟩
                                  refine ⟨_, rfl, ?_⟩
                                  exact r_nil (n_lp ⟨_, rfl, undef, rfl, H1181⟩)
                                · intro η983 wd1185 Δ1186 hE1182 hR1183 H1184
                                  have H1184 : Hp w0 ((Δ1186 ++ (Row K38 (.slice A969 xs972.length c971) xs972 :: Bx b15 75 [.slice A969 xs972.length c971] :: Row K38 (.slice A973 xs976.length c975) xs976 :: Bx b19 28 [.slice A973 xs976.length c975] :: Γ))) wd1185 := H1184
                                  refine sp_op [(4, .pointer (some ⟨b19, 0, none⟩)), (170, .bool (!y993))] (ac rfl (ac (hE1182 8 (by decide)) an)) ?_
                                  refine r_pure (.pointer (some ⟨b19, 0, none⟩)) rfl ?_ (wn_t rfl rfl (by decide) rfl hb999)
                                  exact r_nil (n_lp ⟨_, rfl, undef, rfl, H1184⟩)
                                · intro η983 wd1190 Δ1191 hE1187 hR1188 H1189
                                  have H1189 : Hp w0 ((Δ1191 ++ (Row K38 (.slice A969 xs972.length c971) xs972 :: Bx b15 75 [.slice A969 xs972.length c971] :: Row K38 (.slice A973 xs976.length c975) xs976 :: Bx b19 28 [.slice A973 xs976.length c975] :: Γ))) wd1190 := H1189
                                  refine sp_op [(170, .bool (!y993)), (173, .pointer (some ⟨b19, 0, none⟩))] (ac (hE1187 8 (by decide)) (ac (hE1187 11 (by decide)) an)) ?_
                                  refine r_callf Try.call24 (scutageref09_Losses_Left_ok b19 (⟨xs976⟩ : scutageref09_Losses) A973 xs976.length c975 rfl ((((H1189)).tl.g2).cap) (fun _ H => ((H).tl.g2.rd)) (fun _ H => ((H).tl.g3)) y1100 H1189 hy1101) ?_ (wn_t rfl rfl (by decide) rfl hb999)
                                  rintro e1195 wd1194 ⟨rfl, H1197⟩
                                  refine ⟨_, rfl, ?_⟩
                                  exact r_nil (n_lp ⟨_, rfl, undef, rfl, H1197⟩)
                                · intro η983 wd1201 Δ1202 hE1198 hR1199 H1200
                                  have H1200 : Hp w0 ((Δ1202 ++ (Row K38 (.slice A969 xs972.length c971) xs972 :: Bx b15 75 [.slice A969 xs972.length c971] :: Row K38 (.slice A973 xs976.length c975) xs976 :: Bx b19 28 [.slice A973 xs976.length c975] :: Γ))) wd1201 := H1200
                                  refine sp_op [(170, .bool (!y993)), (172, .int .i64 y1094), (174, .int .i64 y1100)] (ac (hE1198 8 (by decide)) (ac (hE1198 10 (by decide)) (ac (hE1198 12 (by decide)) an))) ?_
                                  refine r_pure (.bool (y1094 != y1100)) rfl ?_ (wn_t rfl rfl (by decide) rfl hb999)
                                  exact r_nil (n_lp ⟨_, rfl, undef, rfl, H1200⟩)
                                · intro η983 wd1206 Δ1207 hE1203 hR1204 H1205
                                  have H1205 : Hp w0 ((Δ1207 ++ (Row K38 (.slice A969 xs972.length c971) xs972 :: Bx b15 75 [.slice A969 xs972.length c971] :: Row K38 (.slice A973 xs976.length c975) xs976 :: Bx b19 28 [.slice A973 xs976.length c975] :: Γ))) wd1206 := H1205
                                  refine sp_op [(170, .bool (!y993)), (175, .bool (y1094 != y1100))] (ac (hE1203 8 (by decide)) (ac (hE1203 13 (by decide)) an)) ?_
                                  refine r_pick_f (.bool (y1094 != y1100)) hb999 rfl rfl ?_
                                  exact r_nil (n_lp ⟨_, rfl, undef, rfl, H1205⟩)
                                · intro η983 wd1209 hV1210 H1208
                                  have H1211 : Hp w0 (Row K38 (.slice (vA ((η983 1).1)) y984.length (vC ((η983 1).1))) y984 :: Row K38 (.slice A969 xs972.length c971) xs972 :: Bx b15 75 [.slice A969 xs972.length c971] :: Row K38 (.slice A973 xs976.length c975) xs976 :: Bx b19 28 [.slice A973 xs976.length c975] :: Γ) wd1209 := H1208
                                  refine n_frame [(0, .slice A1 l_.length c2), (3, .pointer (some ⟨b15, 0, none⟩)), (4, .pointer (some ⟨b19, 0, none⟩)), (5, .int .i64 v41), (171, .pointer (some ⟨b15, 0, none⟩)), (172, .int .i64 y1094), (173, .pointer (some ⟨b19, 0, none⟩)), (174, .int .i64 y1100), (175, .bool (y1094 != y1100)), (176, .bool (y1094 != y1100))] (ac rfl (ac rfl (ac rfl (ac rfl (ac (hV1210 9 rfl) (ac (hV1210 10 rfl) (ac (hV1210 11 rfl) (ac (hV1210 12 rfl) (ac (hV1210 13 rfl) (ac (hV1210 14 rfl) an)))))))))) ?_
                                  refine n_cut ⟨y1094 != y1100, upk (ac rfl (ac rfl (ac rfl (ac rfl (ac rfl an))))), H1211.d.u3.u3.u3.u3, hm⟩
                            · rintro ρ w ⟨q980, ⟨base, rfl⟩, H981, hm⟩
                              unfold scutagelaw13_VintagePlays.j9 at hm
                              rcases ite_some hm with ⟨hb982, hm⟩ | ⟨hb982, hm⟩
                              · refine st_condt hb982 rfl ?_
                                refine st_seq ?_
                                refine st_region ?_
                                refine r_pure (.bool false) rfl ?_
                                refine r_seq ?_
                                have hq_ := Option.some.inj hm
                                subst hq_
                                have hq_ := Option.some.inj (show some (false : Bool) = some r0_ from hm43)
                                subst hq_
                                refine st_ret1 rfl rfl (Nat.le_of_ble_eq_true rfl) rfl ?_
                                exact ⟨rfl, H981.d.d.d.d⟩
                              · refine st_condf hb982 rfl ?_
                                refine st_skip ?_
                                refine n_bl ?_
                                refine n_cut ⟨A969, xs972.length, c971, A973, xs976.length, c975, xs972, xs976, upk (ac rfl (ac rfl (ac rfl (ac rfl an)))), H981.u3.u3.u3.u3, hm⟩
                      · rw [scutagelaw13_VintagePlays.l2] at hm
                        have hb954 := range_in hxs946 hi947
                        obtain ⟨h0955, h1956, hj957⟩ := range_ix hxs946 hi947
                        have hnx958 := range_next hxs946 hi947 hlim959
                        refine st_seq ?_
                        refine st_region ?_
                        refine r_pure (.bool (decide (i944 < (y845.length : Int)))) rfl ?_
                        refine r_seq ?_
                        refine st_seq ?_
                        refine st_condt hb954 rfl ?_
                        refine st_skip ?_
                        refine n_sq ?_
                        refine st_cut (fun ρ w => ∃ xs1239 : List Int, (∃ base, ρ = updl base [(0, .slice A1 l_.length c2), (3, .pointer (some ⟨b15, 0, none⟩)), (4, .pointer (some ⟨b19, 0, none⟩)), (5, .int .i64 v41), (6, .pointer (some ⟨b70, 0, none⟩)), (11, .slice (vA ((η838 11).1)) y845.length (vC ((η838 11).1))), (83, .int .i64 (y845.length : Int)), (84, .int .i64 i944)]) ∧ Hp w0 (Row K38 (.slice A32 xs35.length c34) xs35 :: Bx b15 75 [.slice A32 xs35.length c34] :: Row K38 (.slice A37 xs40.length c39) xs40 :: Bx b19 28 [.slice A37 xs40.length c39] :: Bx b70 31 [.int .i64 ((rd l_ v41).Do), .int .i64 ((rd l_ v41).Origin), .int .i64 ((rd l_ v41).Life), .int .i64 ((rd l_ v41).f_N), .slice ((ads7 (Int.toNat v41)).1) (((rd l_ v41).Used).length) ((ads7 (Int.toNat v41)).2)] :: Row K3 (.slice (vA ((η838 11).1)) y845.length (vC ((η838 11).1))) xs1239 :: Γ) w ∧ scutagelaw13_VintagePlays.j10 (scutagelaw13_VintagePlays.l2 xs40 l_ v41 ys948) i944 xs1239 = some tl942) ?_ ?_
                        · refine st_block ?_
                          refine st_seq ?_
                          refine st_region ?_
                          refine r_pure (.int .i64 i944) rfl ?_
                          refine r_pure (.int .i64 i944) rfl ?_
                          refine r_seq ?_
                          refine st_cut (fun ρ w => ∃ q1241 : Bool, (∃ base, ρ = updl base [(0, .slice A1 l_.length c2), (3, .pointer (some ⟨b15, 0, none⟩)), (4, .pointer (some ⟨b19, 0, none⟩)), (5, .int .i64 v41), (6, .pointer (some ⟨b70, 0, none⟩)), (11, .slice (vA ((η838 11).1)) y845.length (vC ((η838 11).1))), (12, .int .i64 i944), (83, .int .i64 (y845.length : Int)), (84, .int .i64 i944), (99, .bool q1241)]) ∧ Hp w0 (Row K38 (.slice A32 xs35.length c34) xs35 :: Bx b15 75 [.slice A32 xs35.length c34] :: Row K38 (.slice A37 xs40.length c39) xs40 :: Bx b19 28 [.slice A37 xs40.length c39] :: Bx b70 31 [.int .i64 ((rd l_ v41).Do), .int .i64 ((rd l_ v41).Origin), .int .i64 ((rd l_ v41).Life), .int .i64 ((rd l_ v41).f_N), .slice ((ads7 (Int.toNat v41)).1) (((rd l_ v41).Used).length) ((ads7 (Int.toNat v41)).2)] :: Row K3 (.slice (vA ((η838 11).1)) y845.length (vC ((η838 11).1))) xs939 :: Γ) w ∧ scutagelaw13_VintagePlays.j11 i944 xs939 xs40 (scutagelaw13_VintagePlays.l2 xs40 l_ v41 ys948) q1241 = some tl942) ?_ ?_
                          · refine st_region ?_
                            refine r_pure (.int .i64 i944) rfl ?_
                            refine r_pure (.pointer (some ⟨b19, 0, none⟩)) rfl ?_
                            refine r_pure (.pointer (some ⟨b19, 0, none⟩)) rfl ?_
                            refine r_fa FA28_0 ⟨b19, 0, none⟩ rfl rfl ?_
                            refine r_ld1 (.slice A37 xs40.length c39) LD26 rfl ((H940.g3).cell _ rfl) ?_
                            refine r_len Try.underlying26 rfl ?_
                            refine r_pure (.bool (decide (i944 < (xs40.length : Int)))) rfl ?_
                            refine r_pure (.bool (decide (i944 < (xs40.length : Int)))) rfl ?_
                            rcases ite_some hm with ⟨hb1375, hm⟩ | ⟨hb1375, hm⟩
                            · refine r_fa FA31_3 ⟨b70, 3, none⟩ rfl rfl ?_ (wn_t rfl rfl (by decide) rfl hb1375)
                              refine r_ld1 (.int .i64 ((rd l_ v41).f_N)) LD3 rfl ((H940.g4).cell _ rfl) ?_ (wn_t rfl rfl (by decide) rfl hb1375)
                              refine r_rem (by decide) rfl rfl ?_ (wn_t rfl rfl (by decide) rfl hb1375)
                              refine r_pure (.bool (Int.tmod ((rd l_ v41).f_N) 5 != 0)) rfl ?_ (wn_t rfl rfl (by decide) rfl hb1375)
                              refine r_pick_t (.bool (Int.tmod ((rd l_ v41).f_N) 5 != 0)) hb1375 rfl rfl ?_
                              refine r_nil ?_
                              refine n_cut ⟨Int.tmod ((rd l_ v41).f_N) 5 != 0, upk (ac rfl (ac rfl (ac rfl (ac rfl (ac rfl (ac rfl (ac rfl (ac rfl (ac rfl (ac rfl an)))))))))), H940.u5.u5.u5.u5.u5.u5, hm⟩
                            · refine r_not (wn_f rfl rfl (by decide) rfl hb1375) ?_
                              refine r_not (wn_f rfl rfl (by decide) rfl hb1375) ?_
                              refine r_not (wn_f rfl rfl (by decide) rfl hb1375) ?_
                              refine r_not (wn_f rfl rfl (by decide) rfl hb1375) ?_
                              refine r_pick_f (.bool false) hb1375 rfl rfl ?_
                              refine r_nil ?_
                              refine n_cut ⟨false, upk (ac rfl (ac rfl (ac rfl (ac rfl (ac rfl (ac rfl (ac rfl (ac rfl (ac rfl (ac rfl an)))))))))), H940.u5.u5.u5.u5.u5.u5, hm⟩
                          · rintro ρ w ⟨q1241, ⟨base, rfl⟩, H1242, hm⟩
                            unfold scutagelaw13_VintagePlays.j11 at hm
                            rcases ite_some hm with ⟨hb1243, hm⟩ | ⟨hb1243, hm⟩
                            · refine st_condt hb1243 rfl ?_
                              obtain ⟨⟨h01245, h11246⟩, hm⟩ := gd_some hm
                              have hj1247 := rd_get h01245 h11246
                              obtain ⟨⟨h01249, h11250⟩, hm⟩ := gd_some hm
                              have hj1251 := rd_get h01249 h11250
                              obtain ⟨y1253, hy1254, hm⟩ := bind_some hm
                              refine Flow.run' [[], [], [], [], [2, 3], [2, 3, 4], [], [6], [6, 7], [6, 7, 8], [], [6, 7, 8, 9, 10], [6, 7, 8, 9, 10, 11], [6, 7, 8, 9, 10, 11, 12], [6, 7, 8, 9, 10, 11, 12, 13], [2, 3, 4, 5, 6, 7, 8, 9, 10, 11, 12, 13, 14], [0, 1, 2, 3, 4, 5, 6, 7, 8, 9, 10, 11, 12, 13, 14, 15], [0, 1, 2, 3, 4, 5, 6, 7, 8, 9, 10, 11, 12, 13, 14, 15, 16]] [(100, 0), (101, 1), (102, 2), (103, 3), (104, 4), (105, 5), (106, 6), (107, 7), (108, 8), (109, 9), (110, 10), (111, 11), (112, 12), (113, 13), (114, 14), (115, 15), (116, 16)] [(fun η1244 v => v.1 = .slice (vA ((η838 11).1)) y845.length (vC ((η838 11).1))), (fun η1244 v => v.1 = .int .i64 i944), (fun η1244 v => v.1 = .slice (vA ((η838 11).1)) y845.length (vC ((η838 11).1))), (fun η1244 v => v.1 = .int .i64 i944), (fun η1244 v => v.1 = .pointer (some ((oA (vA ((η838 11).1))).add (Int.toNat i944 * 1)))), (fun η1244 v => v.1 = .int .i64 (rd xs939 i944)), (fun η1244 v => v.1 = .pointer (some ⟨b19, 0, none⟩)), (fun η1244 v => v.1 = .pointer (some ⟨b19, 0, none⟩)), (fun η1244 v => v.1 = .pointer (some ⟨b19, 0, none⟩)), (fun η1244 v => v.1 = .slice A37 xs40.length c39), (fun η1244 v => v.1 = .int .i64 i944), (fun η1244 v => v.1 = .pointer (some ((oA A37).add (Int.toNat i944 * 3)))), (fun η1244 v => v.1 = .pointer (some (((oA A37).add (Int.toNat i944 * 3)).add 2))), (fun η1244 v => v.1 = .int .i64 ((rd xs40 i944).Left)), (fun η1244 v => v.1 = .int .i64 (w64 ((rd xs40 i944).Left + 1))), (fun η1244 v => v.1 = .int .i64 y1253), (fun η1244 v => v.1 = .pointer (some ((oA (vA ((η838 11).1))).add (Int.toNat i944 * 1)))), (fun _ _ => True)] [⟨none, (some 17), fun η1244 => Row K3 (.slice (vA ((η838 11).1)) y845.length (vC ((η838 11).1))) xs939⟩, ⟨(some 17), none, fun η1244 => Row K3 (.slice (vA ((η838 11).1)) y845.length (vC ((η838 11).1))) (xs939.set (Int.toNat i944) y1253)⟩] rfl (by kernel_rfl) (by kernel_rfl) H1242.u5 ⟨?_, ?_, ?_, ?_, ?_, ?_, ?_, ?_, ?_, ?_, ?_, ?_, ?_, ?_, ?_, ?_, ?_, ?_, trivial⟩ ?_
                              · intro η1244 wd1264 Δ1265 hE1261 hR1262 H1263
                                have H1263 : Hp w0 ((Δ1265 ++ (Row K38 (.slice A32 xs35.length c34) xs35 :: Bx b15 75 [.slice A32 xs35.length c34] :: Row K38 (.slice A37 xs40.length c39) xs40 :: Bx b19 28 [.slice A37 xs40.length c39] :: Bx b70 31 [.int .i64 ((rd l_ v41).Do), .int .i64 ((rd l_ v41).Origin), .int .i64 ((rd l_ v41).Life), .int .i64 ((rd l_ v41).f_N), .slice ((ads7 (Int.toNat v41)).1) (((rd l_ v41).Used).length) ((ads7 (Int.toNat v41)).2)] :: Γ))) wd1264 := H1263
                                refine sp_op [(11, .slice (vA ((η838 11).1)) y845.length (vC ((η838 11).1)))] (ac rfl an) ?_
                                refine r_pure (.slice (vA ((η838 11).1)) y845.length (vC ((η838 11).1))) rfl ?_
                                exact r_nil (n_lp ⟨_, rfl, undef, rfl, H1263⟩)
                              · intro η1244 wd1269 Δ1270 hE1266 hR1267 H1268
                                have H1268 : Hp w0 ((Δ1270 ++ (Row K38 (.slice A32 xs35.length c34) xs35 :: Bx b15 75 [.slice A32 xs35.length c34] :: Row K38 (.slice A37 xs40.length c39) xs40 :: Bx b19 28 [.slice A37 xs40.length c39] :: Bx b70 31 [.int .i64 ((rd l_ v41).Do), .int .i64 ((rd l_ v41).Origin), .int .i64 ((rd l_ v41).Life), .int .i64 ((rd l_ v41).f_N), .slice ((ads7 (Int.toNat v41)).1) (((rd l_ v41).Used).length) ((ads7 (Int.toNat v41)).2)] :: Γ))) wd1269 := H1268
                                refine sp_op [(12, .int .i64 i944)] (ac rfl an) ?_
                                refine r_pure (.int .i64 i944) rfl ?_
                                exact r_nil (n_lp ⟨_, rfl, undef, rfl, H1268⟩)
                              · intro η1244 wd1274 Δ1275 hE1271 hR1272 H1273
                                have H1273 : Hp w0 ((Δ1275 ++ (Row K38 (.slice A32 xs35.length c34) xs35 :: Bx b15 75 [.slice A32 xs35.length c34] :: Row K38 (.slice A37 xs40.length c39) xs40 :: Bx b19 28 [.slice A37 xs40.length c39] :: Bx b70 31 [.int .i64 ((rd l_ v41).Do), .int .i64 ((rd l_ v41).Origin), .int .i64 ((rd l_ v41).Life), .int .i64 ((rd l_ v41).f_N), .slice ((ads7 (Int.toNat v41)).1) (((rd l_ v41).Used).length) ((ads7 (Int.toNat v41)).2)] :: Γ))) wd1274 := H1273
                                refine sp_op [(11, .slice (vA ((η838 11).1)) y845.length (vC ((η838 11).1)))] (ac rfl an) ?_
                                refine r_pure (.slice (vA ((η838 11).1)) y845.length (vC ((η838 11).1))) rfl ?_
                                exact r_nil (n_lp ⟨_, rfl, undef, rfl, H1273⟩)
                              · intro η1244 wd1279 Δ1280 hE1276 hR1277 H1278
                                have H1278 : Hp w0 ((Δ1280 ++ (Row K38 (.slice A32 xs35.length c34) xs35 :: Bx b15 75 [.slice A32 xs35.length c34] :: Row K38 (.slice A37 xs40.length c39) xs40 :: Bx b19 28 [.slice A37 xs40.length c39] :: Bx b70 31 [.int .i64 ((rd l_ v41).Do), .int .i64 ((rd l_ v41).Origin), .int .i64 ((rd l_ v41).Life), .int .i64 ((rd l_ v41).f_N), .slice ((ads7 (Int.toNat v41)).1) (((rd l_ v41).Used).length) ((ads7 (Int.toNat v41)).2)] :: Γ))) wd1279 := H1278
                                refine sp_op [(12, .int .i64 i944)] (ac rfl an) ?_
                                refine r_pure (.int .i64 i944) rfl ?_
                                exact r_nil (n_lp ⟨_, rfl, undef, rfl, H1278⟩)
                              · intro η1244 wd1284 Δ1285 hE1281 hR1282 H1283
                                have H1283 : Hp w0 ((Δ1285 ++ (Row K38 (.slice A32 xs35.length c34) xs35 :: Bx b15 75 [.slice A32 xs35.length c34] :: Row K38 (.slice A37 xs40.length c39) xs40 :: Bx b19 28 [.slice A37 xs40.length c39] :: Bx b70 31 [.int .i64 ((rd l_ v41).Do), .int .i64 ((rd l_ v41).Origin), .int .i64 ((rd l_ v41).Life), .int .i64 ((rd l_ v41).f_N), .slice ((ads7 (Int.toNat v41)).1) (((rd l_ v41).Used).length) ((ads7 (Int.toNat v41)).2)] :: Γ))) wd1284 := H1283
                                refine sp_op [(102, .slice (vA ((η838 11).1)) y845.length (vC ((η838 11).1))), (103, .int .i64 i944)] (ac (hE1281 2 (by decide)) (ac (hE1281 3 (by decide)) an)) ?_
                                have hA1289 := ((show (Row K3 (.slice (vA ((η838 11).1)) y845.length (vC ((η838 11).1))) xs939) _ from (H1283).memr (hR1282 _ (List.mem_of_getElem? (i := 0) rfl) rfl)).rd).adO hj1247
                                refine r_ix IX29 rfl rfl hA1289 h01245 (by have h1_ := ((show (Row K3 (.slice (vA ((η838 11).1)) y845.length (vC ((η838 11).1))) xs939) _ from (H1283).memr (hR1282 _ (List.mem_of_getElem? (i := 0) rfl) rfl))).leneq; have h2_ := h11246; rw [← h1_] at h2_; exact h2_) ?_
                                exact r_nil (n_lp ⟨_, rfl, undef, rfl, H1283⟩)
                              · intro η1244 wd1293 Δ1294 hE1290 hR1291 H1292
                                have H1292 : Hp w0 ((Δ1294 ++ (Row K38 (.slice A32 xs35.length c34) xs35 :: Bx b15 75 [.slice A32 xs35.length c34] :: Row K38 (.slice A37 xs40.length c39) xs40 :: Bx b19 28 [.slice A37 xs40.length c39] :: Bx b70 31 [.int .i64 ((rd l_ v41).Do), .int .i64 ((rd l_ v41).Origin), .int .i64 ((rd l_ v41).Life), .int .i64 ((rd l_ v41).f_N), .slice ((ads7 (Int.toNat v41)).1) (((rd l_ v41).Used).length) ((ads7 (Int.toNat v41)).2)] :: Γ))) wd1293 := H1292
                                refine sp_op [(104, .pointer (some ((oA (vA ((η838 11).1))).add (Int.toNat i944 * 1))))] (ac (hE1290 4 (by decide)) an) ?_
                                have hA1295 := ((show (Row K3 (.slice (vA ((η838 11).1)) y845.length (vC ((η838 11).1))) xs939) _ from (H1292).memr (hR1291 _ (List.mem_of_getElem? (i := 0) rfl) rfl)).rd).adO hj1247
                                refine r_ld1 (.int .i64 (rd xs939 i944)) LD3 rfl (((show (Row K3 (.slice (vA ((η838 11).1)) y845.length (vC ((η838 11).1))) xs939) _ from (H1292).memr (hR1291 _ (List.mem_of_getElem? (i := 0) rfl) rfl)).rd).c0A hA1295 hj1247 _ rfl) ?_
                                exact r_nil (n_lp ⟨_, rfl, undef, rfl, H1292⟩)
                              · intro η1244 wd1299 Δ1300 hE1296 hR1297 H1298
                                have H1298 : Hp w0 ((Δ1300 ++ (Row K38 (.slice A32 xs35.length c34) xs35 :: Bx b15 75 [.slice A32 xs35.length c34] :: Row K38 (.slice A37 xs40.length c39) xs40 :: Bx b19 28 [.slice A37 xs40.length c39] :: Bx b70 31 [.int .i64 ((rd l_ v41).Do), .int .i64 ((rd l_ v41).Origin), .int .i64 ((rd l_ v41).Life), .int .i64 ((rd l_ v41).f_N), .slice ((ads7 (Int.toNat v41)).1) (((rd l_ v41).Used).length) ((ads7 (Int.toNat v41)).2)] :: Γ))) wd1299 := H1298
                                refine sp_op [(4, .pointer (some ⟨b19, 0, none⟩))] (ac rfl an) ?_
                                refine r_pure (.pointer (some ⟨b19, 0, none⟩)) rfl ?_
                                exact r_nil (n_lp ⟨_, rfl, undef, rfl, H1298⟩)
                              · intro η1244 wd1304 Δ1305 hE1301 hR1302 H1303
                                have H1303 : Hp w0 ((Δ1305 ++ (Row K38 (.slice A32 xs35.length c34) xs35 :: Bx b15 75 [.slice A32 xs35.length c34] :: Row K38 (.slice A37 xs40.length c39) xs40 :: Bx b19 28 [.slice A37 xs40.length c39] :: Bx b70 31 [.int .i64 ((rd l_ v41).Do), .int .i64 ((rd l_ v41).Origin), .int .i64 ((rd l_ v41).Life), .int .i64 ((rd l_ v41).f_N), .slice ((ads7 (Int.toNat v41)).1) (((rd l_ v41).Used).length) ((ads7 (Int.toNat v41)).2)] :: Γ))) wd1304 := H1303
                                refine sp_op [(106, .pointer (some ⟨b19, 0, none⟩))] (ac (hE1301 6 (by decide)) an) ?_
                                refine r_pure (.pointer (some ⟨b19, 0, none⟩)) rfl ?_
                                exact r_nil (n_lp ⟨_, rfl, undef, rfl, H1303⟩)
                              · intro η1244 wd1309 Δ1310 hE1306 hR1307 H1308
                                have H1308 : Hp w0 ((Δ1310 ++ (Row K38 (.slice A32 xs35.length c34) xs35 :: Bx b15 75 [.slice A32 xs35.length c34] :: Row K38 (.slice A37 xs40.length c39) xs40 :: Bx b19 28 [.slice A37 xs40.length c39] :: Bx b70 31 [.int .i64 ((rd l_ v41).Do), .int .i64 ((rd l_ v41).Origin), .int .i64 ((rd l_ v41).Life), .int .i64 ((rd l_ v41).f_N), .slice ((ads7 (Int.toNat v41)).1) (((rd l_ v41).Used).length) ((ads7 (Int.toNat v41)).2)] :: Γ))) wd1309 := H1308
                                refine sp_op [(107, .pointer (some ⟨b19, 0, none⟩))] (ac (hE1306 7 (by decide)) an) ?_
                                refine r_fa FA28_0 ⟨b19, 0, none⟩ rfl rfl ?_
                                exact r_nil (n_lp ⟨_, rfl, undef, rfl, H1308⟩)
                              · intro η1244 wd1314 Δ1315 hE1311 hR1312 H1313
                                have H1313 : Hp w0 ((Δ1315 ++ (Row K38 (.slice A32 xs35.length c34) xs35 :: Bx b15 75 [.slice A32 xs35.length c34] :: Row K38 (.slice A37 xs40.length c39) xs40 :: Bx b19 28 [.slice A37 xs40.length c39] :: Bx b70 31 [.int .i64 ((rd l_ v41).Do), .int .i64 ((rd l_ v41).Origin), .int .i64 ((rd l_ v41).Life), .int .i64 ((rd l_ v41).f_N), .slice ((ads7 (Int.toNat v41)).1) (((rd l_ v41).Used).length) ((ads7 (Int.toNat v41)).2)] :: Γ))) wd1314 := H1313
                                refine sp_op [(108, .pointer (some ⟨b19, 0, none⟩))] (ac (hE1311 8 (by decide)) an) ?_
                                refine r_ld1 (.slice A37 xs40.length c39) LD26 rfl (((H1313).tl.g3).cell _ rfl) ?_
                                exact r_nil (n_lp ⟨_, rfl, undef, rfl, H1313⟩)
                              · intro η1244 wd1319 Δ1320 hE1316 hR1317 H1318
                                have H1318 : Hp w0 ((Δ1320 ++ (Row K38 (.slice A32 xs35.length c34) xs35 :: Bx b15 75 [.slice A32 xs35.length c34] :: Row K38 (.slice A37 xs40.length c39) xs40 :: Bx b19 28 [.slice A37 xs40.length c39] :: Bx b70 31 [.int .i64 ((rd l_ v41).Do), .int .i64 ((rd l_ v41).Origin), .int .i64 ((rd l_ v41).Life), .int .i64 ((rd l_ v41).f_N), .slice ((ads7 (Int.toNat v41)).1) (((rd l_ v41).Used).length) ((ads7 (Int.toNat v41)).2)] :: Γ))) wd1319 := H1318
                                refine sp_op [(12, .int .i64 i944)] (ac rfl an) ?_
                                refine r_pure (.int .i64 i944) rfl ?_
                                exact r_nil (n_lp ⟨_, rfl, undef, rfl, H1318⟩)
                              · intro η1244 wd1324 Δ1325 hE1321 hR1322 H1323
                                have H1323 : Hp w0 ((Δ1325 ++ (Row K38 (.slice A32 xs35.length c34) xs35 :: Bx b15 75 [.slice A32 xs35.length c34] :: Row K38 (.slice A37 xs40.length c39) xs40 :: Bx b19 28 [.slice A37 xs40.length c39] :: Bx b70 31 [.int .i64 ((rd l_ v41).Do), .int .i64 ((rd l_ v41).Origin), .int .i64 ((rd l_ v41).Life), .int .i64 ((rd l_ v41).f_N), .slice ((ads7 (Int.toNat v41)).1) (((rd l_ v41).Used).length) ((ads7 (Int.toNat v41)).2)] :: Γ))) wd1324 := H1323
                                refine sp_op [(109, .slice A37 xs40.length c39), (110, .int .i64 i944)] (ac (hE1321 9 (by decide)) (ac (hE1321 10 (by decide)) an)) ?_
                                have hA1329 := ((H1323).tl.g2.rd).adO hj1251
                                refine r_ix IX26 rfl rfl hA1329 h01249 h11250 ?_
                                exact r_nil (n_lp ⟨_, rfl, undef, rfl, H1323⟩)
                              · intro η1244 wd1333 Δ1334 hE1330 hR1331 H1332
                                have H1332 : Hp w0 ((Δ1334 ++ (Row K38 (.slice A32 xs35.length c34) xs35 :: Bx b15 75 [.slice A32 xs35.length c34] :: Row K38 (.slice A37 xs40.length c39) xs40 :: Bx b19 28 [.slice A37 xs40.length c39] :: Bx b70 31 [.int .i64 ((rd l_ v41).Do), .int .i64 ((rd l_ v41).Origin), .int .i64 ((rd l_ v41).Life), .int .i64 ((rd l_ v41).f_N), .slice ((ads7 (Int.toNat v41)).1) (((rd l_ v41).Used).length) ((ads7 (Int.toNat v41)).2)] :: Γ))) wd1333 := H1332
                                refine sp_op [(111, .pointer (some ((oA A37).add (Int.toNat i944 * 3))))] (ac (hE1330 11 (by decide)) an) ?_
                                refine r_fa FA38_2 (((oA A37).add (Int.toNat i944 * 3)).add 2) rfl rfl ?_
                                exact r_nil (n_lp ⟨_, rfl, undef, rfl, H1332⟩)
                              · intro η1244 wd1338 Δ1339 hE1335 hR1336 H1337
                                have H1337 : Hp w0 ((Δ1339 ++ (Row K38 (.slice A32 xs35.length c34) xs35 :: Bx b15 75 [.slice A32 xs35.length c34] :: Row K38 (.slice A37 xs40.length c39) xs40 :: Bx b19 28 [.slice A37 xs40.length c39] :: Bx b70 31 [.int .i64 ((rd l_ v41).Do), .int .i64 ((rd l_ v41).Origin), .int .i64 ((rd l_ v41).Life), .int .i64 ((rd l_ v41).f_N), .slice ((ads7 (Int.toNat v41)).1) (((rd l_ v41).Used).length) ((ads7 (Int.toNat v41)).2)] :: Γ))) wd1338 := H1337
                                refine sp_op [(112, .pointer (some (((oA A37).add (Int.toNat i944 * 3)).add 2)))] (ac (hE1335 12 (by decide)) an) ?_
                                have hA1340 := ((H1337).tl.g2.rd).adO hj1251
                                refine r_ld1 (.int .i64 ((rd xs40 i944).Left)) LD3 rfl (((H1337).tl.g2.rd).cA hA1340 hj1251 2 _ rfl) ?_
                                exact r_nil (n_lp ⟨_, rfl, undef, rfl, H1337⟩)
                              · intro η1244 wd1344 Δ1345 hE1341 hR1342 H1343
                                have H1343 : Hp w0 ((Δ1345 ++ (Row K38 (.slice A32 xs35.length c34) xs35 :: Bx b15 75 [.slice A32 xs35.length c34] :: Row K38 (.slice A37 xs40.length c39) xs40 :: Bx b19 28 [.slice A37 xs40.length c39] :: Bx b70 31 [.int .i64 ((rd l_ v41).Do), .int .i64 ((rd l_ v41).Origin), .int .i64 ((rd l_ v41).Life), .int .i64 ((rd l_ v41).f_N), .slice ((ads7 (Int.toNat v41)).1) (((rd l_ v41).Used).length) ((ads7 (Int.toNat v41)).2)] :: Γ))) wd1344 := H1343
                                refine sp_op [(113, .int .i64 ((rd xs40 i944).Left))] (ac (hE1341 13 (by decide)) an) ?_
                                refine r_pure (.int .i64 (w64 ((rd xs40 i944).Left + 1))) rfl ?_
                                exact r_nil (n_lp ⟨_, rfl, undef, rfl, H1343⟩)
                              · intro η1244 wd1349 Δ1350 hE1346 hR1347 H1348
                                have H1348 : Hp w0 ((Δ1350 ++ (Row K38 (.slice A32 xs35.length c34) xs35 :: Bx b15 75 [.slice A32 xs35.length c34] :: Row K38 (.slice A37 xs40.length c39) xs40 :: Bx b19 28 [.slice A37 xs40.length c39] :: Bx b70 31 [.int .i64 ((rd l_ v41).Do), .int .i64 ((rd l_ v41).Origin), .int .i64 ((rd l_ v41).Life), .int .i64 ((rd l_ v41).f_N), .slice ((ads7 (Int.toNat v41)).1) (((rd l_ v41).Used).length) ((ads7 (Int.toNat v41)).2)] :: Γ))) wd1349 := H1348
                                refine sp_op [(105, .int .i64 (rd xs939 i944)), (114, .int .i64 (w64 ((rd xs40 i944).Left + 1)))] (ac (hE1346 5 (by decide)) (ac (hE1346 14 (by decide)) an)) ?_
                                refine r_callf Try.call9 (scutagekeep_Within_ok (rd xs939 i944) (w64 ((rd xs40 i944).Left + 1)) y1253 H1348 hy1254) ?_
                                rintro e1354 wd1353 ⟨rfl, H1356⟩
                                refine ⟨_, rfl, ?_⟩
                                exact r_nil (n_lp ⟨_, rfl, undef, rfl, H1356⟩)
                              · intro η1244 wd1360 Δ1361 hE1357 hR1358 H1359
                                have H1359 : Hp w0 ((Δ1361 ++ (Row K38 (.slice A32 xs35.length c34) xs35 :: Bx b15 75 [.slice A32 xs35.length c34] :: Row K38 (.slice A37 xs40.length c39) xs40 :: Bx b19 28 [.slice A37 xs40.length c39] :: Bx b70 31 [.int .i64 ((rd l_ v41).Do), .int .i64 ((rd l_ v41).Origin), .int .i64 ((rd l_ v41).Life), .int .i64 ((rd l_ v41).f_N), .slice ((ads7 (Int.toNat v41)).1) (((rd l_ v41).Used).length) ((ads7 (Int.toNat v41)).2)] :: Γ))) wd1360 := H1359
                                refine sp_op [(100, .slice (vA ((η838 11).1)) y845.length (vC ((η838 11).1))), (101, .int .i64 i944)] (ac (hE1357 0 (by decide)) (ac (hE1357 1 (by decide)) an)) ?_
                                have hA1362 := ((show (Row K3 (.slice (vA ((η838 11).1)) y845.length (vC ((η838 11).1))) xs939) _ from (H1359).memr (hR1358 _ (List.mem_of_getElem? (i := 0) rfl) rfl)).rd).adO hj1247
                                refine r_ix IX29 rfl rfl hA1362 h01245 (by have h1_ := ((show (Row K3 (.slice (vA ((η838 11).1)) y845.length (vC ((η838 11).1))) xs939) _ from (H1359).memr (hR1358 _ (List.mem_of_getElem? (i := 0) rfl) rfl))).leneq; have h2_ := h11246; rw [← h1_] at h2_; exact h2_) ?_
                                exact r_nil (n_lp ⟨_, rfl, undef, rfl, H1359⟩)
                              · intro η1244 wd1366 Δ1367 hE1363 hR1364 H1365
                                have H1365 : Hp w0 (Row K3 (.slice (vA ((η838 11).1)) y845.length (vC ((η838 11).1))) xs939 :: (Δ1367 ++ (Row K38 (.slice A32 xs35.length c34) xs35 :: Bx b15 75 [.slice A32 xs35.length c34] :: Row K38 (.slice A37 xs40.length c39) xs40 :: Bx b19 28 [.slice A37 xs40.length c39] :: Bx b70 31 [.int .i64 ((rd l_ v41).Do), .int .i64 ((rd l_ v41).Origin), .int .i64 ((rd l_ v41).Life), .int .i64 ((rd l_ v41).f_N), .slice ((ads7 (Int.toNat v41)).1) (((rd l_ v41).Used).length) ((ads7 (Int.toNat v41)).2)] :: Γ))) wd1366 := H1365
                                refine sp_op [(115, .int .i64 y1253), (116, .pointer (some ((oA (vA ((η838 11).1))).add (Int.toNat i944 * 1))))] (ac (hE1363 15 (by decide)) (ac (hE1363 16 (by decide)) an)) ?_
                                have hA1370 := (H1365.g0.rd).adO hj1247
                                refine r_stx0 (K := K3) (y1253) hA1370 LD3 rfl rfl rfl H1365 hj1247 (by decide) rfl ?_
                                intro wd1369 H1368
                                exact r_nil (n_lp ⟨_, rfl, (.tuple #[.slice (vA ((η838 11).1)) y845.length (vC ((η838 11).1))]), trivial, H1368⟩)
                              · intro η1244 wd1372 hV1373 H1371
                                have H1374 : Hp w0 (Row K3 (.slice (vA ((η838 11).1)) y845.length (vC ((η838 11).1))) (xs939.set (Int.toNat i944) y1253) :: Row K38 (.slice A32 xs35.length c34) xs35 :: Bx b15 75 [.slice A32 xs35.length c34] :: Row K38 (.slice A37 xs40.length c39) xs40 :: Bx b19 28 [.slice A37 xs40.length c39] :: Bx b70 31 [.int .i64 ((rd l_ v41).Do), .int .i64 ((rd l_ v41).Origin), .int .i64 ((rd l_ v41).Life), .int .i64 ((rd l_ v41).f_N), .slice ((ads7 (Int.toNat v41)).1) (((rd l_ v41).Used).length) ((ads7 (Int.toNat v41)).2)] :: Γ) wd1372 := H1371
                                refine n_frame [(0, .slice A1 l_.length c2), (3, .pointer (some ⟨b15, 0, none⟩)), (4, .pointer (some ⟨b19, 0, none⟩)), (5, .int .i64 v41), (6, .pointer (some ⟨b70, 0, none⟩)), (11, .slice (vA ((η838 11).1)) y845.length (vC ((η838 11).1))), (83, .int .i64 (y845.length : Int)), (84, .int .i64 i944)] (ac rfl (ac rfl (ac rfl (ac rfl (ac rfl (ac rfl (ac rfl (ac rfl an)))))))) ?_
                                refine n_bl ?_
                                refine n_cut ⟨xs939.set (Int.toNat i944) y1253, upk (ac rfl (ac rfl (ac rfl (ac rfl (ac rfl (ac rfl (ac rfl (ac rfl an)))))))), H1374.u5.u5.u5.u5.u5, hm⟩
                            · refine st_condf hb1243 rfl ?_
                              refine st_skip ?_
                              refine n_bl ?_
                              refine n_cut ⟨xs939, upk (ac rfl (ac rfl (ac rfl (ac rfl (ac rfl (ac rfl (ac rfl (ac rfl an)))))))), H1242.u5.u5.u5.u5.u5.u5, hm⟩
                        · rintro ρ w ⟨xs1239, ⟨base, rfl⟩, H1240, hm⟩
                          unfold scutagelaw13_VintagePlays.j10 at hm
                          refine st_region ?_
                          refine r_pure (.int .i64 (w64 (i944 + 1))) rfl ?_
                          refine r_pure (.int .i64 (w64 (i944 + 1))) rfl ?_
                          refine r_nil ?_
                          refine n_round (IH952 _ _ rfl _ _ _ ⟨i944 + 1, xs1239, dn945 ++ [y949], rfl, range_more hxs946, range_len hi947, upk (ac rfl (ac rfl (ac rfl (ac rfl (ac rfl (ac rfl (ac rfl (ac hnx958 an)))))))), H1240.u5.u5.u5.u5.u5.u5⟩ hm)
      · rintro ρ w ⟨A57, n58, c59, A61, n62, c63, xs60, xs64, ⟨base, rfl⟩, H65, hm⟩
        obtain rfl := (H65.g0).leneq
        obtain rfl := (H65.g2).leneq
        unfold scutagelaw13_VintagePlays.j2 at hm
        refine st_region ?_
        refine r_pure (.int .i64 v41) rfl ?_
        refine r_pure (.int .i64 (w64 (v41 + 1))) rfl ?_
        refine r_pure (.int .i64 (w64 (v41 + 1))) rfl ?_
        refine r_nil ?_
        refine n_round (IH53 _ _ _ ⟨xs60, xs64, w64 (v41 + 1), A57, xs60.length, c59, A61, xs64.length, c63, rfl, upk (ac rfl (ac rfl (ac rfl (ac rfl an)))), H65.u3.u3.u3.u3⟩ hm)
    · refine st_condf hb56 rfl ?_
      have hq_ := Option.some.inj hm
      refine st_exit rfl ?_
      subst hq_
      refine n_sq ?_
      refine st_seq ?_
      refine st_region ?_
      obtain ⟨y1461, hy1462, hm⟩ := bind_some hm43
      refine r_callf Try.call25 (scutagelaw13_wakes_ok  y1461 H55 hy1462) ?_
      rintro e1464 wd1463 ⟨rfl, H1466⟩
      refine ⟨_, rfl, ?_⟩
      refine r_pure (.bool y1461) rfl ?_
      refine r_seq ?_
      have hq_ := Option.some.inj hm
      subst hq_
      refine st_ret1 rfl rfl (Nat.le_of_ble_eq_true rfl) rfl ?_
      exact ⟨rfl, H1466.d.d.d.d⟩


end Go.Proofs.Ytcmhekibcbpajaa
