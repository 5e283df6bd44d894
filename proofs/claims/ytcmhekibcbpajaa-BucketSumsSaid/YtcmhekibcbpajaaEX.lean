/- The Go functions come to their models: printed by gen.py. -/
import Derived.Test.YtcmhekibcbpajaaEX1
set_option linter.unusedVariables false
set_option linter.unusedSimpArgs false
set_option maxRecDepth 100000
namespace Go.Proofs.Ytcmhekibcbpajaa
open Go Go.RowKit
attribute [local irreducible] W R N L Hp Row SlR Bx

set_option maxHeartbeats 2000000 in
theorem scutagelaw10_BucketSums_ok {w0 w : World} {Γ : List (World → Prop)} (l_ : List Int) (A1 : Option Addr) (n6 c2 : Nat) (hn5 : n6 = l_.length) (hc3 : l_.length ≤ c2) (hv4 : ∀ u, Hp w0 Γ u → SlR K3 A1 l_ u) (class_ : Int) (year : Int) (class2 : Int) (year2 : Int) (n_ : Int) (r0_ : Bool) (H : Hp w0 (Γ) w) (hm : scutagelaw10_BucketSums l_ class_ year class2 year2 n_ = some r0_) : Calls Try.prog 4 #[.slice A1 n6 c2, .int .i64 class_, .int .i64 year, .int .i64 class2, .int .i64 year2, .int .i64 n_] w (fun e w => e = .returned (.bool r0_) ∧ Hp w0 (Γ) w) := by
  subst hn5
  unfold scutagelaw10_BucketSums at hm
  refine st_enter Try.func4 rfl Try.ntmps4 (Nat.le_of_ble_eq_true rfl) ?_
  refine st_seq ?_
  refine st_region ?_
  refine r_pure (.bool false) rfl ?_
  refine r_seq ?_
  refine st_seq ?_
  refine st_region ?_
  refine r_pure (.slice A1 l_.length c2) rfl ?_
  obtain ⟨y7, hy8, hm⟩ := bind_some hm
  refine r_callf Try.call27 (scutageplay_Register_ok l_ A1 l_.length c2 rfl hc3 (fun _ H => (hv4 _ H)) y7 H hy8) ?_
  rintro e10 wd9 ⟨b13, A14, n15, c16, rfl, H12⟩
  obtain rfl := (H12.g1).leneq
  refine ⟨_, rfl, ?_⟩
  obtain ⟨y17, hy18, hm⟩ := bind_some hm
  refine r_callf Try.call26 (scutagelaw10_Of_ok b13 (⟨y7.B⟩ : scutageref09_Register) A14 y7.B.length c16 rfl (((H12).g1).cap) (fun _ H => (H.g1.rd)) (fun _ H => (H.g0)) y17 H12 hy18) ?_
  rintro e20 wd19 (⟨hn24, rfl, H22⟩ | ⟨o21, hn24, b25, A26, n27, c28, rfl, H23⟩)
  · subst hn24
    have hm : some false = some r0_ := hm
    refine ⟨_, rfl, ?_⟩
    refine r_pure (.pointer none) rfl ?_
    refine r_seq ?_
    refine st_seq ?_
    refine st_seq ?_
    refine st_region ?_
    refine r_pure (.pointer none) rfl ?_
    refine r_eqn Try.underlying47 rfl rfl ?_
    refine r_seq ?_
    refine st_condt rfl rfl ?_
    refine st_seq ?_
    refine st_region ?_
    refine r_pure (.bool false) rfl ?_
    refine r_seq ?_
    have hq_ := Option.some.inj hm
    subst hq_
    refine st_ret1 rfl rfl (Nat.le_of_ble_eq_true rfl) rfl ?_
    exact ⟨rfl, H22.d.d⟩
  · subst hn24
    obtain rfl := (H23.g1).leneq
    have hm : ((bucket_Register_Rows (⟨o21.f_l⟩ : bucket_Register)).bind fun y29 => ((bucket_Register_Total (⟨o21.f_l⟩ : bucket_Register)).bind fun y38 => ((scutagelaw10_BucketSums.l1 o21 y29 y29 (0, 0)).bind fun tt => match tt with | .inl rr => some rr | .inr v45 => ((scutagekeep_Within class_ 9).bind fun y66 => ((scutagekeep_Within year 100).bind fun y72 => ((scutagekeep_Within class2 9).bind fun y78 => ((scutagekeep_Within year2 100).bind fun y84 => ((scutagekeep_Within n_ 2001).bind fun y90 => (if (v45 != y38) = true then some false else ((bucket_Register_Reclass (⟨o21.f_l⟩ : bucket_Register) (w64 (1 + y66)) y72 (w64 (1 + y78)) y84 (w64 (y90 - 1000))).bind fun (y173, y174) => (if (y173 == 0) = true then ((bucket_Register_Total (⟨y174.f_l⟩ : bucket_Register)).bind fun y191 => (if (y191 != y38) = true then scutagelaw10_BucketSums.j5 y66 y72 y90 y38 y29 y174.f_l true else ((bucket_Register_Reclass (⟨y174.f_l⟩ : bucket_Register) (w64 (1 + y78)) y84 (w64 (1 + y66)) y72 (w64 (y90 - 1000))).bind fun (y198, y199) => (if (y198 != 0) = true then scutagelaw10_BucketSums.j5 y66 y72 y90 y38 y29 y199.f_l true else ((bucket_Register_Rows (⟨y199.f_l⟩ : bucket_Register)).bind fun y209 => ((scutagekeep_Same_api_Bucket y209 y29).bind fun y218 => scutagelaw10_BucketSums.j5 y66 y72 y90 y38 y29 y199.f_l (!y218))))))) else scutagelaw10_BucketSums.j1 y66 y72 y90 y38 y29 y174.f_l))))))))))) = some r0_ := hm
    refine ⟨_, rfl, ?_⟩
    refine r_pure (.pointer (some ⟨b25, 0, none⟩)) rfl ?_
    refine r_seq ?_
    refine st_seq ?_
    refine st_seq ?_
    refine st_region ?_
    refine r_pure (.pointer (some ⟨b25, 0, none⟩)) rfl ?_
    refine r_eqn Try.underlying47 rfl rfl ?_
    refine r_seq ?_
    refine st_condf rfl rfl ?_
    refine st_skip ?_
    refine n_sq ?_
    refine st_seq ?_
    refine st_region ?_
    refine r_pure (.pointer (some ⟨b25, 0, none⟩)) rfl ?_
    obtain ⟨y29, hy30, hm⟩ := bind_some hm
    refine r_callf Try.call28 (bucket_Register_Rows_ok b25 (⟨o21.f_l⟩ : bucket_Register) A26 o21.f_l.length c28 rfl (((H23).g1).cap) (fun _ H => (H.g1.rd)) (fun _ H => (H.g0)) y29 H23 hy30) ?_
    rintro e32 wd31 ⟨A35, n36, c37, rfl, H34⟩
    obtain rfl := (H34.g0).leneq
    refine ⟨_, rfl, ?_⟩
    refine r_pure (.pointer (some ⟨b25, 0, none⟩)) rfl ?_
    obtain ⟨y38, hy39, hm⟩ := bind_some hm
    refine r_callf Try.call29 (bucket_Register_Total_ok b25 (⟨o21.f_l⟩ : bucket_Register) A26 o21.f_l.length c28 rfl (((H34).g2).cap) (fun _ H => (H.g2.rd)) (fun _ H => (H.g1)) y38 H34 hy39) ?_
    rintro e41 wd40 ⟨rfl, H43⟩
    refine ⟨_, rfl, ?_⟩
    refine r_pure (.slice A35 y29.length c37) rfl ?_
    refine r_pure (.int .i64 y38) rfl ?_
    refine r_seq ?_
    refine st_seq ?_
    refine st_region ?_
    refine r_pure (.int .i64 0) rfl ?_
    refine r_seq ?_
    refine st_seq ?_
    refine st_seq ?_
    refine st_region ?_
    refine r_pure (.slice A35 y29.length c37) rfl ?_
    refine r_len Try.underlying51 rfl ?_
    refine r_pure (.int .i64 0) rfl ?_
    refine r_seq ?_
    refine st_block ?_
    have hlim65 := (H43.g0.rd).lim
    obtain ⟨tl48, hl49, hm47⟩ := bind_some hm
    refine st_loopL (scutagelaw10_BucketSums.l1 o21 y29) (fun ys54 s ρ w => ∃ i50 : Int, ∃ v45 : Int, ∃ dn51 : List api_Bucket, (i50, v45) = s ∧ y29 = dn51 ++ ys54 ∧ i50 = (dn51.length : Int) ∧ (∃ base, ρ = updl base [(1, .int .i64 class_), (2, .int .i64 year), (3, .int .i64 class2), (4, .int .i64 year2), (5, .int .i64 n_), (13, .pointer (some ⟨b25, 0, none⟩)), (14, .slice A35 y29.length c37), (15, .int .i64 y38), (16, .int .i64 v45), (28, .slice A35 y29.length c37), (29, .int .i64 (y29.length : Int)), (30, .int .i64 i50)]) ∧ Hp w0 (Row K54 (.slice A26 o21.f_l.length c28) o21.f_l :: Bx b25 89 [.slice A26 o21.f_l.length c28] :: Row K54 (.slice A35 y29.length c37) y29 :: Γ) w) hl49 ⟨0, 0, [], rfl, rfl, rfl, upk (ac rfl (ac rfl (ac rfl (ac rfl (ac rfl (ac rfl (ac rfl (ac rfl (ac rfl (ac rfl (ac rfl (ac rfl an)))))))))))), H43.u3.d.u3.d.u1.u2⟩ ?_
    rintro m ys54 IH58 s ρ w ⟨i50, v45, dn51, rfl, hxs52, hi53, ⟨base, rfl⟩, H46⟩ hm
    rcases ys54 with _ | ⟨y55, ys54⟩
    · rw [scutagelaw10_BucketSums.l1] at hm
      have hb59 := range_end hxs52 hi53
      refine st_seq ?_
      refine st_region ?_
      refine r_pure (.bool (decide (i50 < (y29.length : Int)))) rfl ?_
      refine r_seq ?_
      refine st_seq ?_
      refine st_condf hb59 rfl ?_
      have hq_ := Option.some.inj hm
      refine st_exit rfl ?_
      subst hq_
      refine n_sq ?_
      refine st_seq ?_
      refine st_region ?_
      refine r_pure (.int .i64 class_) rfl ?_
      obtain ⟨y66, hy67, hm⟩ := bind_some hm47
      refine r_callf Try.call9 (scutagekeep_Within_ok class_ 9 y66 H46 hy67) ?_
      rintro e69 wd68 ⟨rfl, H71⟩
      refine ⟨_, rfl, ?_⟩
      refine r_pure (.int .i64 (w64 (1 + y66))) rfl ?_
      refine r_pure (.int .i64 year) rfl ?_
      obtain ⟨y72, hy73, hm⟩ := bind_some hm
      refine r_callf Try.call9 (scutagekeep_Within_ok year 100 y72 H71 hy73) ?_
      rintro e75 wd74 ⟨rfl, H77⟩
      refine ⟨_, rfl, ?_⟩
      refine r_pure (.int .i64 class2) rfl ?_
      obtain ⟨y78, hy79, hm⟩ := bind_some hm
      refine r_callf Try.call9 (scutagekeep_Within_ok class2 9 y78 H77 hy79) ?_
      rintro e81 wd80 ⟨rfl, H83⟩
      refine ⟨_, rfl, ?_⟩
      refine r_pure (.int .i64 (w64 (1 + y78))) rfl ?_
      refine r_pure (.int .i64 year2) rfl ?_
      obtain ⟨y84, hy85, hm⟩ := bind_some hm
      refine r_callf Try.call9 (scutagekeep_Within_ok year2 100 y84 H83 hy85) ?_
      rintro e87 wd86 ⟨rfl, H89⟩
      refine ⟨_, rfl, ?_⟩
      refine r_pure (.int .i64 n_) rfl ?_
      obtain ⟨y90, hy91, hm⟩ := bind_some hm
      refine r_callf Try.call9 (scutagekeep_Within_ok n_ 2001 y90 H89 hy91) ?_
      rintro e93 wd92 ⟨rfl, H95⟩
      refine ⟨_, rfl, ?_⟩
      refine r_pure (.int .i64 (w64 (y90 - 1000))) rfl ?_
      refine r_pure (.int .i64 (w64 (1 + y66))) rfl ?_
      refine r_pure (.int .i64 y72) rfl ?_
      refine r_pure (.int .i64 (w64 (1 + y78))) rfl ?_
      refine r_pure (.int .i64 y84) rfl ?_
      refine r_pure (.int .i64 (w64 (y90 - 1000))) rfl ?_
      refine r_seq ?_
      refine st_seq ?_
      refine st_seq ?_
      refine st_region ?_
      refine r_pure (.int .i64 v45) rfl ?_
      refine r_pure (.int .i64 y38) rfl ?_
      refine r_pure (.bool (v45 != y38)) rfl ?_
      refine r_seq ?_
      rcases ite_some hm with ⟨hb96, hm⟩ | ⟨hb96, hm⟩
      · refine st_condt hb96 rfl ?_
        refine st_seq ?_
        refine st_region ?_
        refine r_pure (.bool false) rfl ?_
        refine r_seq ?_
        have hq_ := Option.some.inj hm
        subst hq_
        refine st_ret1 rfl rfl (Nat.le_of_ble_eq_true rfl) rfl ?_
        exact ⟨rfl, H95.d.d.d⟩
      · refine st_condf hb96 rfl ?_
        refine st_skip ?_
        refine n_sq ?_
        refine st_cut (fun ρ w => ∃ A97 : Option Addr, ∃ n98 : Nat, ∃ c99 : Nat, ∃ xs100 : List api_Bucket, (∃ base, ρ = updl base [(1, .int .i64 (w64 (1 + y66))), (2, .int .i64 y72), (5, .int .i64 (w64 (y90 - 1000))), (13, .pointer (some ⟨b25, 0, none⟩)), (14, .slice A35 y29.length c37), (15, .int .i64 y38)]) ∧ Hp w0 (Row K54 (.slice A97 n98 c99) xs100 :: Bx b25 89 [.slice A97 n98 c99] :: Row K54 (.slice A35 y29.length c37) y29 :: Γ) w ∧ scutagelaw10_BucketSums.j1 y66 y72 y90 y38 y29 xs100 = some r0_) ?_ ?_
        · refine st_seq ?_
          refine st_region ?_
          refine r_pure (.pointer (some ⟨b25, 0, none⟩)) rfl ?_
          refine r_pure (.int .i64 (w64 (1 + y66))) rfl ?_
          refine r_pure (.int .i64 y72) rfl ?_
          refine r_pure (.int .i64 (w64 (1 + y78))) rfl ?_
          refine r_pure (.int .i64 y84) rfl ?_
          refine r_pure (.int .i64 (w64 (y90 - 1000))) rfl ?_
          obtain ⟨⟨y173, y174⟩, hy175, hm⟩ := bind_some hm
          refine r_callf Try.call31 (bucket_Register_Reclass_ok b25 (⟨o21.f_l⟩ : bucket_Register) A26 c28 (w64 (1 + y66)) y72 (w64 (1 + y78)) y84 (w64 (y90 - 1000)) y173 y174 H95.u1 hy175) ?_
          rintro e177 wd176 ⟨A180, n181, c182, rfl, H179⟩
          obtain rfl := (H179.g1).leneq
          refine ⟨_, rfl, ?_⟩
          refine r_pure (.bool (y173 == 0)) rfl ?_
          refine r_seq ?_
          rcases ite_some hm with ⟨hb183, hm⟩ | ⟨hb183, hm⟩
          · refine st_condt hb183 rfl ?_
            refine st_cut (fun ρ w => ∃ A184 : Option Addr, ∃ n185 : Nat, ∃ c186 : Nat, ∃ xs187 : List api_Bucket, ∃ q188 : Bool, (∃ base, ρ = updl base [(1, .int .i64 (w64 (1 + y66))), (2, .int .i64 y72), (5, .int .i64 (w64 (y90 - 1000))), (13, .pointer (some ⟨b25, 0, none⟩)), (14, .slice A35 y29.length c37), (15, .int .i64 y38), (135, .bool q188)]) ∧ Hp w0 (Row K54 (.slice A184 n185 c186) xs187 :: Bx b25 89 [.slice A184 n185 c186] :: Row K54 (.slice A35 y29.length c37) y29 :: Γ) w ∧ scutagelaw10_BucketSums.j5 y66 y72 y90 y38 y29 xs187 q188 = some r0_) ?_ ?_
            · refine st_region ?_
              refine r_pure (.pointer (some ⟨b25, 0, none⟩)) rfl ?_
              obtain ⟨y191, hy192, hm⟩ := bind_some hm
              refine r_callf Try.call29 (bucket_Register_Total_ok b25 (⟨y174.f_l⟩ : bucket_Register) A180 y174.f_l.length c182 rfl (((H179).g1).cap) (fun _ H => (H.g1.rd)) (fun _ H => (H.g0)) y191 H179 hy192) ?_
              rintro e194 wd193 ⟨rfl, H196⟩
              refine ⟨_, rfl, ?_⟩
              refine r_pure (.int .i64 y38) rfl ?_
              refine r_pure (.bool (y191 != y38)) rfl ?_
              refine r_pure (.bool (y191 != y38)) rfl ?_
              rcases ite_some hm with ⟨hb197, hm⟩ | ⟨hb197, hm⟩
              · refine r_not (wn_f rfl rfl (by decide) rfl hb197) ?_
                refine r_not (wn_f rfl rfl (by decide) rfl hb197) ?_
                refine r_not (wn_f rfl rfl (by decide) rfl hb197) ?_
                refine r_not (wn_f rfl rfl (by decide) rfl hb197) ?_
                refine r_not (wn_f rfl rfl (by decide) rfl hb197) ?_
                refine r_not (wn_f rfl rfl (by decide) rfl hb197) ?_
                refine r_not (wn_f rfl rfl (by decide) rfl hb197) ?_
                refine r_not (wn_f rfl rfl (by decide) rfl hb197) ?_
                refine r_pick_t (.bool true) hb197 rfl rfl ?_
                refine r_pure (.bool true) rfl ?_
                refine r_not (wn_f rfl rfl (by decide) rfl rfl) ?_
                refine r_not (wn_f rfl rfl (by decide) rfl rfl) ?_
                refine r_not (wn_f rfl rfl (by decide) rfl rfl) ?_
                refine r_not (wn_f rfl rfl (by decide) rfl rfl) ?_
                refine r_not (wn_f rfl rfl (by decide) rfl rfl) ?_
                refine r_pick_t (.bool true) rfl rfl rfl ?_
                refine r_nil ?_
                refine n_cut ⟨A180, y174.f_l.length, c182, y174.f_l, true, upk (ac rfl (ac rfl (ac rfl (ac rfl (ac rfl (ac rfl (ac rfl an))))))), H196.u2.u1.u2, hm⟩
              · refine r_pure (.pointer (some ⟨b25, 0, none⟩)) rfl ?_ (wn_t rfl rfl (by decide) rfl hb197)
                refine r_pure (.int .i64 (w64 (1 + y78))) rfl ?_ (wn_t rfl rfl (by decide) rfl hb197)
                refine r_pure (.int .i64 y84) rfl ?_ (wn_t rfl rfl (by decide) rfl hb197)
                refine r_pure (.int .i64 (w64 (1 + y66))) rfl ?_ (wn_t rfl rfl (by decide) rfl hb197)
                refine r_pure (.int .i64 y72) rfl ?_ (wn_t rfl rfl (by decide) rfl hb197)
                refine r_pure (.int .i64 (w64 (y90 - 1000))) rfl ?_ (wn_t rfl rfl (by decide) rfl hb197)
                obtain ⟨⟨y198, y199⟩, hy200, hm⟩ := bind_some hm
                refine r_callf Try.call31 (bucket_Register_Reclass_ok b25 (⟨y174.f_l⟩ : bucket_Register) A180 c182 (w64 (1 + y78)) y84 (w64 (1 + y66)) y72 (w64 (y90 - 1000)) y198 y199 H196.u1.u1 hy200) ?_ (wn_t rfl rfl (by decide) rfl hb197)
                rintro e202 wd201 ⟨A205, n206, c207, rfl, H204⟩
                obtain rfl := (H204.g1).leneq
                refine ⟨_, rfl, ?_⟩
                refine r_pure (.bool (y198 != 0)) rfl ?_ (wn_t rfl rfl (by decide) rfl hb197)
                refine r_pick_f (.bool (y198 != 0)) hb197 rfl rfl ?_
                refine r_pure (.bool (y198 != 0)) rfl ?_
                rcases ite_some hm with ⟨hb208, hm⟩ | ⟨hb208, hm⟩
                · refine r_not (wn_f rfl rfl (by decide) rfl hb208) ?_
                  refine r_not (wn_f rfl rfl (by decide) rfl hb208) ?_
                  refine r_not (wn_f rfl rfl (by decide) rfl hb208) ?_
                  refine r_not (wn_f rfl rfl (by decide) rfl hb208) ?_
                  refine r_not (wn_f rfl rfl (by decide) rfl hb208) ?_
                  refine r_pick_t (.bool true) hb208 rfl rfl ?_
                  refine r_nil ?_
                  refine n_cut ⟨A205, y199.f_l.length, c207, y199.f_l, true, upk (ac rfl (ac rfl (ac rfl (ac rfl (ac rfl (ac rfl (ac rfl an))))))), H204.u2.u1.u2, hm⟩
                · refine r_pure (.pointer (some ⟨b25, 0, none⟩)) rfl ?_ (wn_t rfl rfl (by decide) rfl hb208)
                  obtain ⟨y209, hy210, hm⟩ := bind_some hm
                  refine r_callf Try.call28 (bucket_Register_Rows_ok b25 (⟨y199.f_l⟩ : bucket_Register) A205 y199.f_l.length c207 rfl (((H204).g1).cap) (fun _ H => (H.g1.rd)) (fun _ H => (H.g0)) y209 H204 hy210) ?_ (wn_t rfl rfl (by decide) rfl hb208)
                  rintro e212 wd211 ⟨A215, n216, c217, rfl, H214⟩
                  obtain rfl := (H214.g0).leneq
                  refine ⟨_, rfl, ?_⟩
                  refine r_pure (.slice A35 y29.length c37) rfl ?_ (wn_t rfl rfl (by decide) rfl hb208)
                  obtain ⟨y218, hy219, hm⟩ := bind_some hm
                  refine r_callf Try.call32 (scutagekeep_Same_api_Bucket_ok y209 A215 y209.length c217 rfl (((H214).g0).cap) (fun _ H => (H.g0.rd)) y29 A35 y29.length c37 rfl (((H214).g3).cap) (fun _ H => (H.g3.rd)) y218 H214 hy219) ?_ (wn_t rfl rfl (by decide) rfl hb208)
                  rintro e221 wd220 ⟨rfl, H223⟩
                  refine ⟨_, rfl, ?_⟩
                  refine r_pure (.bool (!y218)) rfl ?_ (wn_t rfl rfl (by decide) rfl hb208)
                  refine r_pick_f (.bool (!y218)) hb208 rfl rfl ?_
                  refine r_nil ?_
                  refine n_cut ⟨A205, y199.f_l.length, c207, y199.f_l, !y218, upk (ac rfl (ac rfl (ac rfl (ac rfl (ac rfl (ac rfl (ac rfl an))))))), H223.d.u2.u1.u2, hm⟩
            · rintro ρ w ⟨A184, n185, c186, xs187, q188, ⟨base, rfl⟩, H189, hm⟩
              obtain rfl := (H189.g0).leneq
              unfold scutagelaw10_BucketSums.j5 at hm
              rcases ite_some hm with ⟨hb190, hm⟩ | ⟨hb190, hm⟩
              · refine st_condt hb190 rfl ?_
                refine st_seq ?_
                refine st_region ?_
                refine r_pure (.bool false) rfl ?_
                refine r_seq ?_
                have hq_ := Option.some.inj hm
                subst hq_
                refine st_ret1 rfl rfl (Nat.le_of_ble_eq_true rfl) rfl ?_
                exact ⟨rfl, H189.d.d.d⟩
              · refine st_condf hb190 rfl ?_
                refine st_skip ?_
                refine n_cut ⟨A184, xs187.length, c186, xs187, upk (ac rfl (ac rfl (ac rfl (ac rfl (ac rfl (ac rfl an)))))), H189.u2.u2.u2, hm⟩
          · refine st_condf hb183 rfl ?_
            refine st_skip ?_
            refine n_cut ⟨A180, y174.f_l.length, c182, y174.f_l, upk (ac rfl (ac rfl (ac rfl (ac rfl (ac rfl (ac rfl an)))))), H179.u2.u1.u2, hm⟩
        · rintro ρ w ⟨A97, n98, c99, xs100, ⟨base, rfl⟩, H101, hm⟩
          obtain rfl := (H101.g0).leneq
          unfold scutagelaw10_BucketSums.j1 at hm
          refine st_cut (fun ρ w => ∃ A102 : Option Addr, ∃ n103 : Nat, ∃ c104 : Nat, ∃ xs105 : List api_Bucket, (∃ base, ρ = updl base [(13, .pointer (some ⟨b25, 0, none⟩)), (14, .slice A35 y29.length c37), (15, .int .i64 y38)]) ∧ Hp w0 (Row K54 (.slice A102 n103 c104) xs105 :: Bx b25 89 [.slice A102 n103 c104] :: Row K54 (.slice A35 y29.length c37) y29 :: Γ) w ∧ scutagelaw10_BucketSums.j2 y29 y38 xs105 = some r0_) ?_ ?_
          · refine st_seq ?_
            refine st_region ?_
            refine r_pure (.pointer (some ⟨b25, 0, none⟩)) rfl ?_
            refine r_pure (.int .i64 (w64 (1 + y66))) rfl ?_
            refine r_pure (.int .i64 y72) rfl ?_
            refine r_pure (.int .i64 (w64 (y90 - 1000))) rfl ?_
            obtain ⟨⟨y138, y139⟩, hy140, hm⟩ := bind_some hm
            refine r_callf Try.call33 (bucket_Register_Move_ok b25 (⟨xs100⟩ : bucket_Register) A97 c99 (w64 (1 + y66)) y72 (w64 (y90 - 1000)) y138 y139 H101.u1 hy140) ?_
            rintro e142 wd141 ⟨A145, n146, c147, rfl, H144⟩
            obtain rfl := (H144.g1).leneq
            refine ⟨_, rfl, ?_⟩
            refine r_pure (.bool (y138 == 0)) rfl ?_
            refine r_seq ?_
            rcases ite_some hm with ⟨hb148, hm⟩ | ⟨hb148, hm⟩
            · refine st_condt hb148 rfl ?_
              refine st_cut (fun ρ w => ∃ A149 : Option Addr, ∃ n150 : Nat, ∃ c151 : Nat, ∃ xs152 : List api_Bucket, ∃ q153 : Bool, (∃ base, ρ = updl base [(13, .pointer (some ⟨b25, 0, none⟩)), (14, .slice A35 y29.length c37), (15, .int .i64 y38), (156, .bool q153)]) ∧ Hp w0 (Row K54 (.slice A149 n150 c151) xs152 :: Bx b25 89 [.slice A149 n150 c151] :: Row K54 (.slice A35 y29.length c37) y29 :: Γ) w ∧ scutagelaw10_BucketSums.j4 y29 y38 xs152 q153 = some r0_) ?_ ?_
              · refine st_region ?_
                refine r_pure (.pointer (some ⟨b25, 0, none⟩)) rfl ?_
                obtain ⟨y156, hy157, hm⟩ := bind_some hm
                refine r_callf Try.call29 (bucket_Register_Total_ok b25 (⟨y139.f_l⟩ : bucket_Register) A145 y139.f_l.length c147 rfl (((H144).g1).cap) (fun _ H => (H.g1.rd)) (fun _ H => (H.g0)) y156 H144 hy157) ?_
                rintro e159 wd158 ⟨rfl, H161⟩
                refine ⟨_, rfl, ?_⟩
                refine r_pure (.int .i64 y38) rfl ?_
                refine r_pure (.int .i64 (w64 (y90 - 1000))) rfl ?_
                refine r_pure (.int .i64 (w64 (y38 + w64 (y90 - 1000)))) rfl ?_
                refine r_pure (.bool (y156 != w64 (y38 + w64 (y90 - 1000)))) rfl ?_
                refine r_pure (.bool (y156 != w64 (y38 + w64 (y90 - 1000)))) rfl ?_
                rcases ite_some hm with ⟨hb162, hm⟩ | ⟨hb162, hm⟩
                · refine r_not (wn_f rfl rfl (by decide) rfl hb162) ?_
                  refine r_not (wn_f rfl rfl (by decide) rfl hb162) ?_
                  refine r_not (wn_f rfl rfl (by decide) rfl hb162) ?_
                  refine r_not (wn_f rfl rfl (by decide) rfl hb162) ?_
                  refine r_not (wn_f rfl rfl (by decide) rfl hb162) ?_
                  refine r_not (wn_f rfl rfl (by decide) rfl hb162) ?_
                  refine r_not (wn_f rfl rfl (by decide) rfl hb162) ?_
                  refine r_pick_t (.bool true) hb162 rfl rfl ?_
                  refine r_nil ?_
                  refine n_cut ⟨A145, y139.f_l.length, c147, y139.f_l, true, upk (ac rfl (ac rfl (ac rfl (ac rfl an)))), H161.u2.u1.u2, hm⟩
                · refine r_pure (.pointer (some ⟨b25, 0, none⟩)) rfl ?_ (wn_t rfl rfl (by decide) rfl hb162)
                  refine r_pure (.int .i64 (w64 (1 + y66))) rfl ?_ (wn_t rfl rfl (by decide) rfl hb162)
                  refine r_pure (.int .i64 y72) rfl ?_ (wn_t rfl rfl (by decide) rfl hb162)
                  refine r_pure (.int .i64 (w64 (y90 - 1000))) rfl ?_ (wn_t rfl rfl (by decide) rfl hb162)
                  refine r_pure (.int .i64 (w64 (0 - w64 (y90 - 1000)))) rfl ?_ (wn_t rfl rfl (by decide) rfl hb162)
                  obtain ⟨⟨y163, y164⟩, hy165, hm⟩ := bind_some hm
                  refine r_callf Try.call33 (bucket_Register_Move_ok b25 (⟨y139.f_l⟩ : bucket_Register) A145 c147 (w64 (1 + y66)) y72 (w64 (0 - w64 (y90 - 1000))) y163 y164 H161.u1.u1 hy165) ?_ (wn_t rfl rfl (by decide) rfl hb162)
                  rintro e167 wd166 ⟨A170, n171, c172, rfl, H169⟩
                  obtain rfl := (H169.g1).leneq
                  refine ⟨_, rfl, ?_⟩
                  refine r_pure (.bool (y163 != 0)) rfl ?_ (wn_t rfl rfl (by decide) rfl hb162)
                  refine r_pick_f (.bool (y163 != 0)) hb162 rfl rfl ?_
                  refine r_nil ?_
                  refine n_cut ⟨A170, y164.f_l.length, c172, y164.f_l, y163 != 0, upk (ac rfl (ac rfl (ac rfl (ac rfl an)))), H169.u2.u1.u2, hm⟩
              · rintro ρ w ⟨A149, n150, c151, xs152, q153, ⟨base, rfl⟩, H154, hm⟩
                obtain rfl := (H154.g0).leneq
                unfold scutagelaw10_BucketSums.j4 at hm
                rcases ite_some hm with ⟨hb155, hm⟩ | ⟨hb155, hm⟩
                · refine st_condt hb155 rfl ?_
                  refine st_seq ?_
                  refine st_region ?_
                  refine r_pure (.bool false) rfl ?_
                  refine r_seq ?_
                  have hq_ := Option.some.inj hm
                  subst hq_
                  refine st_ret1 rfl rfl (Nat.le_of_ble_eq_true rfl) rfl ?_
                  exact ⟨rfl, H154.d.d.d⟩
                · refine st_condf hb155 rfl ?_
                  refine st_skip ?_
                  refine n_cut ⟨A149, xs152.length, c151, xs152, upk (ac rfl (ac rfl (ac rfl an))), H154.u2.u2.u2, hm⟩
            · refine st_condf hb148 rfl ?_
              refine st_skip ?_
              refine n_cut ⟨A145, y139.f_l.length, c147, y139.f_l, upk (ac rfl (ac rfl (ac rfl an))), H144.u2.u1.u2, hm⟩
          · rintro ρ w ⟨A102, n103, c104, xs105, ⟨base, rfl⟩, H106, hm⟩
            obtain rfl := (H106.g0).leneq
            unfold scutagelaw10_BucketSums.j2 at hm
            refine st_cut (fun ρ w => ∃ q107 : Bool, (∃ base, ρ = updl base [(12, .bool q107)]) ∧ Hp w0 (Γ) w ∧ scutagelaw10_BucketSums.j3 q107 = some r0_) ?_ ?_
            · refine st_region ?_
              refine r_pure (.pointer (some ⟨b25, 0, none⟩)) rfl ?_
              obtain ⟨y109, hy110, hm⟩ := bind_some hm
              refine r_callf Try.call28 (bucket_Register_Rows_ok b25 (⟨xs105⟩ : bucket_Register) A102 xs105.length c104 rfl (((H106).g0).cap) (fun _ H => (H.g0.rd)) (fun _ H => (H.g1)) y109 H106 hy110) ?_
              rintro e112 wd111 ⟨A115, n116, c117, rfl, H114⟩
              obtain rfl := (H114.g0).leneq
              refine ⟨_, rfl, ?_⟩
              refine r_pure (.slice A35 y29.length c37) rfl ?_
              obtain ⟨y118, hy119, hm⟩ := bind_some hm
              refine r_callf Try.call32 (scutagekeep_Same_api_Bucket_ok y109 A115 y109.length c117 rfl (((H114).g0).cap) (fun _ H => (H.g0.rd)) y29 A35 y29.length c37 rfl (((H114).g3).cap) (fun _ H => (H.g3.rd)) y118 H114 hy119) ?_
              rintro e121 wd120 ⟨rfl, H123⟩
              refine ⟨_, rfl, ?_⟩
              refine r_pure (.bool y118) rfl ?_
              rcases ite_some hm with ⟨hb124, hm⟩ | ⟨hb124, hm⟩
              · refine r_pure (.pointer (some ⟨b25, 0, none⟩)) rfl ?_ (wn_t rfl rfl (by decide) rfl hb124)
                obtain ⟨y125, hy126, hm⟩ := bind_some hm
                refine r_callf Try.call29 (bucket_Register_Total_ok b25 (⟨xs105⟩ : bucket_Register) A102 xs105.length c104 rfl (((H123).g1).cap) (fun _ H => (H.g1.rd)) (fun _ H => (H.g2)) y125 H123 hy126) ?_ (wn_t rfl rfl (by decide) rfl hb124)
                rintro e128 wd127 ⟨rfl, H130⟩
                refine ⟨_, rfl, ?_⟩
                refine r_pure (.int .i64 y38) rfl ?_ (wn_t rfl rfl (by decide) rfl hb124)
                refine r_pure (.bool (y125 == y38)) rfl ?_ (wn_t rfl rfl (by decide) rfl hb124)
                refine r_pick_t (.bool (y125 == y38)) hb124 rfl rfl ?_
                refine r_pure (.bool (y125 == y38)) rfl ?_
                rcases ite_some hm with ⟨hb131, hm⟩ | ⟨hb131, hm⟩
                · obtain ⟨y132, hy133, hm⟩ := bind_some hm
                  refine r_callf Try.call34 (scutagelaw10_wakes_ok  y132 H130 hy133) ?_ (wn_t rfl rfl (by decide) rfl hb131)
                  rintro e135 wd134 ⟨rfl, H137⟩
                  refine ⟨_, rfl, ?_⟩
                  refine r_pick_t (.bool y132) hb131 rfl rfl ?_
                  refine r_pure (.bool y132) rfl ?_
                  refine r_nil ?_
                  refine n_cut ⟨y132, upk (ac rfl an), H137.d.d.d.d, hm⟩
                · refine r_not (wn_f rfl rfl (by decide) rfl hb131) ?_
                  refine r_pick_f (.bool false) hb131 rfl rfl ?_
                  refine r_pure (.bool false) rfl ?_
                  refine r_nil ?_
                  refine n_cut ⟨false, upk (ac rfl an), H130.d.d.d.d, hm⟩
              · refine r_not (wn_f rfl rfl (by decide) rfl hb124) ?_
                refine r_not (wn_f rfl rfl (by decide) rfl hb124) ?_
                refine r_not (wn_f rfl rfl (by decide) rfl hb124) ?_
                refine r_not (wn_f rfl rfl (by decide) rfl hb124) ?_
                refine r_pick_f (.bool false) hb124 rfl rfl ?_
                refine r_pure (.bool false) rfl ?_
                refine r_not (wn_f rfl rfl (by decide) rfl rfl) ?_
                refine r_pick_f (.bool false) rfl rfl rfl ?_
                refine r_pure (.bool false) rfl ?_
                refine r_nil ?_
                refine n_cut ⟨false, upk (ac rfl an), H123.d.d.d.d, hm⟩
            · rintro ρ w ⟨q107, ⟨base, rfl⟩, H108, hm⟩
              unfold scutagelaw10_BucketSums.j3 at hm
              have hq_ := Option.some.inj hm
              subst hq_
              refine st_ret1 rfl rfl (Nat.le_of_ble_eq_true rfl) rfl ?_
              exact ⟨rfl, H108⟩
    · rw [scutagelaw10_BucketSums.l1] at hm
      have hb60 := range_in hxs52 hi53
      obtain ⟨h061, h162, hj63⟩ := range_ix hxs52 hi53
      have hnx64 := range_next hxs52 hi53 hlim65
      refine st_seq ?_
      refine st_region ?_
      refine r_pure (.bool (decide (i50 < (y29.length : Int)))) rfl ?_
      refine r_seq ?_
      refine st_seq ?_
      refine st_condt hb60 rfl ?_
      refine st_skip ?_
      refine n_sq ?_
      refine st_seq ?_
      refine st_block ?_
      refine st_seq ?_
      refine st_region ?_
      refine r_pure (.int .i64 i50) rfl ?_
      have hA224 := (H46.g2.rd).adO hj63
      refine r_ix IX51 rfl rfl hA224 h061 h162 ?_
      refine r_ldA [.int .i64 y55.Class, .int .i64 y55.Year, .int .i64 y55.Amount] LD54 rfl rfl ((H46.g2.rd).csA hA224 hj63) ?_
      refine r_alloc [.int .i64 0, .int .i64 0, .int .i64 0] Try.zeroValue54 H46 rfl ?_
      intro b225 wd227 H226
      refine r_pure (.int .i64 i50) rfl ?_
      refine r_stA [.int .i64 y55.Class, .int .i64 y55.Year, .int .i64 y55.Amount] LD54 rfl rfl rfl rfl H226 (Nat.le_of_ble_eq_true rfl) rfl ?_
      intro wd229 H228
      refine r_seq ?_
      refine st_seq ?_
      refine st_region ?_
      refine r_pure (.int .i64 v45) rfl ?_
      refine r_fa FA54_2 ⟨b225, 2, none⟩ rfl rfl ?_
      refine r_ld1 (.int .i64 y55.Amount) LD3 rfl ((H228.g0).cell _ rfl) ?_
      refine r_pure (.int .i64 (w64 (v45 + y55.Amount))) rfl ?_
      refine r_pure (.int .i64 (w64 (v45 + y55.Amount))) rfl ?_
      refine r_seq ?_
      refine st_cut (fun ρ w => ∃ q230 : Bool, (∃ base, ρ = updl base [(1, .int .i64 class_), (2, .int .i64 year), (3, .int .i64 class2), (4, .int .i64 year2), (5, .int .i64 n_), (13, .pointer (some ⟨b25, 0, none⟩)), (14, .slice A35 y29.length c37), (15, .int .i64 y38), (16, .int .i64 (w64 (v45 + y55.Amount))), (28, .slice A35 y29.length c37), (29, .int .i64 (y29.length : Int)), (30, .int .i64 i50), (89, .bool q230)]) ∧ Hp w0 (Row K54 (.slice A26 o21.f_l.length c28) o21.f_l :: Bx b25 89 [.slice A26 o21.f_l.length c28] :: Row K54 (.slice A35 y29.length c37) y29 :: Γ) w ∧ scutagelaw10_BucketSums.j6 (scutagelaw10_BucketSums.l1 o21 y29 ys54) i50 v45 y55 q230 = some tl48) ?_ ?_
      · rcases ite_some hm with ⟨hb234, hm⟩ | ⟨hb234, hm⟩
        · refine Flow.run' ([] :: [0] :: [0, 1] :: [0, 1, 2] :: [0, 1, 2, 3] :: [0, 1, 2, 3] :: [0, 1, 2, 3, 5] :: [0, 1, 2, 3] :: [0, 1, 2, 3, 7] :: [0, 1, 2, 3, 4, 5, 6, 7, 8] :: [0, 1, 2, 3] :: [0, 1, 2, 3, 10] :: [0, 1, 2, 3, 4, 5, 6, 7, 8, 9, 10, 11] :: [0, 1, 2, 3, 4, 5, 6, 7, 8, 9, 10, 11, 12] :: [0, 1, 2, 3, 4, 5, 6, 7, 8, 9, 10, 11, 12, 13] :: [0, 1, 2, 3, 4, 5, 6, 7, 8, 9, 10, 11, 12, 13, 14] :: [0, 1, 2, 3, 4, 5, 6, 7, 8, 9, 10, 11, 12, 13, 14, 15] :: [0, 1, 2, 3, 4, 5, 6, 7, 8, 9, 10, 11, 12, 13, 14, 15, 16] :: [0, 1, 2, 3, 4, 5, 6, 7, 8, 9, 10, 11, 12, 13, 14, 15, 16, 17] :: [0, 1, 2, 3, 4, 5, 6, 7, 8, 9, 10, 11, 12, 13, 14, 15, 16, 17, 18] :: [0, 1, 2, 3, 4, 5, 6, 7, 8, 9, 10, 11, 12, 13, 14, 15, 16, 17] :: [0, 1, 2, 3, 4, 5, 6, 7, 8, 9, 10, 11, 12, 13, 14, 15, 16, 17] :: [0, 1, 2, 3, 4, 5, 6, 7, 8, 9, 10, 11, 12, 13, 14, 15, 16, 17, 21] :: [0, 1, 2, 3, 4, 5, 6, 7, 8, 9, 10, 11, 12, 13, 14, 15, 16, 17, 20, 21, 22] :: [0, 1, 2, 3, 4, 5, 6, 7, 8, 9, 10, 11, 12, 13, 14, 15, 16, 17, 20, 21, 22, 23] :: [0, 1, 2, 3, 4, 5, 6, 7, 8, 9, 10, 11, 12, 13, 14, 15, 16, 17, 20, 21, 22, 23, 24] :: [0, 1, 2, 3, 4, 5, 6, 7, 8, 9, 10, 11, 12, 13, 14, 15, 16, 17, 18, 19, 20, 21, 22, 23, 24, 25] :: [0, 1, 2, 3, 4, 5, 6, 7, 8, 9, 10, 11, 12, 13, 14, 15, 16, 17, 18, 19, 20, 21, 22, 23, 24, 25, 26] :: [0, 1, 2, 3, 4, 5, 6, 7, 8, 9, 10, 11, 12, 13, 14, 15, 16, 17, 18, 19, 20, 21, 22, 23, 24, 25, 26, 27] :: [0, 1, 2, 3, 4, 5, 6, 7, 8, 9, 10, 11, 12, 13, 14, 15, 16, 17, 18, 19, 20, 21, 22, 23, 24, 25, 26, 27, 28] :: [0, 1, 2, 3, 4, 5, 6, 7, 8, 9, 10, 11, 12, 13, 14, 15, 16, 17, 18, 19, 20, 21, 22, 23, 24, 25, 26, 27] :: [0, 1, 2, 3, 4, 5, 6, 7, 8, 9, 10, 11, 12, 13, 14, 15, 16, 17, 18, 19, 20, 21, 22, 23, 24, 25, 26, 27] :: [0, 1, 2, 3, 4, 5, 6, 7, 8, 9, 10, 11, 12, 13, 14, 15, 16, 17, 18, 19, 20, 21, 22, 23, 24, 25, 26, 27, 31] :: [0, 1, 2, 3, 4, 5, 6, 7, 8, 9, 10, 11, 12, 13, 14, 15, 16, 17, 18, 19, 20, 21, 22, 23, 24, 25, 26, 27, 30, 31, 32] :: [0, 1, 2, 3, 4, 5, 6, 7, 8, 9, 10, 11, 12, 13, 14, 15, 16, 17, 18, 19, 20, 21, 22, 23, 24, 25, 26, 27, 30, 31, 32, 33] :: [0, 1, 2, 3, 4, 5, 6, 7, 8, 9, 10, 11, 12, 13, 14, 15, 16, 17, 18, 19, 20, 21, 22, 23, 24, 25, 26, 27, 30, 31, 32, 33, 34] :: [0, 1, 2, 3, 4, 5, 6, 7, 8, 9, 10, 11, 12, 13, 14, 15, 16, 17, 18, 19, 20, 21, 22, 23, 24, 25, 26, 27, 28, 29, 30, 31, 32, 33, 34, 35] :: [0, 1, 2, 3, 4, 5, 6, 7, 8, 9, 10, 11, 12, 13, 14, 15, 16, 17, 18, 19, 20, 21, 22, 23, 24, 25, 26, 27, 28, 29, 30, 31, 32, 33, 34, 35, 36] :: [0, 1, 2, 3, 4, 5, 6, 7, 8, 9, 10, 11, 12, 13, 14, 15, 16, 17, 18, 19, 20, 21, 22, 23, 24, 25, 26, 27, 28, 29, 30, 31, 32, 33, 34, 35, 36, 37] :: [0, 1, 2, 3, 4, 5, 6, 7, 8, 9, 10, 11, 12, 13, 14, 15, 16, 17, 18, 19, 20, 21, 22, 23, 24, 25, 26, 27, 28, 29, 30, 31, 32, 33, 34, 35, 36, 37, 38] :: [0, 1, 2, 3, 4, 5, 6, 7, 8, 9, 10, 11, 12, 13, 14, 15, 16, 17, 18, 19, 20, 21, 22, 23, 24, 25, 26, 27, 28, 29, 30, 31, 32, 33, 34, 35, 36, 37] :: [0, 1, 2, 3, 4, 5, 6, 7, 8, 9, 10, 11, 12, 13, 14, 15, 16, 17, 18, 19, 20, 21, 22, 23, 24, 25, 26, 27, 28, 29, 30, 31, 32, 33, 34, 35, 36, 37] :: [0, 1, 2, 3, 4, 5, 6, 7, 8, 9, 10, 11, 12, 13, 14, 15, 16, 17, 18, 19, 20, 21, 22, 23, 24, 25, 26, 27, 28, 29, 30, 31, 32, 33, 34, 35, 36, 37, 41] :: [0, 1, 2, 3, 4, 5, 6, 7, 8, 9, 10, 11, 12, 13, 14, 15, 16, 17, 18, 19, 20, 21, 22, 23, 24, 25, 26, 27, 28, 29, 30, 31, 32, 33, 34, 35, 36, 37, 40, 41, 42] :: [0, 1, 2, 3, 4, 5, 6, 7, 8, 9, 10, 11, 12, 13, 14, 15, 16, 17, 18, 19, 20, 21, 22, 23, 24, 25, 26, 27, 28, 29, 30, 31, 32, 33, 34, 35, 36, 37, 40, 41, 42, 43] :: [0, 1, 2, 3, 4, 5, 6, 7, 8, 9, 10, 11, 12, 13, 14, 15, 16, 17, 18, 19, 20, 21, 22, 23, 24, 25, 26, 27, 28, 29, 30, 31, 32, 33, 34, 35, 36, 37, 40, 41, 42, 43, 44] :: [0, 1, 2, 3, 4, 5, 6, 7, 8, 9, 10, 11, 12, 13, 14, 15, 16, 17, 18, 19, 20, 21, 22, 23, 24, 25, 26, 27, 28, 29, 30, 31, 32, 33, 34, 35, 36, 37, 38, 39, 40, 41, 42, 43, 44, 45] :: [0, 1, 2, 3, 4, 5, 6, 7, 8, 9, 10, 11, 12, 13, 14, 15, 16, 17, 18, 19, 20, 21, 22, 23, 24, 25, 26, 27, 28, 29, 30, 31, 32, 33, 34, 35, 36, 37, 38, 39, 40, 41, 42, 43, 44, 45, 46] :: [0, 1, 2, 3, 4, 5, 6, 7, 8, 9, 10, 11, 12, 13, 14, 15, 16, 17, 18, 19, 20, 21, 22, 23, 24, 25, 26, 27, 28, 29, 30, 31, 32, 33, 34, 35, 36, 37, 38, 39, 40, 41, 42, 43, 44, 45, 46, 47] :: [0, 1, 2, 3, 4, 5, 6, 7, 8, 9, 10, 11, 12, 13, 14, 15, 16, 17, 18, 19, 20, 21, 22, 23, 24, 25, 26, 27, 28, 29, 30, 31, 32, 33, 34, 35, 36, 37, 38, 39, 40, 41, 42, 43, 44, 45, 46, 47, 48] :: [0, 1, 2, 3, 4, 5, 6, 7, 8, 9, 10, 11, 12, 13, 14, 15, 16, 17, 18, 19, 20, 21, 22, 23, 24, 25, 26, 27, 28, 29, 30, 31, 32, 33, 34, 35, 36, 37, 38, 39, 40, 41, 42, 43, 44, 45, 46, 47, 48, 49] :: []) ((39, 0) :: (40, 1) :: (41, 2) :: (42, 3) :: (43, 4) :: (44, 5) :: (45, 6) :: (46, 7) :: (47, 8) :: (48, 9) :: (49, 10) :: (50, 11) :: (51, 12) :: (52, 13) :: (53, 14) :: (54, 15) :: (55, 16) :: (56, 17) :: (57, 18) :: (58, 19) :: (59, 20) :: (60, 21) :: (61, 22) :: (62, 23) :: (63, 24) :: (64, 25) :: (65, 26) :: (66, 27) :: (67, 28) :: (68, 29) :: (69, 30) :: (70, 31) :: (71, 32) :: (72, 33) :: (73, 34) :: (74, 35) :: (75, 36) :: (76, 37) :: (77, 38) :: (78, 39) :: (79, 40) :: (80, 41) :: (81, 42) :: (82, 43) :: (83, 44) :: (84, 45) :: (85, 46) :: (86, 47) :: (87, 48) :: (88, 49) :: (89, 50) :: []) ((fun η233 v => v.1 = .pointer (some ⟨b225, 2, none⟩)) :: (fun η233 v => v.1 = .int .i64 y55.Amount) :: (fun η233 v => v.1 = .bool (y55.Amount == 0)) :: (fun η233 v => v.1 = .bool (y55.Amount == 0)) :: (fun η233 v => v.1 = undef) :: (fun η233 v => v.1 = undef) :: (fun η233 v => v.1 = undef) :: (fun η233 v => v.1 = undef) :: (fun η233 v => v.1 = undef) :: (fun η233 v => v.1 = undef) :: (fun η233 v => v.1 = undef) :: (fun η233 v => v.1 = undef) :: (fun η233 v => v.1 = undef) :: (fun η233 v => v.1 = .bool true) :: (fun η233 v => v.1 = .bool true) :: (fun η233 v => v.1 = undef) :: (fun η233 v => v.1 = undef) :: (fun η233 v => v.1 = undef) :: (fun η233 v => v.1 = undef) :: (fun η233 v => v.1 = undef) :: (fun η233 v => v.1 = undef) :: (fun η233 v => v.1 = undef) :: (fun η233 v => v.1 = undef) :: (fun η233 v => v.1 = undef) :: (fun η233 v => v.1 = undef) :: (fun η233 v => v.1 = undef) :: (fun η233 v => v.1 = undef) :: (fun η233 v => v.1 = undef) :: (fun η233 v => v.1 = undef) :: (fun η233 v => v.1 = undef) :: (fun η233 v => v.1 = undef) :: (fun η233 v => v.1 = undef) :: (fun η233 v => v.1 = undef) :: (fun η233 v => v.1 = undef) :: (fun η233 v => v.1 = undef) :: (fun η233 v => v.1 = undef) :: (fun η233 v => v.1 = undef) :: (fun η233 v => v.1 = undef) :: (fun η233 v => v.1 = undef) :: (fun η233 v => v.1 = undef) :: (fun η233 v => v.1 = undef) :: (fun η233 v => v.1 = undef) :: (fun η233 v => v.1 = undef) :: (fun η233 v => v.1 = undef) :: (fun η233 v => v.1 = undef) :: (fun η233 v => v.1 = undef) :: (fun η233 v => v.1 = undef) :: (fun η233 v => v.1 = undef) :: (fun η233 v => v.1 = undef) :: (fun η233 v => v.1 = undef) :: (fun η233 v => v.1 = .bool true) :: []) [] rfl (by kernel_rfl) (by kernel_rfl) H228 ⟨?_, ?_, ?_, ?_, ?_, ?_, ?_, ?_, ?_, ?_, ?_, ?_, ?_, ?_, ?_, ?_, ?_, ?_, ?_, ?_, ?_, ?_, ?_, ?_, ?_, ?_, ?_, ?_, ?_, ?_, ?_, ?_, ?_, ?_, ?_, ?_, ?_, ?_, ?_, ?_, ?_, ?_, ?_, ?_, ?_, ?_, ?_, ?_, ?_, ?_, ?_, trivial⟩ ?_
          · intro η233 wd238 Δ239 hE235 hR236 H237
            have H237 : Hp w0 ((Δ239 ++ (Bx b225 54 [.int .i64 y55.Class, .int .i64 y55.Year, .int .i64 y55.Amount] :: Row K54 (.slice A26 o21.f_l.length c28) o21.f_l :: Bx b25 89 [.slice A26 o21.f_l.length c28] :: Row K54 (.slice A35 y29.length c37) y29 :: Γ))) wd238 := H237
            refine sp_op [(18, .pointer (some ⟨b225, 0, none⟩))] (ac rfl an) ?_
            refine r_fa FA54_2 ⟨b225, 2, none⟩ rfl rfl ?_
            exact r_nil (n_lp ⟨_, rfl, undef, rfl, H237⟩)
          · intro η233 wd243 Δ244 hE240 hR241 H242
            have H242 : Hp w0 ((Δ244 ++ (Bx b225 54 [.int .i64 y55.Class, .int .i64 y55.Year, .int .i64 y55.Amount] :: Row K54 (.slice A26 o21.f_l.length c28) o21.f_l :: Bx b25 89 [.slice A26 o21.f_l.length c28] :: Row K54 (.slice A35 y29.length c37) y29 :: Γ))) wd243 := H242
            refine sp_op [(39, .pointer (some ⟨b225, 2, none⟩))] (ac (hE240 0 (by decide)) an) ?_
            refine r_ld1 (.int .i64 y55.Amount) LD3 rfl (((H242).tl.g0).cell _ rfl) ?_
            exact r_nil (n_lp ⟨_, rfl, undef, rfl, H242⟩)
          · intro η233 wd248 Δ249 hE245 hR246 H247
            have H247 : Hp w0 ((Δ249 ++ (Bx b225 54 [.int .i64 y55.Class, .int .i64 y55.Year, .int .i64 y55.Amount] :: Row K54 (.slice A26 o21.f_l.length c28) o21.f_l :: Bx b25 89 [.slice A26 o21.f_l.length c28] :: Row K54 (.slice A35 y29.length c37) y29 :: Γ))) wd248 := H247
            refine sp_op [(40, .int .i64 y55.Amount)] (ac (hE245 1 (by decide)) an) ?_
            refine r_pure (.bool (y55.Amount == 0)) rfl ?_
            exact r_nil (n_lp ⟨_, rfl, undef, rfl, H247⟩)
          · intro η233 wd253 Δ254 hE250 hR251 H252
            have H252 : Hp w0 ((Δ254 ++ (Bx b225 54 [.int .i64 y55.Class, .int .i64 y55.Year, .int .i64 y55.Amount] :: Row K54 (.slice A26 o21.f_l.length c28) o21.f_l :: Bx b25 89 [.slice A26 o21.f_l.length c28] :: Row K54 (.slice A35 y29.length c37) y29 :: Γ))) wd253 := H252
            refine sp_op [(41, .bool (y55.Amount == 0))] (ac (hE250 2 (by decide)) an) ?_
            refine r_pure (.bool (y55.Amount == 0)) rfl ?_
            exact r_nil (n_lp ⟨_, rfl, undef, rfl, H252⟩)
          · intro η233 wd258 Δ259 hE255 hR256 H257
            have H257 : Hp w0 ((Δ259 ++ (Bx b225 54 [.int .i64 y55.Class, .int .i64 y55.Year, .int .i64 y55.Amount] :: Row K54 (.slice A26 o21.f_l.length c28) o21.f_l :: Bx b25 89 [.slice A26 o21.f_l.length c28] :: Row K54 (.slice A35 y29.length c37) y29 :: Γ))) wd258 := H257
            refine sp_op [(13, .pointer (some ⟨b25, 0, none⟩)), (42, .bool (y55.Amount == 0))] (ac rfl (ac (hE255 3 (by decide)) an)) ?_
            refine r_not (wn_f rfl rfl (by decide) rfl hb234) ?_
            exact r_nil (n_lp ⟨_, rfl, undef, rfl, H257⟩)
          · intro η233 wd263 Δ264 hE260 hR261 H262
            have H262 : Hp w0 ((Δ264 ++ (Bx b225 54 [.int .i64 y55.Class, .int .i64 y55.Year, .int .i64 y55.Amount] :: Row K54 (.slice A26 o21.f_l.length c28) o21.f_l :: Bx b25 89 [.slice A26 o21.f_l.length c28] :: Row K54 (.slice A35 y29.length c37) y29 :: Γ))) wd263 := H262
            refine sp_op [(18, .pointer (some ⟨b225, 0, none⟩)), (42, .bool (y55.Amount == 0))] (ac rfl (ac (hE260 3 (by decide)) an)) ?_
            refine r_not (wn_f rfl rfl (by decide) rfl hb234) ?_
            exact r_nil (n_lp ⟨_, rfl, undef, rfl, H262⟩)
          · intro η233 wd268 Δ269 hE265 hR266 H267
            have H267 : Hp w0 ((Δ269 ++ (Bx b225 54 [.int .i64 y55.Class, .int .i64 y55.Year, .int .i64 y55.Amount] :: Row K54 (.slice A26 o21.f_l.length c28) o21.f_l :: Bx b25 89 [.slice A26 o21.f_l.length c28] :: Row K54 (.slice A35 y29.length c37) y29 :: Γ))) wd268 := H267
            refine sp_op [(42, .bool (y55.Amount == 0)), (44, undef)] (ac (hE265 3 (by decide)) (ac (hE265 5 (by decide)) an)) ?_
            refine r_not (wn_f rfl rfl (by decide) rfl hb234) ?_
            exact r_nil (n_lp ⟨_, rfl, undef, rfl, H267⟩)
          · intro η233 wd273 Δ274 hE270 hR271 H272
            have H272 : Hp w0 ((Δ274 ++ (Bx b225 54 [.int .i64 y55.Class, .int .i64 y55.Year, .int .i64 y55.Amount] :: Row K54 (.slice A26 o21.f_l.length c28) o21.f_l :: Bx b25 89 [.slice A26 o21.f_l.length c28] :: Row K54 (.slice A35 y29.length c37) y29 :: Γ))) wd273 := H272
            refine sp_op [(18, .pointer (some ⟨b225, 0, none⟩)), (42, .bool (y55.Amount == 0))] (ac rfl (ac (hE270 3 (by decide)) an)) ?_
            refine r_not (wn_f rfl rfl (by decide) rfl hb234) ?_
            exact r_nil (n_lp ⟨_, rfl, undef, rfl, H272⟩)
          · intro η233 wd278 Δ279 hE275 hR276 H277
            have H277 : Hp w0 ((Δ279 ++ (Bx b225 54 [.int .i64 y55.Class, .int .i64 y55.Year, .int .i64 y55.Amount] :: Row K54 (.slice A26 o21.f_l.length c28) o21.f_l :: Bx b25 89 [.slice A26 o21.f_l.length c28] :: Row K54 (.slice A35 y29.length c37) y29 :: Γ))) wd278 := H277
            refine sp_op [(42, .bool (y55.Amount == 0)), (46, undef)] (ac (hE275 3 (by decide)) (ac (hE275 7 (by decide)) an)) ?_
            refine r_not (wn_f rfl rfl (by decide) rfl hb234) ?_
            exact r_nil (n_lp ⟨_, rfl, undef, rfl, H277⟩)
          · intro η233 wd283 Δ284 hE280 hR281 H282
            have H282 : Hp w0 ((Δ284 ++ (Bx b225 54 [.int .i64 y55.Class, .int .i64 y55.Year, .int .i64 y55.Amount] :: Row K54 (.slice A26 o21.f_l.length c28) o21.f_l :: Bx b25 89 [.slice A26 o21.f_l.length c28] :: Row K54 (.slice A35 y29.length c37) y29 :: Γ))) wd283 := H282
            refine sp_op [(42, .bool (y55.Amount == 0)), (43, undef), (45, undef), (47, undef)] (ac (hE280 3 (by decide)) (ac (hE280 4 (by decide)) (ac (hE280 6 (by decide)) (ac (hE280 8 (by decide)) an)))) ?_
            refine r_not (wn_f rfl rfl (by decide) rfl hb234) ?_
            exact r_nil (n_lp ⟨_, rfl, undef, rfl, H282⟩)
          · intro η233 wd288 Δ289 hE285 hR286 H287
            have H287 : Hp w0 ((Δ289 ++ (Bx b225 54 [.int .i64 y55.Class, .int .i64 y55.Year, .int .i64 y55.Amount] :: Row K54 (.slice A26 o21.f_l.length c28) o21.f_l :: Bx b25 89 [.slice A26 o21.f_l.length c28] :: Row K54 (.slice A35 y29.length c37) y29 :: Γ))) wd288 := H287
            refine sp_op [(18, .pointer (some ⟨b225, 0, none⟩)), (42, .bool (y55.Amount == 0))] (ac rfl (ac (hE285 3 (by decide)) an)) ?_
            refine r_not (wn_f rfl rfl (by decide) rfl hb234) ?_
            exact r_nil (n_lp ⟨_, rfl, undef, rfl, H287⟩)
          · intro η233 wd293 Δ294 hE290 hR291 H292
            have H292 : Hp w0 ((Δ294 ++ (Bx b225 54 [.int .i64 y55.Class, .int .i64 y55.Year, .int .i64 y55.Amount] :: Row K54 (.slice A26 o21.f_l.length c28) o21.f_l :: Bx b25 89 [.slice A26 o21.f_l.length c28] :: Row K54 (.slice A35 y29.length c37) y29 :: Γ))) wd293 := H292
            refine sp_op [(42, .bool (y55.Amount == 0)), (49, undef)] (ac (hE290 3 (by decide)) (ac (hE290 10 (by decide)) an)) ?_
            refine r_not (wn_f rfl rfl (by decide) rfl hb234) ?_
            exact r_nil (n_lp ⟨_, rfl, undef, rfl, H292⟩)
          · intro η233 wd298 Δ299 hE295 hR296 H297
            have H297 : Hp w0 ((Δ299 ++ (Bx b225 54 [.int .i64 y55.Class, .int .i64 y55.Year, .int .i64 y55.Amount] :: Row K54 (.slice A26 o21.f_l.length c28) o21.f_l :: Bx b25 89 [.slice A26 o21.f_l.length c28] :: Row K54 (.slice A35 y29.length c37) y29 :: Γ))) wd298 := H297
            refine sp_op [(42, .bool (y55.Amount == 0)), (48, undef), (50, undef)] (ac (hE295 3 (by decide)) (ac (hE295 9 (by decide)) (ac (hE295 11 (by decide)) an))) ?_
            refine r_not (wn_f rfl rfl (by decide) rfl hb234) ?_
            exact r_nil (n_lp ⟨_, rfl, undef, rfl, H297⟩)
          · intro η233 wd303 Δ304 hE300 hR301 H302
            have H302 : Hp w0 ((Δ304 ++ (Bx b225 54 [.int .i64 y55.Class, .int .i64 y55.Year, .int .i64 y55.Amount] :: Row K54 (.slice A26 o21.f_l.length c28) o21.f_l :: Bx b25 89 [.slice A26 o21.f_l.length c28] :: Row K54 (.slice A35 y29.length c37) y29 :: Γ))) wd303 := H302
            refine sp_op [(42, .bool (y55.Amount == 0)), (51, undef)] (ac (hE300 3 (by decide)) (ac (hE300 12 (by decide)) an)) ?_
            refine r_pick_t (.bool true) hb234 rfl rfl ?_
            exact r_nil (n_lp ⟨_, rfl, undef, rfl, H302⟩)
          · intro η233 wd308 Δ309 hE305 hR306 H307
            have H307 : Hp w0 ((Δ309 ++ (Bx b225 54 [.int .i64 y55.Class, .int .i64 y55.Year, .int .i64 y55.Amount] :: Row K54 (.slice A26 o21.f_l.length c28) o21.f_l :: Bx b25 89 [.slice A26 o21.f_l.length c28] :: Row K54 (.slice A35 y29.length c37) y29 :: Γ))) wd308 := H307
            refine sp_op [(52, .bool true)] (ac (hE305 13 (by decide)) an) ?_
            refine r_pure (.bool true) rfl ?_
            exact r_nil (n_lp ⟨_, rfl, undef, rfl, H307⟩)
          · intro η233 wd313 Δ314 hE310 hR311 H312
            have H312 : Hp w0 ((Δ314 ++ (Bx b225 54 [.int .i64 y55.Class, .int .i64 y55.Year, .int .i64 y55.Amount] :: Row K54 (.slice A26 o21.f_l.length c28) o21.f_l :: Bx b25 89 [.slice A26 o21.f_l.length c28] :: Row K54 (.slice A35 y29.length c37) y29 :: Γ))) wd313 := H312
            refine sp_op [(17, .int .i64 i50), (53, .bool true)] (ac rfl (ac (hE310 14 (by decide)) an)) ?_
            refine r_not (wn_f rfl rfl (by decide) rfl rfl) ?_
            exact r_nil (n_lp ⟨_, rfl, undef, rfl, H312⟩)
          · intro η233 wd318 Δ319 hE315 hR316 H317
            have H317 : Hp w0 ((Δ319 ++ (Bx b225 54 [.int .i64 y55.Class, .int .i64 y55.Year, .int .i64 y55.Amount] :: Row K54 (.slice A26 o21.f_l.length c28) o21.f_l :: Bx b25 89 [.slice A26 o21.f_l.length c28] :: Row K54 (.slice A35 y29.length c37) y29 :: Γ))) wd318 := H317
            refine sp_op [(53, .bool true), (54, undef)] (ac (hE315 14 (by decide)) (ac (hE315 15 (by decide)) an)) ?_
            refine r_not (wn_f rfl rfl (by decide) rfl rfl) ?_
            exact r_nil (n_lp ⟨_, rfl, undef, rfl, H317⟩)
          · intro η233 wd323 Δ324 hE320 hR321 H322
            have H322 : Hp w0 ((Δ324 ++ (Bx b225 54 [.int .i64 y55.Class, .int .i64 y55.Year, .int .i64 y55.Amount] :: Row K54 (.slice A26 o21.f_l.length c28) o21.f_l :: Bx b25 89 [.slice A26 o21.f_l.length c28] :: Row K54 (.slice A35 y29.length c37) y29 :: Γ))) wd323 := H322
            refine sp_op [(53, .bool true), (55, undef)] (ac (hE320 14 (by decide)) (ac (hE320 16 (by decide)) an)) ?_
            refine r_not (wn_f rfl rfl (by decide) rfl rfl) ?_
            exact r_nil (n_lp ⟨_, rfl, undef, rfl, H322⟩)
          · intro η233 wd328 Δ329 hE325 hR326 H327
            have H327 : Hp w0 ((Δ329 ++ (Bx b225 54 [.int .i64 y55.Class, .int .i64 y55.Year, .int .i64 y55.Amount] :: Row K54 (.slice A26 o21.f_l.length c28) o21.f_l :: Bx b25 89 [.slice A26 o21.f_l.length c28] :: Row K54 (.slice A35 y29.length c37) y29 :: Γ))) wd328 := H327
            refine sp_op [(18, .pointer (some ⟨b225, 0, none⟩)), (56, undef)] (ac rfl (ac (hE325 17 (by decide)) an)) ?_
            refine r_not (wn_u rfl rfl (by decide) rfl rfl) ?_
            exact r_nil (n_lp ⟨_, rfl, undef, rfl, H327⟩)
          · intro η233 wd333 Δ334 hE330 hR331 H332
            have H332 : Hp w0 ((Δ334 ++ (Bx b225 54 [.int .i64 y55.Class, .int .i64 y55.Year, .int .i64 y55.Amount] :: Row K54 (.slice A26 o21.f_l.length c28) o21.f_l :: Bx b25 89 [.slice A26 o21.f_l.length c28] :: Row K54 (.slice A35 y29.length c37) y29 :: Γ))) wd333 := H332
            refine sp_op [(56, undef), (57, undef)] (ac (hE330 17 (by decide)) (ac (hE330 18 (by decide)) an)) ?_
            refine r_not (wn_u rfl rfl (by decide) rfl rfl) ?_
            exact r_nil (n_lp ⟨_, rfl, undef, rfl, H332⟩)
          · intro η233 wd338 Δ339 hE335 hR336 H337
            have H337 : Hp w0 ((Δ339 ++ (Bx b225 54 [.int .i64 y55.Class, .int .i64 y55.Year, .int .i64 y55.Amount] :: Row K54 (.slice A26 o21.f_l.length c28) o21.f_l :: Bx b25 89 [.slice A26 o21.f_l.length c28] :: Row K54 (.slice A35 y29.length c37) y29 :: Γ))) wd338 := H337
            refine sp_op [(14, .slice A35 y29.length c37), (56, undef)] (ac rfl (ac (hE335 17 (by decide)) an)) ?_
            refine r_not (wn_u rfl rfl (by decide) rfl rfl) ?_
            exact r_nil (n_lp ⟨_, rfl, undef, rfl, H337⟩)
          · intro η233 wd343 Δ344 hE340 hR341 H342
            have H342 : Hp w0 ((Δ344 ++ (Bx b225 54 [.int .i64 y55.Class, .int .i64 y55.Year, .int .i64 y55.Amount] :: Row K54 (.slice A26 o21.f_l.length c28) o21.f_l :: Bx b25 89 [.slice A26 o21.f_l.length c28] :: Row K54 (.slice A35 y29.length c37) y29 :: Γ))) wd343 := H342
            refine sp_op [(17, .int .i64 i50), (56, undef)] (ac rfl (ac (hE340 17 (by decide)) an)) ?_
            refine r_not (wn_u rfl rfl (by decide) rfl rfl) ?_
            exact r_nil (n_lp ⟨_, rfl, undef, rfl, H342⟩)
          · intro η233 wd348 Δ349 hE345 hR346 H347
            have H347 : Hp w0 ((Δ349 ++ (Bx b225 54 [.int .i64 y55.Class, .int .i64 y55.Year, .int .i64 y55.Amount] :: Row K54 (.slice A26 o21.f_l.length c28) o21.f_l :: Bx b25 89 [.slice A26 o21.f_l.length c28] :: Row K54 (.slice A35 y29.length c37) y29 :: Γ))) wd348 := H347
            refine sp_op [(56, undef), (60, undef)] (ac (hE345 17 (by decide)) (ac (hE345 21 (by decide)) an)) ?_
            refine r_not (wn_u rfl rfl (by decide) rfl rfl) ?_
            exact r_nil (n_lp ⟨_, rfl, undef, rfl, H347⟩)
          · intro η233 wd353 Δ354 hE350 hR351 H352
            have H352 : Hp w0 ((Δ354 ++ (Bx b225 54 [.int .i64 y55.Class, .int .i64 y55.Year, .int .i64 y55.Amount] :: Row K54 (.slice A26 o21.f_l.length c28) o21.f_l :: Bx b25 89 [.slice A26 o21.f_l.length c28] :: Row K54 (.slice A35 y29.length c37) y29 :: Γ))) wd353 := H352
            refine sp_op [(56, undef), (59, undef), (61, undef)] (ac (hE350 17 (by decide)) (ac (hE350 20 (by decide)) (ac (hE350 22 (by decide)) an))) ?_
            refine r_not (wn_u rfl rfl (by decide) rfl rfl) ?_
            exact r_nil (n_lp ⟨_, rfl, undef, rfl, H352⟩)
          · intro η233 wd358 Δ359 hE355 hR356 H357
            have H357 : Hp w0 ((Δ359 ++ (Bx b225 54 [.int .i64 y55.Class, .int .i64 y55.Year, .int .i64 y55.Amount] :: Row K54 (.slice A26 o21.f_l.length c28) o21.f_l :: Bx b25 89 [.slice A26 o21.f_l.length c28] :: Row K54 (.slice A35 y29.length c37) y29 :: Γ))) wd358 := H357
            refine sp_op [(56, undef), (62, undef)] (ac (hE355 17 (by decide)) (ac (hE355 23 (by decide)) an)) ?_
            refine r_not (wn_u rfl rfl (by decide) rfl rfl) ?_
            exact r_nil (n_lp ⟨_, rfl, undef, rfl, H357⟩)
          · intro η233 wd363 Δ364 hE360 hR361 H362
            have H362 : Hp w0 ((Δ364 ++ (Bx b225 54 [.int .i64 y55.Class, .int .i64 y55.Year, .int .i64 y55.Amount] :: Row K54 (.slice A26 o21.f_l.length c28) o21.f_l :: Bx b25 89 [.slice A26 o21.f_l.length c28] :: Row K54 (.slice A35 y29.length c37) y29 :: Γ))) wd363 := H362
            refine sp_op [(56, undef), (63, undef)] (ac (hE360 17 (by decide)) (ac (hE360 24 (by decide)) an)) ?_
            refine r_not (wn_u rfl rfl (by decide) rfl rfl) ?_
            exact r_nil (n_lp ⟨_, rfl, undef, rfl, H362⟩)
          · intro η233 wd368 Δ369 hE365 hR366 H367
            have H367 : Hp w0 ((Δ369 ++ (Bx b225 54 [.int .i64 y55.Class, .int .i64 y55.Year, .int .i64 y55.Amount] :: Row K54 (.slice A26 o21.f_l.length c28) o21.f_l :: Bx b25 89 [.slice A26 o21.f_l.length c28] :: Row K54 (.slice A35 y29.length c37) y29 :: Γ))) wd368 := H367
            refine sp_op [(56, undef), (58, undef), (64, undef)] (ac (hE365 17 (by decide)) (ac (hE365 19 (by decide)) (ac (hE365 25 (by decide)) an))) ?_
            refine r_not (wn_u rfl rfl (by decide) rfl rfl) ?_
            exact r_nil (n_lp ⟨_, rfl, undef, rfl, H367⟩)
          · intro η233 wd373 Δ374 hE370 hR371 H372
            have H372 : Hp w0 ((Δ374 ++ (Bx b225 54 [.int .i64 y55.Class, .int .i64 y55.Year, .int .i64 y55.Amount] :: Row K54 (.slice A26 o21.f_l.length c28) o21.f_l :: Bx b25 89 [.slice A26 o21.f_l.length c28] :: Row K54 (.slice A35 y29.length c37) y29 :: Γ))) wd373 := H372
            refine sp_op [(56, undef), (65, undef)] (ac (hE370 17 (by decide)) (ac (hE370 26 (by decide)) an)) ?_
            refine r_not (wn_u rfl rfl (by decide) rfl rfl) ?_
            exact r_nil (n_lp ⟨_, rfl, undef, rfl, H372⟩)
          · intro η233 wd378 Δ379 hE375 hR376 H377
            have H377 : Hp w0 ((Δ379 ++ (Bx b225 54 [.int .i64 y55.Class, .int .i64 y55.Year, .int .i64 y55.Amount] :: Row K54 (.slice A26 o21.f_l.length c28) o21.f_l :: Bx b25 89 [.slice A26 o21.f_l.length c28] :: Row K54 (.slice A35 y29.length c37) y29 :: Γ))) wd378 := H377
            refine sp_op [(18, .pointer (some ⟨b225, 0, none⟩)), (66, undef)] (ac rfl (ac (hE375 27 (by decide)) an)) ?_
            refine r_not (wn_u rfl rfl (by decide) rfl rfl) ?_
            exact r_nil (n_lp ⟨_, rfl, undef, rfl, H377⟩)
          · intro η233 wd383 Δ384 hE380 hR381 H382
            have H382 : Hp w0 ((Δ384 ++ (Bx b225 54 [.int .i64 y55.Class, .int .i64 y55.Year, .int .i64 y55.Amount] :: Row K54 (.slice A26 o21.f_l.length c28) o21.f_l :: Bx b25 89 [.slice A26 o21.f_l.length c28] :: Row K54 (.slice A35 y29.length c37) y29 :: Γ))) wd383 := H382
            refine sp_op [(66, undef), (67, undef)] (ac (hE380 27 (by decide)) (ac (hE380 28 (by decide)) an)) ?_
            refine r_not (wn_u rfl rfl (by decide) rfl rfl) ?_
            exact r_nil (n_lp ⟨_, rfl, undef, rfl, H382⟩)
          · intro η233 wd388 Δ389 hE385 hR386 H387
            have H387 : Hp w0 ((Δ389 ++ (Bx b225 54 [.int .i64 y55.Class, .int .i64 y55.Year, .int .i64 y55.Amount] :: Row K54 (.slice A26 o21.f_l.length c28) o21.f_l :: Bx b25 89 [.slice A26 o21.f_l.length c28] :: Row K54 (.slice A35 y29.length c37) y29 :: Γ))) wd388 := H387
            refine sp_op [(14, .slice A35 y29.length c37), (66, undef)] (ac rfl (ac (hE385 27 (by decide)) an)) ?_
            refine r_not (wn_u rfl rfl (by decide) rfl rfl) ?_
            exact r_nil (n_lp ⟨_, rfl, undef, rfl, H387⟩)
          · intro η233 wd393 Δ394 hE390 hR391 H392
            have H392 : Hp w0 ((Δ394 ++ (Bx b225 54 [.int .i64 y55.Class, .int .i64 y55.Year, .int .i64 y55.Amount] :: Row K54 (.slice A26 o21.f_l.length c28) o21.f_l :: Bx b25 89 [.slice A26 o21.f_l.length c28] :: Row K54 (.slice A35 y29.length c37) y29 :: Γ))) wd393 := H392
            refine sp_op [(17, .int .i64 i50), (66, undef)] (ac rfl (ac (hE390 27 (by decide)) an)) ?_
            refine r_not (wn_u rfl rfl (by decide) rfl rfl) ?_
            exact r_nil (n_lp ⟨_, rfl, undef, rfl, H392⟩)
          · intro η233 wd398 Δ399 hE395 hR396 H397
            have H397 : Hp w0 ((Δ399 ++ (Bx b225 54 [.int .i64 y55.Class, .int .i64 y55.Year, .int .i64 y55.Amount] :: Row K54 (.slice A26 o21.f_l.length c28) o21.f_l :: Bx b25 89 [.slice A26 o21.f_l.length c28] :: Row K54 (.slice A35 y29.length c37) y29 :: Γ))) wd398 := H397
            refine sp_op [(66, undef), (70, undef)] (ac (hE395 27 (by decide)) (ac (hE395 31 (by decide)) an)) ?_
            refine r_not (wn_u rfl rfl (by decide) rfl rfl) ?_
            exact r_nil (n_lp ⟨_, rfl, undef, rfl, H397⟩)
          · intro η233 wd403 Δ404 hE400 hR401 H402
            have H402 : Hp w0 ((Δ404 ++ (Bx b225 54 [.int .i64 y55.Class, .int .i64 y55.Year, .int .i64 y55.Amount] :: Row K54 (.slice A26 o21.f_l.length c28) o21.f_l :: Bx b25 89 [.slice A26 o21.f_l.length c28] :: Row K54 (.slice A35 y29.length c37) y29 :: Γ))) wd403 := H402
            refine sp_op [(66, undef), (69, undef), (71, undef)] (ac (hE400 27 (by decide)) (ac (hE400 30 (by decide)) (ac (hE400 32 (by decide)) an))) ?_
            refine r_not (wn_u rfl rfl (by decide) rfl rfl) ?_
            exact r_nil (n_lp ⟨_, rfl, undef, rfl, H402⟩)
          · intro η233 wd408 Δ409 hE405 hR406 H407
            have H407 : Hp w0 ((Δ409 ++ (Bx b225 54 [.int .i64 y55.Class, .int .i64 y55.Year, .int .i64 y55.Amount] :: Row K54 (.slice A26 o21.f_l.length c28) o21.f_l :: Bx b25 89 [.slice A26 o21.f_l.length c28] :: Row K54 (.slice A35 y29.length c37) y29 :: Γ))) wd408 := H407
            refine sp_op [(66, undef), (72, undef)] (ac (hE405 27 (by decide)) (ac (hE405 33 (by decide)) an)) ?_
            refine r_not (wn_u rfl rfl (by decide) rfl rfl) ?_
            exact r_nil (n_lp ⟨_, rfl, undef, rfl, H407⟩)
          · intro η233 wd413 Δ414 hE410 hR411 H412
            have H412 : Hp w0 ((Δ414 ++ (Bx b225 54 [.int .i64 y55.Class, .int .i64 y55.Year, .int .i64 y55.Amount] :: Row K54 (.slice A26 o21.f_l.length c28) o21.f_l :: Bx b25 89 [.slice A26 o21.f_l.length c28] :: Row K54 (.slice A35 y29.length c37) y29 :: Γ))) wd413 := H412
            refine sp_op [(66, undef), (73, undef)] (ac (hE410 27 (by decide)) (ac (hE410 34 (by decide)) an)) ?_
            refine r_not (wn_u rfl rfl (by decide) rfl rfl) ?_
            exact r_nil (n_lp ⟨_, rfl, undef, rfl, H412⟩)
          · intro η233 wd418 Δ419 hE415 hR416 H417
            have H417 : Hp w0 ((Δ419 ++ (Bx b225 54 [.int .i64 y55.Class, .int .i64 y55.Year, .int .i64 y55.Amount] :: Row K54 (.slice A26 o21.f_l.length c28) o21.f_l :: Bx b25 89 [.slice A26 o21.f_l.length c28] :: Row K54 (.slice A35 y29.length c37) y29 :: Γ))) wd418 := H417
            refine sp_op [(66, undef), (68, undef), (74, undef)] (ac (hE415 27 (by decide)) (ac (hE415 29 (by decide)) (ac (hE415 35 (by decide)) an))) ?_
            refine r_not (wn_u rfl rfl (by decide) rfl rfl) ?_
            exact r_nil (n_lp ⟨_, rfl, undef, rfl, H417⟩)
          · intro η233 wd423 Δ424 hE420 hR421 H422
            have H422 : Hp w0 ((Δ424 ++ (Bx b225 54 [.int .i64 y55.Class, .int .i64 y55.Year, .int .i64 y55.Amount] :: Row K54 (.slice A26 o21.f_l.length c28) o21.f_l :: Bx b25 89 [.slice A26 o21.f_l.length c28] :: Row K54 (.slice A35 y29.length c37) y29 :: Γ))) wd423 := H422
            refine sp_op [(66, undef), (75, undef)] (ac (hE420 27 (by decide)) (ac (hE420 36 (by decide)) an)) ?_
            refine r_not (wn_u rfl rfl (by decide) rfl rfl) ?_
            exact r_nil (n_lp ⟨_, rfl, undef, rfl, H422⟩)
          · intro η233 wd428 Δ429 hE425 hR426 H427
            have H427 : Hp w0 ((Δ429 ++ (Bx b225 54 [.int .i64 y55.Class, .int .i64 y55.Year, .int .i64 y55.Amount] :: Row K54 (.slice A26 o21.f_l.length c28) o21.f_l :: Bx b25 89 [.slice A26 o21.f_l.length c28] :: Row K54 (.slice A35 y29.length c37) y29 :: Γ))) wd428 := H427
            refine sp_op [(18, .pointer (some ⟨b225, 0, none⟩)), (76, undef)] (ac rfl (ac (hE425 37 (by decide)) an)) ?_
            refine r_not (wn_u rfl rfl (by decide) rfl rfl) ?_
            exact r_nil (n_lp ⟨_, rfl, undef, rfl, H427⟩)
          · intro η233 wd433 Δ434 hE430 hR431 H432
            have H432 : Hp w0 ((Δ434 ++ (Bx b225 54 [.int .i64 y55.Class, .int .i64 y55.Year, .int .i64 y55.Amount] :: Row K54 (.slice A26 o21.f_l.length c28) o21.f_l :: Bx b25 89 [.slice A26 o21.f_l.length c28] :: Row K54 (.slice A35 y29.length c37) y29 :: Γ))) wd433 := H432
            refine sp_op [(76, undef), (77, undef)] (ac (hE430 37 (by decide)) (ac (hE430 38 (by decide)) an)) ?_
            refine r_not (wn_u rfl rfl (by decide) rfl rfl) ?_
            exact r_nil (n_lp ⟨_, rfl, undef, rfl, H432⟩)
          · intro η233 wd438 Δ439 hE435 hR436 H437
            have H437 : Hp w0 ((Δ439 ++ (Bx b225 54 [.int .i64 y55.Class, .int .i64 y55.Year, .int .i64 y55.Amount] :: Row K54 (.slice A26 o21.f_l.length c28) o21.f_l :: Bx b25 89 [.slice A26 o21.f_l.length c28] :: Row K54 (.slice A35 y29.length c37) y29 :: Γ))) wd438 := H437
            refine sp_op [(14, .slice A35 y29.length c37), (76, undef)] (ac rfl (ac (hE435 37 (by decide)) an)) ?_
            refine r_not (wn_u rfl rfl (by decide) rfl rfl) ?_
            exact r_nil (n_lp ⟨_, rfl, undef, rfl, H437⟩)
          · intro η233 wd443 Δ444 hE440 hR441 H442
            have H442 : Hp w0 ((Δ444 ++ (Bx b225 54 [.int .i64 y55.Class, .int .i64 y55.Year, .int .i64 y55.Amount] :: Row K54 (.slice A26 o21.f_l.length c28) o21.f_l :: Bx b25 89 [.slice A26 o21.f_l.length c28] :: Row K54 (.slice A35 y29.length c37) y29 :: Γ))) wd443 := H442
            refine sp_op [(17, .int .i64 i50), (76, undef)] (ac rfl (ac (hE440 37 (by decide)) an)) ?_
            refine r_not (wn_u rfl rfl (by decide) rfl rfl) ?_
            exact r_nil (n_lp ⟨_, rfl, undef, rfl, H442⟩)
          · intro η233 wd448 Δ449 hE445 hR446 H447
            have H447 : Hp w0 ((Δ449 ++ (Bx b225 54 [.int .i64 y55.Class, .int .i64 y55.Year, .int .i64 y55.Amount] :: Row K54 (.slice A26 o21.f_l.length c28) o21.f_l :: Bx b25 89 [.slice A26 o21.f_l.length c28] :: Row K54 (.slice A35 y29.length c37) y29 :: Γ))) wd448 := H447
            refine sp_op [(76, undef), (80, undef)] (ac (hE445 37 (by decide)) (ac (hE445 41 (by decide)) an)) ?_
            refine r_not (wn_u rfl rfl (by decide) rfl rfl) ?_
            exact r_nil (n_lp ⟨_, rfl, undef, rfl, H447⟩)
          · intro η233 wd453 Δ454 hE450 hR451 H452
            have H452 : Hp w0 ((Δ454 ++ (Bx b225 54 [.int .i64 y55.Class, .int .i64 y55.Year, .int .i64 y55.Amount] :: Row K54 (.slice A26 o21.f_l.length c28) o21.f_l :: Bx b25 89 [.slice A26 o21.f_l.length c28] :: Row K54 (.slice A35 y29.length c37) y29 :: Γ))) wd453 := H452
            refine sp_op [(76, undef), (79, undef), (81, undef)] (ac (hE450 37 (by decide)) (ac (hE450 40 (by decide)) (ac (hE450 42 (by decide)) an))) ?_
            refine r_not (wn_u rfl rfl (by decide) rfl rfl) ?_
            exact r_nil (n_lp ⟨_, rfl, undef, rfl, H452⟩)
          · intro η233 wd458 Δ459 hE455 hR456 H457
            have H457 : Hp w0 ((Δ459 ++ (Bx b225 54 [.int .i64 y55.Class, .int .i64 y55.Year, .int .i64 y55.Amount] :: Row K54 (.slice A26 o21.f_l.length c28) o21.f_l :: Bx b25 89 [.slice A26 o21.f_l.length c28] :: Row K54 (.slice A35 y29.length c37) y29 :: Γ))) wd458 := H457
            refine sp_op [(76, undef), (82, undef)] (ac (hE455 37 (by decide)) (ac (hE455 43 (by decide)) an)) ?_
            refine r_not (wn_u rfl rfl (by decide) rfl rfl) ?_
            exact r_nil (n_lp ⟨_, rfl, undef, rfl, H457⟩)
          · intro η233 wd463 Δ464 hE460 hR461 H462
            have H462 : Hp w0 ((Δ464 ++ (Bx b225 54 [.int .i64 y55.Class, .int .i64 y55.Year, .int .i64 y55.Amount] :: Row K54 (.slice A26 o21.f_l.length c28) o21.f_l :: Bx b25 89 [.slice A26 o21.f_l.length c28] :: Row K54 (.slice A35 y29.length c37) y29 :: Γ))) wd463 := H462
            refine sp_op [(76, undef), (83, undef)] (ac (hE460 37 (by decide)) (ac (hE460 44 (by decide)) an)) ?_
            refine r_not (wn_u rfl rfl (by decide) rfl rfl) ?_
            exact r_nil (n_lp ⟨_, rfl, undef, rfl, H462⟩)
          · intro η233 wd468 Δ469 hE465 hR466 H467
            have H467 : Hp w0 ((Δ469 ++ (Bx b225 54 [.int .i64 y55.Class, .int .i64 y55.Year, .int .i64 y55.Amount] :: Row K54 (.slice A26 o21.f_l.length c28) o21.f_l :: Bx b25 89 [.slice A26 o21.f_l.length c28] :: Row K54 (.slice A35 y29.length c37) y29 :: Γ))) wd468 := H467
            refine sp_op [(76, undef), (78, undef), (84, undef)] (ac (hE465 37 (by decide)) (ac (hE465 39 (by decide)) (ac (hE465 45 (by decide)) an))) ?_
            refine r_not (wn_u rfl rfl (by decide) rfl rfl) ?_
            exact r_nil (n_lp ⟨_, rfl, undef, rfl, H467⟩)
          · intro η233 wd473 Δ474 hE470 hR471 H472
            have H472 : Hp w0 ((Δ474 ++ (Bx b225 54 [.int .i64 y55.Class, .int .i64 y55.Year, .int .i64 y55.Amount] :: Row K54 (.slice A26 o21.f_l.length c28) o21.f_l :: Bx b25 89 [.slice A26 o21.f_l.length c28] :: Row K54 (.slice A35 y29.length c37) y29 :: Γ))) wd473 := H472
            refine sp_op [(66, undef), (76, undef), (85, undef)] (ac (hE470 27 (by decide)) (ac (hE470 37 (by decide)) (ac (hE470 46 (by decide)) an))) ?_
            refine r_not (wn_u rfl rfl (by decide) rfl rfl) ?_
            exact r_nil (n_lp ⟨_, rfl, undef, rfl, H472⟩)
          · intro η233 wd478 Δ479 hE475 hR476 H477
            have H477 : Hp w0 ((Δ479 ++ (Bx b225 54 [.int .i64 y55.Class, .int .i64 y55.Year, .int .i64 y55.Amount] :: Row K54 (.slice A26 o21.f_l.length c28) o21.f_l :: Bx b25 89 [.slice A26 o21.f_l.length c28] :: Row K54 (.slice A35 y29.length c37) y29 :: Γ))) wd478 := H477
            refine sp_op [(56, undef), (66, undef), (86, undef)] (ac (hE475 17 (by decide)) (ac (hE475 27 (by decide)) (ac (hE475 47 (by decide)) an))) ?_
            refine r_not (wn_u rfl rfl (by decide) rfl rfl) ?_
            exact r_nil (n_lp ⟨_, rfl, undef, rfl, H477⟩)
          · intro η233 wd483 Δ484 hE480 hR481 H482
            have H482 : Hp w0 ((Δ484 ++ (Bx b225 54 [.int .i64 y55.Class, .int .i64 y55.Year, .int .i64 y55.Amount] :: Row K54 (.slice A26 o21.f_l.length c28) o21.f_l :: Bx b25 89 [.slice A26 o21.f_l.length c28] :: Row K54 (.slice A35 y29.length c37) y29 :: Γ))) wd483 := H482
            refine sp_op [(53, .bool true), (56, undef), (87, undef)] (ac (hE480 14 (by decide)) (ac (hE480 17 (by decide)) (ac (hE480 48 (by decide)) an))) ?_
            refine r_not (wn_f rfl rfl (by decide) rfl rfl) ?_
            exact r_nil (n_lp ⟨_, rfl, undef, rfl, H482⟩)
          · intro η233 wd488 Δ489 hE485 hR486 H487
            have H487 : Hp w0 ((Δ489 ++ (Bx b225 54 [.int .i64 y55.Class, .int .i64 y55.Year, .int .i64 y55.Amount] :: Row K54 (.slice A26 o21.f_l.length c28) o21.f_l :: Bx b25 89 [.slice A26 o21.f_l.length c28] :: Row K54 (.slice A35 y29.length c37) y29 :: Γ))) wd488 := H487
            refine sp_op [(53, .bool true), (88, undef)] (ac (hE485 14 (by decide)) (ac (hE485 49 (by decide)) an)) ?_
            refine r_pick_t (.bool true) rfl rfl rfl ?_
            exact r_nil (n_lp ⟨_, rfl, undef, rfl, H487⟩)
          · intro η233 wd491 hV492 H490
            have H493 : Hp w0 (Bx b225 54 [.int .i64 y55.Class, .int .i64 y55.Year, .int .i64 y55.Amount] :: Row K54 (.slice A26 o21.f_l.length c28) o21.f_l :: Bx b25 89 [.slice A26 o21.f_l.length c28] :: Row K54 (.slice A35 y29.length c37) y29 :: Γ) wd491 := H490
            refine n_frame [(1, .int .i64 class_), (2, .int .i64 year), (3, .int .i64 class2), (4, .int .i64 year2), (5, .int .i64 n_), (13, .pointer (some ⟨b25, 0, none⟩)), (14, .slice A35 y29.length c37), (15, .int .i64 y38), (16, .int .i64 (w64 (v45 + y55.Amount))), (28, .slice A35 y29.length c37), (29, .int .i64 (y29.length : Int)), (30, .int .i64 i50), (89, .bool true)] (ac rfl (ac rfl (ac rfl (ac rfl (ac rfl (ac rfl (ac rfl (ac rfl (ac rfl (ac rfl (ac rfl (ac rfl (ac (hV492 50 rfl) an))))))))))))) ?_
            refine n_cut ⟨true, upk (ac rfl (ac rfl (ac rfl (ac rfl (ac rfl (ac rfl (ac rfl (ac rfl (ac rfl (ac rfl (ac rfl (ac rfl (ac rfl an))))))))))))), H493.d.u2.u2.u2, hm⟩
        · obtain ⟨y494, hy495, hm⟩ := bind_some hm
          rcases ite_some hm with ⟨hb500, hm⟩ | ⟨hb500, hm⟩
          · refine Flow.run' ([] :: [0] :: [0, 1] :: [0, 1, 2] :: [0, 1, 2, 3] :: [0, 1, 2, 3] :: [0, 1, 2, 3, 5] :: [0, 1, 2, 3] :: [0, 1, 2, 3, 7] :: [0, 1, 2, 3, 4, 5, 6, 7, 8] :: [0, 1, 2, 3] :: [0, 1, 2, 3, 10] :: [0, 1, 2, 3, 4, 5, 6, 7, 8, 9, 10, 11] :: [0, 1, 2, 3, 4, 5, 6, 7, 8, 9, 10, 11, 12] :: [0, 1, 2, 3, 4, 5, 6, 7, 8, 9, 10, 11, 12, 13] :: [0, 1, 2, 3, 4, 5, 6, 7, 8, 9, 10, 11, 12, 13, 14] :: [0, 1, 2, 3, 4, 5, 6, 7, 8, 9, 10, 11, 12, 13, 14, 15] :: [0, 1, 2, 3, 4, 5, 6, 7, 8, 9, 10, 11, 12, 13, 14, 15, 16] :: [0, 1, 2, 3, 4, 5, 6, 7, 8, 9, 10, 11, 12, 13, 14, 15, 16, 17] :: [0, 1, 2, 3, 4, 5, 6, 7, 8, 9, 10, 11, 12, 13, 14, 15, 16, 17, 18] :: [0, 1, 2, 3, 4, 5, 6, 7, 8, 9, 10, 11, 12, 13, 14, 15, 16, 17] :: [0, 1, 2, 3, 4, 5, 6, 7, 8, 9, 10, 11, 12, 13, 14, 15, 16, 17] :: [0, 1, 2, 3, 4, 5, 6, 7, 8, 9, 10, 11, 12, 13, 14, 15, 16, 17, 21] :: [0, 1, 2, 3, 4, 5, 6, 7, 8, 9, 10, 11, 12, 13, 14, 15, 16, 17, 20, 21, 22] :: [0, 1, 2, 3, 4, 5, 6, 7, 8, 9, 10, 11, 12, 13, 14, 15, 16, 17, 20, 21, 22, 23] :: [0, 1, 2, 3, 4, 5, 6, 7, 8, 9, 10, 11, 12, 13, 14, 15, 16, 17, 20, 21, 22, 23, 24] :: [0, 1, 2, 3, 4, 5, 6, 7, 8, 9, 10, 11, 12, 13, 14, 15, 16, 17, 18, 19, 20, 21, 22, 23, 24, 25] :: [0, 1, 2, 3, 4, 5, 6, 7, 8, 9, 10, 11, 12, 13, 14, 15, 16, 17, 18, 19, 20, 21, 22, 23, 24, 25, 26] :: [0, 1, 2, 3, 4, 5, 6, 7, 8, 9, 10, 11, 12, 13, 14, 15, 16, 17, 18, 19, 20, 21, 22, 23, 24, 25, 26, 27] :: [0, 1, 2, 3, 4, 5, 6, 7, 8, 9, 10, 11, 12, 13, 14, 15, 16, 17, 18, 19, 20, 21, 22, 23, 24, 25, 26, 27, 28] :: [0, 1, 2, 3, 4, 5, 6, 7, 8, 9, 10, 11, 12, 13, 14, 15, 16, 17, 18, 19, 20, 21, 22, 23, 24, 25, 26, 27] :: [0, 1, 2, 3, 4, 5, 6, 7, 8, 9, 10, 11, 12, 13, 14, 15, 16, 17, 18, 19, 20, 21, 22, 23, 24, 25, 26, 27] :: [0, 1, 2, 3, 4, 5, 6, 7, 8, 9, 10, 11, 12, 13, 14, 15, 16, 17, 18, 19, 20, 21, 22, 23, 24, 25, 26, 27, 31] :: [0, 1, 2, 3, 4, 5, 6, 7, 8, 9, 10, 11, 12, 13, 14, 15, 16, 17, 18, 19, 20, 21, 22, 23, 24, 25, 26, 27, 30, 31, 32] :: [0, 1, 2, 3, 4, 5, 6, 7, 8, 9, 10, 11, 12, 13, 14, 15, 16, 17, 18, 19, 20, 21, 22, 23, 24, 25, 26, 27, 30, 31, 32, 33] :: [0, 1, 2, 3, 4, 5, 6, 7, 8, 9, 10, 11, 12, 13, 14, 15, 16, 17, 18, 19, 20, 21, 22, 23, 24, 25, 26, 27, 30, 31, 32, 33, 34] :: [0, 1, 2, 3, 4, 5, 6, 7, 8, 9, 10, 11, 12, 13, 14, 15, 16, 17, 18, 19, 20, 21, 22, 23, 24, 25, 26, 27, 28, 29, 30, 31, 32, 33, 34, 35] :: [0, 1, 2, 3, 4, 5, 6, 7, 8, 9, 10, 11, 12, 13, 14, 15, 16, 17, 18, 19, 20, 21, 22, 23, 24, 25, 26, 27, 28, 29, 30, 31, 32, 33, 34, 35, 36] :: [0, 1, 2, 3, 4, 5, 6, 7, 8, 9, 10, 11, 12, 13, 14, 15, 16, 17, 18, 19, 20, 21, 22, 23, 24, 25, 26, 27, 28, 29, 30, 31, 32, 33, 34, 35, 36, 37] :: [0, 1, 2, 3, 4, 5, 6, 7, 8, 9, 10, 11, 12, 13, 14, 15, 16, 17, 18, 19, 20, 21, 22, 23, 24, 25, 26, 27, 28, 29, 30, 31, 32, 33, 34, 35, 36, 37, 38] :: [0, 1, 2, 3, 4, 5, 6, 7, 8, 9, 10, 11, 12, 13, 14, 15, 16, 17, 18, 19, 20, 21, 22, 23, 24, 25, 26, 27, 28, 29, 30, 31, 32, 33, 34, 35, 36, 37] :: [0, 1, 2, 3, 4, 5, 6, 7, 8, 9, 10, 11, 12, 13, 14, 15, 16, 17, 18, 19, 20, 21, 22, 23, 24, 25, 26, 27, 28, 29, 30, 31, 32, 33, 34, 35, 36, 37] :: [0, 1, 2, 3, 4, 5, 6, 7, 8, 9, 10, 11, 12, 13, 14, 15, 16, 17, 18, 19, 20, 21, 22, 23, 24, 25, 26, 27, 28, 29, 30, 31, 32, 33, 34, 35, 36, 37, 41] :: [0, 1, 2, 3, 4, 5, 6, 7, 8, 9, 10, 11, 12, 13, 14, 15, 16, 17, 18, 19, 20, 21, 22, 23, 24, 25, 26, 27, 28, 29, 30, 31, 32, 33, 34, 35, 36, 37, 40, 41, 42] :: [0, 1, 2, 3, 4, 5, 6, 7, 8, 9, 10, 11, 12, 13, 14, 15, 16, 17, 18, 19, 20, 21, 22, 23, 24, 25, 26, 27, 28, 29, 30, 31, 32, 33, 34, 35, 36, 37, 40, 41, 42, 43] :: [0, 1, 2, 3, 4, 5, 6, 7, 8, 9, 10, 11, 12, 13, 14, 15, 16, 17, 18, 19, 20, 21, 22, 23, 24, 25, 26, 27, 28, 29, 30, 31, 32, 33, 34, 35, 36, 37, 40, 41, 42, 43, 44] :: [0, 1, 2, 3, 4, 5, 6, 7, 8, 9, 10, 11, 12, 13, 14, 15, 16, 17, 18, 19, 20, 21, 22, 23, 24, 25, 26, 27, 28, 29, 30, 31, 32, 33, 34, 35, 36, 37, 38, 39, 40, 41, 42, 43, 44, 45] :: [0, 1, 2, 3, 4, 5, 6, 7, 8, 9, 10, 11, 12, 13, 14, 15, 16, 17, 18, 19, 20, 21, 22, 23, 24, 25, 26, 27, 28, 29, 30, 31, 32, 33, 34, 35, 36, 37, 38, 39, 40, 41, 42, 43, 44, 45, 46] :: [0, 1, 2, 3, 4, 5, 6, 7, 8, 9, 10, 11, 12, 13, 14, 15, 16, 17, 18, 19, 20, 21, 22, 23, 24, 25, 26, 27, 28, 29, 30, 31, 32, 33, 34, 35, 36, 37, 38, 39, 40, 41, 42, 43, 44, 45, 46, 47] :: [0, 1, 2, 3, 4, 5, 6, 7, 8, 9, 10, 11, 12, 13, 14, 15, 16, 17, 18, 19, 20, 21, 22, 23, 24, 25, 26, 27, 28, 29, 30, 31, 32, 33, 34, 35, 36, 37, 38, 39, 40, 41, 42, 43, 44, 45, 46, 47, 48] :: [0, 1, 2, 3, 4, 5, 6, 7, 8, 9, 10, 11, 12, 13, 14, 15, 16, 17, 18, 19, 20, 21, 22, 23, 24, 25, 26, 27, 28, 29, 30, 31, 32, 33, 34, 35, 36, 37, 38, 39, 40, 41, 42, 43, 44, 45, 46, 47, 48, 49] :: []) ((39, 0) :: (40, 1) :: (41, 2) :: (42, 3) :: (43, 4) :: (44, 5) :: (45, 6) :: (46, 7) :: (47, 8) :: (48, 9) :: (49, 10) :: (50, 11) :: (51, 12) :: (52, 13) :: (53, 14) :: (54, 15) :: (55, 16) :: (56, 17) :: (57, 18) :: (58, 19) :: (59, 20) :: (60, 21) :: (61, 22) :: (62, 23) :: (63, 24) :: (64, 25) :: (65, 26) :: (66, 27) :: (67, 28) :: (68, 29) :: (69, 30) :: (70, 31) :: (71, 32) :: (72, 33) :: (73, 34) :: (74, 35) :: (75, 36) :: (76, 37) :: (77, 38) :: (78, 39) :: (79, 40) :: (80, 41) :: (81, 42) :: (82, 43) :: (83, 44) :: (84, 45) :: (85, 46) :: (86, 47) :: (87, 48) :: (88, 49) :: (89, 50) :: []) ((fun η233 v => v.1 = .pointer (some ⟨b225, 2, none⟩)) :: (fun η233 v => v.1 = .int .i64 y55.Amount) :: (fun η233 v => v.1 = .bool (y55.Amount == 0)) :: (fun η233 v => v.1 = .bool (y55.Amount == 0)) :: (fun η233 v => v.1 = .pointer (some ⟨b25, 0, none⟩)) :: (fun η233 v => v.1 = .pointer (some ⟨b225, 0, none⟩)) :: (fun η233 v => v.1 = .int .i64 y55.Class) :: (fun η233 v => v.1 = .pointer (some ⟨b225, 1, none⟩)) :: (fun η233 v => v.1 = .int .i64 y55.Year) :: (fun η233 v => v.1 = .int .i64 y494) :: (fun η233 v => v.1 = .pointer (some ⟨b225, 2, none⟩)) :: (fun η233 v => v.1 = .int .i64 y55.Amount) :: (fun η233 v => v.1 = .bool (y494 != y55.Amount)) :: (fun η233 v => v.1 = .bool (y494 != y55.Amount)) :: (fun η233 v => v.1 = .bool (y494 != y55.Amount)) :: (fun η233 v => v.1 = undef) :: (fun η233 v => v.1 = undef) :: (fun η233 v => v.1 = undef) :: (fun η233 v => v.1 = undef) :: (fun η233 v => v.1 = undef) :: (fun η233 v => v.1 = undef) :: (fun η233 v => v.1 = undef) :: (fun η233 v => v.1 = undef) :: (fun η233 v => v.1 = undef) :: (fun η233 v => v.1 = undef) :: (fun η233 v => v.1 = undef) :: (fun η233 v => v.1 = undef) :: (fun η233 v => v.1 = undef) :: (fun η233 v => v.1 = undef) :: (fun η233 v => v.1 = undef) :: (fun η233 v => v.1 = undef) :: (fun η233 v => v.1 = undef) :: (fun η233 v => v.1 = undef) :: (fun η233 v => v.1 = undef) :: (fun η233 v => v.1 = undef) :: (fun η233 v => v.1 = undef) :: (fun η233 v => v.1 = undef) :: (fun η233 v => v.1 = undef) :: (fun η233 v => v.1 = undef) :: (fun η233 v => v.1 = undef) :: (fun η233 v => v.1 = undef) :: (fun η233 v => v.1 = undef) :: (fun η233 v => v.1 = undef) :: (fun η233 v => v.1 = undef) :: (fun η233 v => v.1 = undef) :: (fun η233 v => v.1 = undef) :: (fun η233 v => v.1 = undef) :: (fun η233 v => v.1 = undef) :: (fun η233 v => v.1 = undef) :: (fun η233 v => v.1 = undef) :: (fun η233 v => v.1 = .bool true) :: []) [] rfl (by kernel_rfl) (by kernel_rfl) H228 ⟨?_, ?_, ?_, ?_, ?_, ?_, ?_, ?_, ?_, ?_, ?_, ?_, ?_, ?_, ?_, ?_, ?_, ?_, ?_, ?_, ?_, ?_, ?_, ?_, ?_, ?_, ?_, ?_, ?_, ?_, ?_, ?_, ?_, ?_, ?_, ?_, ?_, ?_, ?_, ?_, ?_, ?_, ?_, ?_, ?_, ?_, ?_, ?_, ?_, ?_, ?_, trivial⟩ ?_
            · intro η233 wd504 Δ505 hE501 hR502 H503
              have H503 : Hp w0 ((Δ505 ++ (Bx b225 54 [.int .i64 y55.Class, .int .i64 y55.Year, .int .i64 y55.Amount] :: Row K54 (.slice A26 o21.f_l.length c28) o21.f_l :: Bx b25 89 [.slice A26 o21.f_l.length c28] :: Row K54 (.slice A35 y29.length c37) y29 :: Γ))) wd504 := H503
              refine sp_op [(18, .pointer (some ⟨b225, 0, none⟩))] (ac rfl an) ?_
              refine r_fa FA54_2 ⟨b225, 2, none⟩ rfl rfl ?_
              exact r_nil (n_lp ⟨_, rfl, undef, rfl, H503⟩)
            · intro η233 wd509 Δ510 hE506 hR507 H508
              have H508 : Hp w0 ((Δ510 ++ (Bx b225 54 [.int .i64 y55.Class, .int .i64 y55.Year, .int .i64 y55.Amount] :: Row K54 (.slice A26 o21.f_l.length c28) o21.f_l :: Bx b25 89 [.slice A26 o21.f_l.length c28] :: Row K54 (.slice A35 y29.length c37) y29 :: Γ))) wd509 := H508
              refine sp_op [(39, .pointer (some ⟨b225, 2, none⟩))] (ac (hE506 0 (by decide)) an) ?_
              refine r_ld1 (.int .i64 y55.Amount) LD3 rfl (((H508).tl.g0).cell _ rfl) ?_
              exact r_nil (n_lp ⟨_, rfl, undef, rfl, H508⟩)
            · intro η233 wd514 Δ515 hE511 hR512 H513
              have H513 : Hp w0 ((Δ515 ++ (Bx b225 54 [.int .i64 y55.Class, .int .i64 y55.Year, .int .i64 y55.Amount] :: Row K54 (.slice A26 o21.f_l.length c28) o21.f_l :: Bx b25 89 [.slice A26 o21.f_l.length c28] :: Row K54 (.slice A35 y29.length c37) y29 :: Γ))) wd514 := H513
              refine sp_op [(40, .int .i64 y55.Amount)] (ac (hE511 1 (by decide)) an) ?_
              refine r_pure (.bool (y55.Amount == 0)) rfl ?_
              exact r_nil (n_lp ⟨_, rfl, undef, rfl, H513⟩)
            · intro η233 wd519 Δ520 hE516 hR517 H518
              have H518 : Hp w0 ((Δ520 ++ (Bx b225 54 [.int .i64 y55.Class, .int .i64 y55.Year, .int .i64 y55.Amount] :: Row K54 (.slice A26 o21.f_l.length c28) o21.f_l :: Bx b25 89 [.slice A26 o21.f_l.length c28] :: Row K54 (.slice A35 y29.length c37) y29 :: Γ))) wd519 := H518
              refine sp_op [(41, .bool (y55.Amount == 0))] (ac (hE516 2 (by decide)) an) ?_
              refine r_pure (.bool (y55.Amount == 0)) rfl ?_
              exact r_nil (n_lp ⟨_, rfl, undef, rfl, H518⟩)
            · intro η233 wd524 Δ525 hE521 hR522 H523
              have H523 : Hp w0 ((Δ525 ++ (Bx b225 54 [.int .i64 y55.Class, .int .i64 y55.Year, .int .i64 y55.Amount] :: Row K54 (.slice A26 o21.f_l.length c28) o21.f_l :: Bx b25 89 [.slice A26 o21.f_l.length c28] :: Row K54 (.slice A35 y29.length c37) y29 :: Γ))) wd524 := H523
              refine sp_op [(13, .pointer (some ⟨b25, 0, none⟩)), (42, .bool (y55.Amount == 0))] (ac rfl (ac (hE521 3 (by decide)) an)) ?_
              refine r_pure (.pointer (some ⟨b25, 0, none⟩)) rfl ?_ (wn_t rfl rfl (by decide) rfl hb234)
              exact r_nil (n_lp ⟨_, rfl, undef, rfl, H523⟩)
            · intro η233 wd529 Δ530 hE526 hR527 H528
              have H528 : Hp w0 ((Δ530 ++ (Bx b225 54 [.int .i64 y55.Class, .int .i64 y55.Year, .int .i64 y55.Amount] :: Row K54 (.slice A26 o21.f_l.length c28) o21.f_l :: Bx b25 89 [.slice A26 o21.f_l.length c28] :: Row K54 (.slice A35 y29.length c37) y29 :: Γ))) wd529 := H528
              refine sp_op [(18, .pointer (some ⟨b225, 0, none⟩)), (42, .bool (y55.Amount == 0))] (ac rfl (ac (hE526 3 (by decide)) an)) ?_
              refine r_fa FA54_0 ⟨b225, 0, none⟩ rfl rfl ?_ (wn_t rfl rfl (by decide) rfl hb234)
              exact r_nil (n_lp ⟨_, rfl, undef, rfl, H528⟩)
            · intro η233 wd534 Δ535 hE531 hR532 H533
              have H533 : Hp w0 ((Δ535 ++ (Bx b225 54 [.int .i64 y55.Class, .int .i64 y55.Year, .int .i64 y55.Amount] :: Row K54 (.slice A26 o21.f_l.length c28) o21.f_l :: Bx b25 89 [.slice A26 o21.f_l.length c28] :: Row K54 (.slice A35 y29.length c37) y29 :: Γ))) wd534 := H533
              refine sp_op [(42, .bool (y55.Amount == 0)), (44, .pointer (some ⟨b225, 0, none⟩))] (ac (hE531 3 (by decide)) (ac (hE531 5 (by decide)) an)) ?_
              refine r_ld1 (.int .i64 y55.Class) LD3 rfl (((H533).tl.g0).cell _ rfl) ?_ (wn_t rfl rfl (by decide) rfl hb234)
              exact r_nil (n_lp ⟨_, rfl, undef, rfl, H533⟩)
            · intro η233 wd539 Δ540 hE536 hR537 H538
              have H538 : Hp w0 ((Δ540 ++ (Bx b225 54 [.int .i64 y55.Class, .int .i64 y55.Year, .int .i64 y55.Amount] :: Row K54 (.slice A26 o21.f_l.length c28) o21.f_l :: Bx b25 89 [.slice A26 o21.f_l.length c28] :: Row K54 (.slice A35 y29.length c37) y29 :: Γ))) wd539 := H538
              refine sp_op [(18, .pointer (some ⟨b225, 0, none⟩)), (42, .bool (y55.Amount == 0))] (ac rfl (ac (hE536 3 (by decide)) an)) ?_
              refine r_fa FA54_1 ⟨b225, 1, none⟩ rfl rfl ?_ (wn_t rfl rfl (by decide) rfl hb234)
              exact r_nil (n_lp ⟨_, rfl, undef, rfl, H538⟩)
            · intro η233 wd544 Δ545 hE541 hR542 H543
              have H543 : Hp w0 ((Δ545 ++ (Bx b225 54 [.int .i64 y55.Class, .int .i64 y55.Year, .int .i64 y55.Amount] :: Row K54 (.slice A26 o21.f_l.length c28) o21.f_l :: Bx b25 89 [.slice A26 o21.f_l.length c28] :: Row K54 (.slice A35 y29.length c37) y29 :: Γ))) wd544 := H543
              refine sp_op [(42, .bool (y55.Amount == 0)), (46, .pointer (some ⟨b225, 1, none⟩))] (ac (hE541 3 (by decide)) (ac (hE541 7 (by decide)) an)) ?_
              refine r_ld1 (.int .i64 y55.Year) LD3 rfl (((H543).tl.g0).cell _ rfl) ?_ (wn_t rfl rfl (by decide) rfl hb234)
              exact r_nil (n_lp ⟨_, rfl, undef, rfl, H543⟩)
            · intro η233 wd549 Δ550 hE546 hR547 H548
              have H548 : Hp w0 ((Δ550 ++ (Bx b225 54 [.int .i64 y55.Class, .int .i64 y55.Year, .int .i64 y55.Amount] :: Row K54 (.slice A26 o21.f_l.length c28) o21.f_l :: Bx b25 89 [.slice A26 o21.f_l.length c28] :: Row K54 (.slice A35 y29.length c37) y29 :: Γ))) wd549 := H548
              refine sp_op [(42, .bool (y55.Amount == 0)), (43, .pointer (some ⟨b25, 0, none⟩)), (45, .int .i64 y55.Class), (47, .int .i64 y55.Year)] (ac (hE546 3 (by decide)) (ac (hE546 4 (by decide)) (ac (hE546 6 (by decide)) (ac (hE546 8 (by decide)) an)))) ?_
              refine r_callf Try.call30 (bucket_Register_Get_ok b25 (⟨o21.f_l⟩ : bucket_Register) A26 o21.f_l.length c28 rfl ((((H548)).tl.g1).cap) (fun _ H => ((H).tl.g1.rd)) (fun _ H => ((H).tl.g2)) y55.Class y55.Year y494 H548 hy495) ?_ (wn_t rfl rfl (by decide) rfl hb234)
              rintro e554 wd553 ⟨rfl, H556⟩
              refine ⟨_, rfl, ?_⟩
              exact r_nil (n_lp ⟨_, rfl, undef, rfl, H556⟩)
            · intro η233 wd560 Δ561 hE557 hR558 H559
              have H559 : Hp w0 ((Δ561 ++ (Bx b225 54 [.int .i64 y55.Class, .int .i64 y55.Year, .int .i64 y55.Amount] :: Row K54 (.slice A26 o21.f_l.length c28) o21.f_l :: Bx b25 89 [.slice A26 o21.f_l.length c28] :: Row K54 (.slice A35 y29.length c37) y29 :: Γ))) wd560 := H559
              refine sp_op [(18, .pointer (some ⟨b225, 0, none⟩)), (42, .bool (y55.Amount == 0))] (ac rfl (ac (hE557 3 (by decide)) an)) ?_
              refine r_fa FA54_2 ⟨b225, 2, none⟩ rfl rfl ?_ (wn_t rfl rfl (by decide) rfl hb234)
              exact r_nil (n_lp ⟨_, rfl, undef, rfl, H559⟩)
            · intro η233 wd565 Δ566 hE562 hR563 H564
              have H564 : Hp w0 ((Δ566 ++ (Bx b225 54 [.int .i64 y55.Class, .int .i64 y55.Year, .int .i64 y55.Amount] :: Row K54 (.slice A26 o21.f_l.length c28) o21.f_l :: Bx b25 89 [.slice A26 o21.f_l.length c28] :: Row K54 (.slice A35 y29.length c37) y29 :: Γ))) wd565 := H564
              refine sp_op [(42, .bool (y55.Amount == 0)), (49, .pointer (some ⟨b225, 2, none⟩))] (ac (hE562 3 (by decide)) (ac (hE562 10 (by decide)) an)) ?_
              refine r_ld1 (.int .i64 y55.Amount) LD3 rfl (((H564).tl.g0).cell _ rfl) ?_ (wn_t rfl rfl (by decide) rfl hb234)
              exact r_nil (n_lp ⟨_, rfl, undef, rfl, H564⟩)
            · intro η233 wd570 Δ571 hE567 hR568 H569
              have H569 : Hp w0 ((Δ571 ++ (Bx b225 54 [.int .i64 y55.Class, .int .i64 y55.Year, .int .i64 y55.Amount] :: Row K54 (.slice A26 o21.f_l.length c28) o21.f_l :: Bx b25 89 [.slice A26 o21.f_l.length c28] :: Row K54 (.slice A35 y29.length c37) y29 :: Γ))) wd570 := H569
              refine sp_op [(42, .bool (y55.Amount == 0)), (48, .int .i64 y494), (50, .int .i64 y55.Amount)] (ac (hE567 3 (by decide)) (ac (hE567 9 (by decide)) (ac (hE567 11 (by decide)) an))) ?_
              refine r_pure (.bool (y494 != y55.Amount)) rfl ?_ (wn_t rfl rfl (by decide) rfl hb234)
              exact r_nil (n_lp ⟨_, rfl, undef, rfl, H569⟩)
            · intro η233 wd575 Δ576 hE572 hR573 H574
              have H574 : Hp w0 ((Δ576 ++ (Bx b225 54 [.int .i64 y55.Class, .int .i64 y55.Year, .int .i64 y55.Amount] :: Row K54 (.slice A26 o21.f_l.length c28) o21.f_l :: Bx b25 89 [.slice A26 o21.f_l.length c28] :: Row K54 (.slice A35 y29.length c37) y29 :: Γ))) wd575 := H574
              refine sp_op [(42, .bool (y55.Amount == 0)), (51, .bool (y494 != y55.Amount))] (ac (hE572 3 (by decide)) (ac (hE572 12 (by decide)) an)) ?_
              refine r_pick_f (.bool (y494 != y55.Amount)) hb234 rfl rfl ?_
              exact r_nil (n_lp ⟨_, rfl, undef, rfl, H574⟩)
            · intro η233 wd580 Δ581 hE577 hR578 H579
              have H579 : Hp w0 ((Δ581 ++ (Bx b225 54 [.int .i64 y55.Class, .int .i64 y55.Year, .int .i64 y55.Amount] :: Row K54 (.slice A26 o21.f_l.length c28) o21.f_l :: Bx b25 89 [.slice A26 o21.f_l.length c28] :: Row K54 (.slice A35 y29.length c37) y29 :: Γ))) wd580 := H579
              refine sp_op [(52, .bool (y494 != y55.Amount))] (ac (hE577 13 (by decide)) an) ?_
              refine r_pure (.bool (y494 != y55.Amount)) rfl ?_
              exact r_nil (n_lp ⟨_, rfl, undef, rfl, H579⟩)
            · intro η233 wd585 Δ586 hE582 hR583 H584
              have H584 : Hp w0 ((Δ586 ++ (Bx b225 54 [.int .i64 y55.Class, .int .i64 y55.Year, .int .i64 y55.Amount] :: Row K54 (.slice A26 o21.f_l.length c28) o21.f_l :: Bx b25 89 [.slice A26 o21.f_l.length c28] :: Row K54 (.slice A35 y29.length c37) y29 :: Γ))) wd585 := H584
              refine sp_op [(17, .int .i64 i50), (53, .bool (y494 != y55.Amount))] (ac rfl (ac (hE582 14 (by decide)) an)) ?_
              refine r_not (wn_f rfl rfl (by decide) rfl hb500) ?_
              exact r_nil (n_lp ⟨_, rfl, undef, rfl, H584⟩)
            · intro η233 wd590 Δ591 hE587 hR588 H589
              have H589 : Hp w0 ((Δ591 ++ (Bx b225 54 [.int .i64 y55.Class, .int .i64 y55.Year, .int .i64 y55.Amount] :: Row K54 (.slice A26 o21.f_l.length c28) o21.f_l :: Bx b25 89 [.slice A26 o21.f_l.length c28] :: Row K54 (.slice A35 y29.length c37) y29 :: Γ))) wd590 := H589
              refine sp_op [(53, .bool (y494 != y55.Amount)), (54, undef)] (ac (hE587 14 (by decide)) (ac (hE587 15 (by decide)) an)) ?_
              refine r_not (wn_f rfl rfl (by decide) rfl hb500) ?_
              exact r_nil (n_lp ⟨_, rfl, undef, rfl, H589⟩)
            · intro η233 wd595 Δ596 hE592 hR593 H594
              have H594 : Hp w0 ((Δ596 ++ (Bx b225 54 [.int .i64 y55.Class, .int .i64 y55.Year, .int .i64 y55.Amount] :: Row K54 (.slice A26 o21.f_l.length c28) o21.f_l :: Bx b25 89 [.slice A26 o21.f_l.length c28] :: Row K54 (.slice A35 y29.length c37) y29 :: Γ))) wd595 := H594
              refine sp_op [(53, .bool (y494 != y55.Amount)), (55, undef)] (ac (hE592 14 (by decide)) (ac (hE592 16 (by decide)) an)) ?_
              refine r_not (wn_f rfl rfl (by decide) rfl hb500) ?_
              exact r_nil (n_lp ⟨_, rfl, undef, rfl, H594⟩)
            · intro η233 wd600 Δ601 hE597 hR598 H599
              have H599 : Hp w0 ((Δ601 ++ (Bx b225 54 [.int .i64 y55.Class, .int .i64 y55.Year, .int .i64 y55.Amount] :: Row K54 (.slice A26 o21.f_l.length c28) o21.f_l :: Bx b25 89 [.slice A26 o21.f_l.length c28] :: Row K54 (.slice A35 y29.length c37) y29 :: Γ))) wd600 := H599
              refine sp_op [(18, .pointer (some ⟨b225, 0, none⟩)), (56, undef)] (ac rfl (ac (hE597 17 (by decide)) an)) ?_
              refine r_not (wn_u rfl rfl (by decide) rfl rfl) ?_
              exact r_nil (n_lp ⟨_, rfl, undef, rfl, H599⟩)
            · intro η233 wd605 Δ606 hE602 hR603 H604
              have H604 : Hp w0 ((Δ606 ++ (Bx b225 54 [.int .i64 y55.Class, .int .i64 y55.Year, .int .i64 y55.Amount] :: Row K54 (.slice A26 o21.f_l.length c28) o21.f_l :: Bx b25 89 [.slice A26 o21.f_l.length c28] :: Row K54 (.slice A35 y29.length c37) y29 :: Γ))) wd605 := H604
              refine sp_op [(56, undef), (57, undef)] (ac (hE602 17 (by decide)) (ac (hE602 18 (by decide)) an)) ?_
              refine r_not (wn_u rfl rfl (by decide) rfl rfl) ?_
              exact r_nil (n_lp ⟨_, rfl, undef, rfl, H604⟩)
            · intro η233 wd610 Δ611 hE607 hR608 H609
              have H609 : Hp w0 ((Δ611 ++ (Bx b225 54 [.int .i64 y55.Class, .int .i64 y55.Year, .int .i64 y55.Amount] :: Row K54 (.slice A26 o21.f_l.length c28) o21.f_l :: Bx b25 89 [.slice A26 o21.f_l.length c28] :: Row K54 (.slice A35 y29.length c37) y29 :: Γ))) wd610 := H609
              refine sp_op [(14, .slice A35 y29.length c37), (56, undef)] (ac rfl (ac (hE607 17 (by decide)) an)) ?_
              refine r_not (wn_u rfl rfl (by decide) rfl rfl) ?_
              exact r_nil (n_lp ⟨_, rfl, undef, rfl, H609⟩)
            · intro η233 wd615 Δ616 hE612 hR613 H614
              have H614 : Hp w0 ((Δ616 ++ (Bx b225 54 [.int .i64 y55.Class, .int .i64 y55.Year, .int .i64 y55.Amount] :: Row K54 (.slice A26 o21.f_l.length c28) o21.f_l :: Bx b25 89 [.slice A26 o21.f_l.length c28] :: Row K54 (.slice A35 y29.length c37) y29 :: Γ))) wd615 := H614
              refine sp_op [(17, .int .i64 i50), (56, undef)] (ac rfl (ac (hE612 17 (by decide)) an)) ?_
              refine r_not (wn_u rfl rfl (by decide) rfl rfl) ?_
              exact r_nil (n_lp ⟨_, rfl, undef, rfl, H614⟩)
            · intro η233 wd620 Δ621 hE617 hR618 H619
              have H619 : Hp w0 ((Δ621 ++ (Bx b225 54 [.int .i64 y55.Class, .int .i64 y55.Year, .int .i64 y55.Amount] :: Row K54 (.slice A26 o21.f_l.length c28) o21.f_l :: Bx b25 89 [.slice A26 o21.f_l.length c28] :: Row K54 (.slice A35 y29.length c37) y29 :: Γ))) wd620 := H619
              refine sp_op [(56, undef), (60, undef)] (ac (hE617 17 (by decide)) (ac (hE617 21 (by decide)) an)) ?_
              refine r_not (wn_u rfl rfl (by decide) rfl rfl) ?_
              exact r_nil (n_lp ⟨_, rfl, undef, rfl, H619⟩)
            · intro η233 wd625 Δ626 hE622 hR623 H624
              have H624 : Hp w0 ((Δ626 ++ (Bx b225 54 [.int .i64 y55.Class, .int .i64 y55.Year, .int .i64 y55.Amount] :: Row K54 (.slice A26 o21.f_l.length c28) o21.f_l :: Bx b25 89 [.slice A26 o21.f_l.length c28] :: Row K54 (.slice A35 y29.length c37) y29 :: Γ))) wd625 := H624
              refine sp_op [(56, undef), (59, undef), (61, undef)] (ac (hE622 17 (by decide)) (ac (hE622 20 (by decide)) (ac (hE622 22 (by decide)) an))) ?_
              refine r_not (wn_u rfl rfl (by decide) rfl rfl) ?_
              exact r_nil (n_lp ⟨_, rfl, undef, rfl, H624⟩)
            · intro η233 wd630 Δ631 hE627 hR628 H629
              have H629 : Hp w0 ((Δ631 ++ (Bx b225 54 [.int .i64 y55.Class, .int .i64 y55.Year, .int .i64 y55.Amount] :: Row K54 (.slice A26 o21.f_l.length c28) o21.f_l :: Bx b25 89 [.slice A26 o21.f_l.length c28] :: Row K54 (.slice A35 y29.length c37) y29 :: Γ))) wd630 := H629
              refine sp_op [(56, undef), (62, undef)] (ac (hE627 17 (by decide)) (ac (hE627 23 (by decide)) an)) ?_
              refine r_not (wn_u rfl rfl (by decide) rfl rfl) ?_
              exact r_nil (n_lp ⟨_, rfl, undef, rfl, H629⟩)
            · intro η233 wd635 Δ636 hE632 hR633 H634
              have H634 : Hp w0 ((Δ636 ++ (Bx b225 54 [.int .i64 y55.Class, .int .i64 y55.Year, .int .i64 y55.Amount] :: Row K54 (.slice A26 o21.f_l.length c28) o21.f_l :: Bx b25 89 [.slice A26 o21.f_l.length c28] :: Row K54 (.slice A35 y29.length c37) y29 :: Γ))) wd635 := H634
              refine sp_op [(56, undef), (63, undef)] (ac (hE632 17 (by decide)) (ac (hE632 24 (by decide)) an)) ?_
              refine r_not (wn_u rfl rfl (by decide) rfl rfl) ?_
              exact r_nil (n_lp ⟨_, rfl, undef, rfl, H634⟩)
            · intro η233 wd640 Δ641 hE637 hR638 H639
              have H639 : Hp w0 ((Δ641 ++ (Bx b225 54 [.int .i64 y55.Class, .int .i64 y55.Year, .int .i64 y55.Amount] :: Row K54 (.slice A26 o21.f_l.length c28) o21.f_l :: Bx b25 89 [.slice A26 o21.f_l.length c28] :: Row K54 (.slice A35 y29.length c37) y29 :: Γ))) wd640 := H639
              refine sp_op [(56, undef), (58, undef), (64, undef)] (ac (hE637 17 (by decide)) (ac (hE637 19 (by decide)) (ac (hE637 25 (by decide)) an))) ?_
              refine r_not (wn_u rfl rfl (by decide) rfl rfl) ?_
              exact r_nil (n_lp ⟨_, rfl, undef, rfl, H639⟩)
            · intro η233 wd645 Δ646 hE642 hR643 H644
              have H644 : Hp w0 ((Δ646 ++ (Bx b225 54 [.int .i64 y55.Class, .int .i64 y55.Year, .int .i64 y55.Amount] :: Row K54 (.slice A26 o21.f_l.length c28) o21.f_l :: Bx b25 89 [.slice A26 o21.f_l.length c28] :: Row K54 (.slice A35 y29.length c37) y29 :: Γ))) wd645 := H644
              refine sp_op [(56, undef), (65, undef)] (ac (hE642 17 (by decide)) (ac (hE642 26 (by decide)) an)) ?_
              refine r_not (wn_u rfl rfl (by decide) rfl rfl) ?_
              exact r_nil (n_lp ⟨_, rfl, undef, rfl, H644⟩)
            · intro η233 wd650 Δ651 hE647 hR648 H649
              have H649 : Hp w0 ((Δ651 ++ (Bx b225 54 [.int .i64 y55.Class, .int .i64 y55.Year, .int .i64 y55.Amount] :: Row K54 (.slice A26 o21.f_l.length c28) o21.f_l :: Bx b25 89 [.slice A26 o21.f_l.length c28] :: Row K54 (.slice A35 y29.length c37) y29 :: Γ))) wd650 := H649
              refine sp_op [(18, .pointer (some ⟨b225, 0, none⟩)), (66, undef)] (ac rfl (ac (hE647 27 (by decide)) an)) ?_
              refine r_not (wn_u rfl rfl (by decide) rfl rfl) ?_
              exact r_nil (n_lp ⟨_, rfl, undef, rfl, H649⟩)
            · intro η233 wd655 Δ656 hE652 hR653 H654
              have H654 : Hp w0 ((Δ656 ++ (Bx b225 54 [.int .i64 y55.Class, .int .i64 y55.Year, .int .i64 y55.Amount] :: Row K54 (.slice A26 o21.f_l.length c28) o21.f_l :: Bx b25 89 [.slice A26 o21.f_l.length c28] :: Row K54 (.slice A35 y29.length c37) y29 :: Γ))) wd655 := H654
              refine sp_op [(66, undef), (67, undef)] (ac (hE652 27 (by decide)) (ac (hE652 28 (by decide)) an)) ?_
              refine r_not (wn_u rfl rfl (by decide) rfl rfl) ?_
              exact r_nil (n_lp ⟨_, rfl, undef, rfl, H654⟩)
            · intro η233 wd660 Δ661 hE657 hR658 H659
              have H659 : Hp w0 ((Δ661 ++ (Bx b225 54 [.int .i64 y55.Class, .int .i64 y55.Year, .int .i64 y55.Amount] :: Row K54 (.slice A26 o21.f_l.length c28) o21.f_l :: Bx b25 89 [.slice A26 o21.f_l.length c28] :: Row K54 (.slice A35 y29.length c37) y29 :: Γ))) wd660 := H659
              refine sp_op [(14, .slice A35 y29.length c37), (66, undef)] (ac rfl (ac (hE657 27 (by decide)) an)) ?_
              refine r_not (wn_u rfl rfl (by decide) rfl rfl) ?_
              exact r_nil (n_lp ⟨_, rfl, undef, rfl, H659⟩)
            · intro η233 wd665 Δ666 hE662 hR663 H664
              have H664 : Hp w0 ((Δ666 ++ (Bx b225 54 [.int .i64 y55.Class, .int .i64 y55.Year, .int .i64 y55.Amount] :: Row K54 (.slice A26 o21.f_l.length c28) o21.f_l :: Bx b25 89 [.slice A26 o21.f_l.length c28] :: Row K54 (.slice A35 y29.length c37) y29 :: Γ))) wd665 := H664
              refine sp_op [(17, .int .i64 i50), (66, undef)] (ac rfl (ac (hE662 27 (by decide)) an)) ?_
              refine r_not (wn_u rfl rfl (by decide) rfl rfl) ?_
              exact r_nil (n_lp ⟨_, rfl, undef, rfl, H664⟩)
            · intro η233 wd670 Δ671 hE667 hR668 H669
              have H669 : Hp w0 ((Δ671 ++ (Bx b225 54 [.int .i64 y55.Class, .int .i64 y55.Year, .int .i64 y55.Amount] :: Row K54 (.slice A26 o21.f_l.length c28) o21.f_l :: Bx b25 89 [.slice A26 o21.f_l.length c28] :: Row K54 (.slice A35 y29.length c37) y29 :: Γ))) wd670 := H669
              refine sp_op [(66, undef), (70, undef)] (ac (hE667 27 (by decide)) (ac (hE667 31 (by decide)) an)) ?_
              refine r_not (wn_u rfl rfl (by decide) rfl rfl) ?_
              exact r_nil (n_lp ⟨_, rfl, undef, rfl, H669⟩)
            · intro η233 wd675 Δ676 hE672 hR673 H674
              have H674 : Hp w0 ((Δ676 ++ (Bx b225 54 [.int .i64 y55.Class, .int .i64 y55.Year, .int .i64 y55.Amount] :: Row K54 (.slice A26 o21.f_l.length c28) o21.f_l :: Bx b25 89 [.slice A26 o21.f_l.length c28] :: Row K54 (.slice A35 y29.length c37) y29 :: Γ))) wd675 := H674
              refine sp_op [(66, undef), (69, undef), (71, undef)] (ac (hE672 27 (by decide)) (ac (hE672 30 (by decide)) (ac (hE672 32 (by decide)) an))) ?_
              refine r_not (wn_u rfl rfl (by decide) rfl rfl) ?_
              exact r_nil (n_lp ⟨_, rfl, undef, rfl, H674⟩)
            · intro η233 wd680 Δ681 hE677 hR678 H679
              have H679 : Hp w0 ((Δ681 ++ (Bx b225 54 [.int .i64 y55.Class, .int .i64 y55.Year, .int .i64 y55.Amount] :: Row K54 (.slice A26 o21.f_l.length c28) o21.f_l :: Bx b25 89 [.slice A26 o21.f_l.length c28] :: Row K54 (.slice A35 y29.length c37) y29 :: Γ))) wd680 := H679
              refine sp_op [(66, undef), (72, undef)] (ac (hE677 27 (by decide)) (ac (hE677 33 (by decide)) an)) ?_
              refine r_not (wn_u rfl rfl (by decide) rfl rfl) ?_
              exact r_nil (n_lp ⟨_, rfl, undef, rfl, H679⟩)
            · intro η233 wd685 Δ686 hE682 hR683 H684
              have H684 : Hp w0 ((Δ686 ++ (Bx b225 54 [.int .i64 y55.Class, .int .i64 y55.Year, .int .i64 y55.Amount] :: Row K54 (.slice A26 o21.f_l.length c28) o21.f_l :: Bx b25 89 [.slice A26 o21.f_l.length c28] :: Row K54 (.slice A35 y29.length c37) y29 :: Γ))) wd685 := H684
              refine sp_op [(66, undef), (73, undef)] (ac (hE682 27 (by decide)) (ac (hE682 34 (by decide)) an)) ?_
              refine r_not (wn_u rfl rfl (by decide) rfl rfl) ?_
              exact r_nil (n_lp ⟨_, rfl, undef, rfl, H684⟩)
            · intro η233 wd690 Δ691 hE687 hR688 H689
              have H689 : Hp w0 ((Δ691 ++ (Bx b225 54 [.int .i64 y55.Class, .int .i64 y55.Year, .int .i64 y55.Amount] :: Row K54 (.slice A26 o21.f_l.length c28) o21.f_l :: Bx b25 89 [.slice A26 o21.f_l.length c28] :: Row K54 (.slice A35 y29.length c37) y29 :: Γ))) wd690 := H689
              refine sp_op [(66, undef), (68, undef), (74, undef)] (ac (hE687 27 (by decide)) (ac (hE687 29 (by decide)) (ac (hE687 35 (by decide)) an))) ?_
              refine r_not (wn_u rfl rfl (by decide) rfl rfl) ?_
              exact r_nil (n_lp ⟨_, rfl, undef, rfl, H689⟩)
            · intro η233 wd695 Δ696 hE692 hR693 H694
              have H694 : Hp w0 ((Δ696 ++ (Bx b225 54 [.int .i64 y55.Class, .int .i64 y55.Year, .int .i64 y55.Amount] :: Row K54 (.slice A26 o21.f_l.length c28) o21.f_l :: Bx b25 89 [.slice A26 o21.f_l.length c28] :: Row K54 (.slice A35 y29.length c37) y29 :: Γ))) wd695 := H694
              refine sp_op [(66, undef), (75, undef)] (ac (hE692 27 (by decide)) (ac (hE692 36 (by decide)) an)) ?_
              refine r_not (wn_u rfl rfl (by decide) rfl rfl) ?_
              exact r_nil (n_lp ⟨_, rfl, undef, rfl, H694⟩)
            · intro η233 wd700 Δ701 hE697 hR698 H699
              have H699 : Hp w0 ((Δ701 ++ (Bx b225 54 [.int .i64 y55.Class, .int .i64 y55.Year, .int .i64 y55.Amount] :: Row K54 (.slice A26 o21.f_l.length c28) o21.f_l :: Bx b25 89 [.slice A26 o21.f_l.length c28] :: Row K54 (.slice A35 y29.length c37) y29 :: Γ))) wd700 := H699
              refine sp_op [(18, .pointer (some ⟨b225, 0, none⟩)), (76, undef)] (ac rfl (ac (hE697 37 (by decide)) an)) ?_
              refine r_not (wn_u rfl rfl (by decide) rfl rfl) ?_
              exact r_nil (n_lp ⟨_, rfl, undef, rfl, H699⟩)
            · intro η233 wd705 Δ706 hE702 hR703 H704
              have H704 : Hp w0 ((Δ706 ++ (Bx b225 54 [.int .i64 y55.Class, .int .i64 y55.Year, .int .i64 y55.Amount] :: Row K54 (.slice A26 o21.f_l.length c28) o21.f_l :: Bx b25 89 [.slice A26 o21.f_l.length c28] :: Row K54 (.slice A35 y29.length c37) y29 :: Γ))) wd705 := H704
              refine sp_op [(76, undef), (77, undef)] (ac (hE702 37 (by decide)) (ac (hE702 38 (by decide)) an)) ?_
              refine r_not (wn_u rfl rfl (by decide) rfl rfl) ?_
              exact r_nil (n_lp ⟨_, rfl, undef, rfl, H704⟩)
            · intro η233 wd710 Δ711 hE707 hR708 H709
              have H709 : Hp w0 ((Δ711 ++ (Bx b225 54 [.int .i64 y55.Class, .int .i64 y55.Year, .int .i64 y55.Amount] :: Row K54 (.slice A26 o21.f_l.length c28) o21.f_l :: Bx b25 89 [.slice A26 o21.f_l.length c28] :: Row K54 (.slice A35 y29.length c37) y29 :: Γ))) wd710 := H709
              refine sp_op [(14, .slice A35 y29.length c37), (76, undef)] (ac rfl (ac (hE707 37 (by decide)) an)) ?_
              refine r_not (wn_u rfl rfl (by decide) rfl rfl) ?_
              exact r_nil (n_lp ⟨_, rfl, undef, rfl, H709⟩)
            · intro η233 wd715 Δ716 hE712 hR713 H714
              have H714 : Hp w0 ((Δ716 ++ (Bx b225 54 [.int .i64 y55.Class, .int .i64 y55.Year, .int .i64 y55.Amount] :: Row K54 (.slice A26 o21.f_l.length c28) o21.f_l :: Bx b25 89 [.slice A26 o21.f_l.length c28] :: Row K54 (.slice A35 y29.length c37) y29 :: Γ))) wd715 := H714
              refine sp_op [(17, .int .i64 i50), (76, undef)] (ac rfl (ac (hE712 37 (by decide)) an)) ?_
              refine r_not (wn_u rfl rfl (by decide) rfl rfl) ?_
              exact r_nil (n_lp ⟨_, rfl, undef, rfl, H714⟩)
            · intro η233 wd720 Δ721 hE717 hR718 H719
              have H719 : Hp w0 ((Δ721 ++ (Bx b225 54 [.int .i64 y55.Class, .int .i64 y55.Year, .int .i64 y55.Amount] :: Row K54 (.slice A26 o21.f_l.length c28) o21.f_l :: Bx b25 89 [.slice A26 o21.f_l.length c28] :: Row K54 (.slice A35 y29.length c37) y29 :: Γ))) wd720 := H719
              refine sp_op [(76, undef), (80, undef)] (ac (hE717 37 (by decide)) (ac (hE717 41 (by decide)) an)) ?_
              refine r_not (wn_u rfl rfl (by decide) rfl rfl) ?_
              exact r_nil (n_lp ⟨_, rfl, undef, rfl, H719⟩)
            · intro η233 wd725 Δ726 hE722 hR723 H724
              have H724 : Hp w0 ((Δ726 ++ (Bx b225 54 [.int .i64 y55.Class, .int .i64 y55.Year, .int .i64 y55.Amount] :: Row K54 (.slice A26 o21.f_l.length c28) o21.f_l :: Bx b25 89 [.slice A26 o21.f_l.length c28] :: Row K54 (.slice A35 y29.length c37) y29 :: Γ))) wd725 := H724
              refine sp_op [(76, undef), (79, undef), (81, undef)] (ac (hE722 37 (by decide)) (ac (hE722 40 (by decide)) (ac (hE722 42 (by decide)) an))) ?_
              refine r_not (wn_u rfl rfl (by decide) rfl rfl) ?_
              exact r_nil (n_lp ⟨_, rfl, undef, rfl, H724⟩)
            · intro η233 wd730 Δ731 hE727 hR728 H729
              have H729 : Hp w0 ((Δ731 ++ (Bx b225 54 [.int .i64 y55.Class, .int .i64 y55.Year, .int .i64 y55.Amount] :: Row K54 (.slice A26 o21.f_l.length c28) o21.f_l :: Bx b25 89 [.slice A26 o21.f_l.length c28] :: Row K54 (.slice A35 y29.length c37) y29 :: Γ))) wd730 := H729
              refine sp_op [(76, undef), (82, undef)] (ac (hE727 37 (by decide)) (ac (hE727 43 (by decide)) an)) ?_
              refine r_not (wn_u rfl rfl (by decide) rfl rfl) ?_
              exact r_nil (n_lp ⟨_, rfl, undef, rfl, H729⟩)
            · intro η233 wd735 Δ736 hE732 hR733 H734
              have H734 : Hp w0 ((Δ736 ++ (Bx b225 54 [.int .i64 y55.Class, .int .i64 y55.Year, .int .i64 y55.Amount] :: Row K54 (.slice A26 o21.f_l.length c28) o21.f_l :: Bx b25 89 [.slice A26 o21.f_l.length c28] :: Row K54 (.slice A35 y29.length c37) y29 :: Γ))) wd735 := H734
              refine sp_op [(76, undef), (83, undef)] (ac (hE732 37 (by decide)) (ac (hE732 44 (by decide)) an)) ?_
              refine r_not (wn_u rfl rfl (by decide) rfl rfl) ?_
              exact r_nil (n_lp ⟨_, rfl, undef, rfl, H734⟩)
            · intro η233 wd740 Δ741 hE737 hR738 H739
              have H739 : Hp w0 ((Δ741 ++ (Bx b225 54 [.int .i64 y55.Class, .int .i64 y55.Year, .int .i64 y55.Amount] :: Row K54 (.slice A26 o21.f_l.length c28) o21.f_l :: Bx b25 89 [.slice A26 o21.f_l.length c28] :: Row K54 (.slice A35 y29.length c37) y29 :: Γ))) wd740 := H739
              refine sp_op [(76, undef), (78, undef), (84, undef)] (ac (hE737 37 (by decide)) (ac (hE737 39 (by decide)) (ac (hE737 45 (by decide)) an))) ?_
              refine r_not (wn_u rfl rfl (by decide) rfl rfl) ?_
              exact r_nil (n_lp ⟨_, rfl, undef, rfl, H739⟩)
            · intro η233 wd745 Δ746 hE742 hR743 H744
              have H744 : Hp w0 ((Δ746 ++ (Bx b225 54 [.int .i64 y55.Class, .int .i64 y55.Year, .int .i64 y55.Amount] :: Row K54 (.slice A26 o21.f_l.length c28) o21.f_l :: Bx b25 89 [.slice A26 o21.f_l.length c28] :: Row K54 (.slice A35 y29.length c37) y29 :: Γ))) wd745 := H744
              refine sp_op [(66, undef), (76, undef), (85, undef)] (ac (hE742 27 (by decide)) (ac (hE742 37 (by decide)) (ac (hE742 46 (by decide)) an))) ?_
              refine r_not (wn_u rfl rfl (by decide) rfl rfl) ?_
              exact r_nil (n_lp ⟨_, rfl, undef, rfl, H744⟩)
            · intro η233 wd750 Δ751 hE747 hR748 H749
              have H749 : Hp w0 ((Δ751 ++ (Bx b225 54 [.int .i64 y55.Class, .int .i64 y55.Year, .int .i64 y55.Amount] :: Row K54 (.slice A26 o21.f_l.length c28) o21.f_l :: Bx b25 89 [.slice A26 o21.f_l.length c28] :: Row K54 (.slice A35 y29.length c37) y29 :: Γ))) wd750 := H749
              refine sp_op [(56, undef), (66, undef), (86, undef)] (ac (hE747 17 (by decide)) (ac (hE747 27 (by decide)) (ac (hE747 47 (by decide)) an))) ?_
              refine r_not (wn_u rfl rfl (by decide) rfl rfl) ?_
              exact r_nil (n_lp ⟨_, rfl, undef, rfl, H749⟩)
            · intro η233 wd755 Δ756 hE752 hR753 H754
              have H754 : Hp w0 ((Δ756 ++ (Bx b225 54 [.int .i64 y55.Class, .int .i64 y55.Year, .int .i64 y55.Amount] :: Row K54 (.slice A26 o21.f_l.length c28) o21.f_l :: Bx b25 89 [.slice A26 o21.f_l.length c28] :: Row K54 (.slice A35 y29.length c37) y29 :: Γ))) wd755 := H754
              refine sp_op [(53, .bool (y494 != y55.Amount)), (56, undef), (87, undef)] (ac (hE752 14 (by decide)) (ac (hE752 17 (by decide)) (ac (hE752 48 (by decide)) an))) ?_
              refine r_not (wn_f rfl rfl (by decide) rfl hb500) ?_
              exact r_nil (n_lp ⟨_, rfl, undef, rfl, H754⟩)
            · intro η233 wd760 Δ761 hE757 hR758 H759
              have H759 : Hp w0 ((Δ761 ++ (Bx b225 54 [.int .i64 y55.Class, .int .i64 y55.Year, .int .i64 y55.Amount] :: Row K54 (.slice A26 o21.f_l.length c28) o21.f_l :: Bx b25 89 [.slice A26 o21.f_l.length c28] :: Row K54 (.slice A35 y29.length c37) y29 :: Γ))) wd760 := H759
              refine sp_op [(53, .bool (y494 != y55.Amount)), (88, undef)] (ac (hE757 14 (by decide)) (ac (hE757 49 (by decide)) an)) ?_
              refine r_pick_t (.bool true) hb500 rfl rfl ?_
              exact r_nil (n_lp ⟨_, rfl, undef, rfl, H759⟩)
            · intro η233 wd763 hV764 H762
              have H765 : Hp w0 (Bx b225 54 [.int .i64 y55.Class, .int .i64 y55.Year, .int .i64 y55.Amount] :: Row K54 (.slice A26 o21.f_l.length c28) o21.f_l :: Bx b25 89 [.slice A26 o21.f_l.length c28] :: Row K54 (.slice A35 y29.length c37) y29 :: Γ) wd763 := H762
              refine n_frame ((1, .int .i64 class_) :: (2, .int .i64 year) :: (3, .int .i64 class2) :: (4, .int .i64 year2) :: (5, .int .i64 n_) :: (13, .pointer (some ⟨b25, 0, none⟩)) :: (14, .slice A35 y29.length c37) :: (15, .int .i64 y38) :: (16, .int .i64 (w64 (v45 + y55.Amount))) :: (28, .slice A35 y29.length c37) :: (29, .int .i64 (y29.length : Int)) :: (30, .int .i64 i50) :: (43, .pointer (some ⟨b25, 0, none⟩)) :: (44, .pointer (some ⟨b225, 0, none⟩)) :: (45, .int .i64 y55.Class) :: (46, .pointer (some ⟨b225, 1, none⟩)) :: (47, .int .i64 y55.Year) :: (48, .int .i64 y494) :: (49, .pointer (some ⟨b225, 2, none⟩)) :: (50, .int .i64 y55.Amount) :: (51, .bool (y494 != y55.Amount)) :: (89, .bool true) :: []) (ac rfl (ac rfl (ac rfl (ac rfl (ac rfl (ac rfl (ac rfl (ac rfl (ac rfl (ac rfl (ac rfl (ac rfl (ac (hV764 4 rfl) (ac (hV764 5 rfl) (ac (hV764 6 rfl) (ac (hV764 7 rfl) (ac (hV764 8 rfl) (ac (hV764 9 rfl) (ac (hV764 10 rfl) (ac (hV764 11 rfl) (ac (hV764 12 rfl) (ac (hV764 50 rfl) an)))))))))))))))))))))) ?_
              refine n_cut ⟨true, upk (ac rfl (ac rfl (ac rfl (ac rfl (ac rfl (ac rfl (ac rfl (ac rfl (ac rfl (ac rfl (ac rfl (ac rfl (ac rfl an))))))))))))), H765.d.u2.u2.u2, hm⟩
          · rcases ite_some hm with ⟨hb766, hm⟩ | ⟨hb766, hm⟩
            · obtain ⟨⟨h0767, h1768⟩, hm⟩ := gd_some hm
              have hj769 := rd_get h0767 h1768
              rcases ite_some hm with ⟨hb770, hm⟩ | ⟨hb770, hm⟩
              · refine Flow.run' ([] :: [0] :: [0, 1] :: [0, 1, 2] :: [0, 1, 2, 3] :: [0, 1, 2, 3] :: [0, 1, 2, 3, 5] :: [0, 1, 2, 3] :: [0, 1, 2, 3, 7] :: [0, 1, 2, 3, 4, 5, 6, 7, 8] :: [0, 1, 2, 3] :: [0, 1, 2, 3, 10] :: [0, 1, 2, 3, 4, 5, 6, 7, 8, 9, 10, 11] :: [0, 1, 2, 3, 4, 5, 6, 7, 8, 9, 10, 11, 12] :: [0, 1, 2, 3, 4, 5, 6, 7, 8, 9, 10, 11, 12, 13] :: [0, 1, 2, 3, 4, 5, 6, 7, 8, 9, 10, 11, 12, 13, 14] :: [0, 1, 2, 3, 4, 5, 6, 7, 8, 9, 10, 11, 12, 13, 14, 15] :: [0, 1, 2, 3, 4, 5, 6, 7, 8, 9, 10, 11, 12, 13, 14, 15, 16] :: [0, 1, 2, 3, 4, 5, 6, 7, 8, 9, 10, 11, 12, 13, 14, 15, 16, 17] :: [0, 1, 2, 3, 4, 5, 6, 7, 8, 9, 10, 11, 12, 13, 14, 15, 16, 17, 18] :: [0, 1, 2, 3, 4, 5, 6, 7, 8, 9, 10, 11, 12, 13, 14, 15, 16, 17] :: [0, 1, 2, 3, 4, 5, 6, 7, 8, 9, 10, 11, 12, 13, 14, 15, 16, 17] :: [0, 1, 2, 3, 4, 5, 6, 7, 8, 9, 10, 11, 12, 13, 14, 15, 16, 17, 21] :: [0, 1, 2, 3, 4, 5, 6, 7, 8, 9, 10, 11, 12, 13, 14, 15, 16, 17, 20, 21, 22] :: [0, 1, 2, 3, 4, 5, 6, 7, 8, 9, 10, 11, 12, 13, 14, 15, 16, 17, 20, 21, 22, 23] :: [0, 1, 2, 3, 4, 5, 6, 7, 8, 9, 10, 11, 12, 13, 14, 15, 16, 17, 20, 21, 22, 23, 24] :: [0, 1, 2, 3, 4, 5, 6, 7, 8, 9, 10, 11, 12, 13, 14, 15, 16, 17, 18, 19, 20, 21, 22, 23, 24, 25] :: [0, 1, 2, 3, 4, 5, 6, 7, 8, 9, 10, 11, 12, 13, 14, 15, 16, 17, 18, 19, 20, 21, 22, 23, 24, 25, 26] :: [0, 1, 2, 3, 4, 5, 6, 7, 8, 9, 10, 11, 12, 13, 14, 15, 16, 17, 18, 19, 20, 21, 22, 23, 24, 25, 26, 27] :: [0, 1, 2, 3, 4, 5, 6, 7, 8, 9, 10, 11, 12, 13, 14, 15, 16, 17, 18, 19, 20, 21, 22, 23, 24, 25, 26, 27, 28] :: [0, 1, 2, 3, 4, 5, 6, 7, 8, 9, 10, 11, 12, 13, 14, 15, 16, 17, 18, 19, 20, 21, 22, 23, 24, 25, 26, 27] :: [0, 1, 2, 3, 4, 5, 6, 7, 8, 9, 10, 11, 12, 13, 14, 15, 16, 17, 18, 19, 20, 21, 22, 23, 24, 25, 26, 27] :: [0, 1, 2, 3, 4, 5, 6, 7, 8, 9, 10, 11, 12, 13, 14, 15, 16, 17, 18, 19, 20, 21, 22, 23, 24, 25, 26, 27, 31] :: [0, 1, 2, 3, 4, 5, 6, 7, 8, 9, 10, 11, 12, 13, 14, 15, 16, 17, 18, 19, 20, 21, 22, 23, 24, 25, 26, 27, 30, 31, 32] :: [0, 1, 2, 3, 4, 5, 6, 7, 8, 9, 10, 11, 12, 13, 14, 15, 16, 17, 18, 19, 20, 21, 22, 23, 24, 25, 26, 27, 30, 31, 32, 33] :: [0, 1, 2, 3, 4, 5, 6, 7, 8, 9, 10, 11, 12, 13, 14, 15, 16, 17, 18, 19, 20, 21, 22, 23, 24, 25, 26, 27, 30, 31, 32, 33, 34] :: [0, 1, 2, 3, 4, 5, 6, 7, 8, 9, 10, 11, 12, 13, 14, 15, 16, 17, 18, 19, 20, 21, 22, 23, 24, 25, 26, 27, 28, 29, 30, 31, 32, 33, 34, 35] :: [0, 1, 2, 3, 4, 5, 6, 7, 8, 9, 10, 11, 12, 13, 14, 15, 16, 17, 18, 19, 20, 21, 22, 23, 24, 25, 26, 27, 28, 29, 30, 31, 32, 33, 34, 35, 36] :: [0, 1, 2, 3, 4, 5, 6, 7, 8, 9, 10, 11, 12, 13, 14, 15, 16, 17, 18, 19, 20, 21, 22, 23, 24, 25, 26, 27, 28, 29, 30, 31, 32, 33, 34, 35, 36, 37] :: [0, 1, 2, 3, 4, 5, 6, 7, 8, 9, 10, 11, 12, 13, 14, 15, 16, 17, 18, 19, 20, 21, 22, 23, 24, 25, 26, 27, 28, 29, 30, 31, 32, 33, 34, 35, 36, 37, 38] :: [0, 1, 2, 3, 4, 5, 6, 7, 8, 9, 10, 11, 12, 13, 14, 15, 16, 17, 18, 19, 20, 21, 22, 23, 24, 25, 26, 27, 28, 29, 30, 31, 32, 33, 34, 35, 36, 37] :: [0, 1, 2, 3, 4, 5, 6, 7, 8, 9, 10, 11, 12, 13, 14, 15, 16, 17, 18, 19, 20, 21, 22, 23, 24, 25, 26, 27, 28, 29, 30, 31, 32, 33, 34, 35, 36, 37] :: [0, 1, 2, 3, 4, 5, 6, 7, 8, 9, 10, 11, 12, 13, 14, 15, 16, 17, 18, 19, 20, 21, 22, 23, 24, 25, 26, 27, 28, 29, 30, 31, 32, 33, 34, 35, 36, 37, 41] :: [0, 1, 2, 3, 4, 5, 6, 7, 8, 9, 10, 11, 12, 13, 14, 15, 16, 17, 18, 19, 20, 21, 22, 23, 24, 25, 26, 27, 28, 29, 30, 31, 32, 33, 34, 35, 36, 37, 40, 41, 42] :: [0, 1, 2, 3, 4, 5, 6, 7, 8, 9, 10, 11, 12, 13, 14, 15, 16, 17, 18, 19, 20, 21, 22, 23, 24, 25, 26, 27, 28, 29, 30, 31, 32, 33, 34, 35, 36, 37, 40, 41, 42, 43] :: [0, 1, 2, 3, 4, 5, 6, 7, 8, 9, 10, 11, 12, 13, 14, 15, 16, 17, 18, 19, 20, 21, 22, 23, 24, 25, 26, 27, 28, 29, 30, 31, 32, 33, 34, 35, 36, 37, 40, 41, 42, 43, 44] :: [0, 1, 2, 3, 4, 5, 6, 7, 8, 9, 10, 11, 12, 13, 14, 15, 16, 17, 18, 19, 20, 21, 22, 23, 24, 25, 26, 27, 28, 29, 30, 31, 32, 33, 34, 35, 36, 37, 38, 39, 40, 41, 42, 43, 44, 45] :: [0, 1, 2, 3, 4, 5, 6, 7, 8, 9, 10, 11, 12, 13, 14, 15, 16, 17, 18, 19, 20, 21, 22, 23, 24, 25, 26, 27, 28, 29, 30, 31, 32, 33, 34, 35, 36, 37, 38, 39, 40, 41, 42, 43, 44, 45, 46] :: [0, 1, 2, 3, 4, 5, 6, 7, 8, 9, 10, 11, 12, 13, 14, 15, 16, 17, 18, 19, 20, 21, 22, 23, 24, 25, 26, 27, 28, 29, 30, 31, 32, 33, 34, 35, 36, 37, 38, 39, 40, 41, 42, 43, 44, 45, 46, 47] :: [0, 1, 2, 3, 4, 5, 6, 7, 8, 9, 10, 11, 12, 13, 14, 15, 16, 17, 18, 19, 20, 21, 22, 23, 24, 25, 26, 27, 28, 29, 30, 31, 32, 33, 34, 35, 36, 37, 38, 39, 40, 41, 42, 43, 44, 45, 46, 47, 48] :: [0, 1, 2, 3, 4, 5, 6, 7, 8, 9, 10, 11, 12, 13, 14, 15, 16, 17, 18, 19, 20, 21, 22, 23, 24, 25, 26, 27, 28, 29, 30, 31, 32, 33, 34, 35, 36, 37, 38, 39, 40, 41, 42, 43, 44, 45, 46, 47, 48, 49] :: []) ((39, 0) :: (40, 1) :: (41, 2) :: (42, 3) :: (43, 4) :: (44, 5) :: (45, 6) :: (46, 7) :: (47, 8) :: (48, 9) :: (49, 10) :: (50, 11) :: (51, 12) :: (52, 13) :: (53, 14) :: (54, 15) :: (55, 16) :: (56, 17) :: (57, 18) :: (58, 19) :: (59, 20) :: (60, 21) :: (61, 22) :: (62, 23) :: (63, 24) :: (64, 25) :: (65, 26) :: (66, 27) :: (67, 28) :: (68, 29) :: (69, 30) :: (70, 31) :: (71, 32) :: (72, 33) :: (73, 34) :: (74, 35) :: (75, 36) :: (76, 37) :: (77, 38) :: (78, 39) :: (79, 40) :: (80, 41) :: (81, 42) :: (82, 43) :: (83, 44) :: (84, 45) :: (85, 46) :: (86, 47) :: (87, 48) :: (88, 49) :: (89, 50) :: []) ((fun η233 v => v.1 = .pointer (some ⟨b225, 2, none⟩)) :: (fun η233 v => v.1 = .int .i64 y55.Amount) :: (fun η233 v => v.1 = .bool (y55.Amount == 0)) :: (fun η233 v => v.1 = .bool (y55.Amount == 0)) :: (fun η233 v => v.1 = .pointer (some ⟨b25, 0, none⟩)) :: (fun η233 v => v.1 = .pointer (some ⟨b225, 0, none⟩)) :: (fun η233 v => v.1 = .int .i64 y55.Class) :: (fun η233 v => v.1 = .pointer (some ⟨b225, 1, none⟩)) :: (fun η233 v => v.1 = .int .i64 y55.Year) :: (fun η233 v => v.1 = .int .i64 y494) :: (fun η233 v => v.1 = .pointer (some ⟨b225, 2, none⟩)) :: (fun η233 v => v.1 = .int .i64 y55.Amount) :: (fun η233 v => v.1 = .bool (y494 != y55.Amount)) :: (fun η233 v => v.1 = .bool (y494 != y55.Amount)) :: (fun η233 v => v.1 = .bool (y494 != y55.Amount)) :: (fun η233 v => v.1 = .int .i64 i50) :: (fun η233 v => v.1 = .bool (decide (i50 > 0))) :: (fun η233 v => v.1 = .bool (decide (i50 > 0))) :: (fun η233 v => v.1 = .pointer (some ⟨b225, 0, none⟩)) :: (fun η233 v => v.1 = .int .i64 y55.Class) :: (fun η233 v => v.1 = .slice A35 y29.length c37) :: (fun η233 v => v.1 = .int .i64 i50) :: (fun η233 v => v.1 = .int .i64 (w64 (i50 - 1))) :: (fun η233 v => v.1 = .pointer (some ((oA A35).add (Int.toNat (w64 (i50 - 1)) * 3)))) :: (fun η233 v => v.1 = .pointer (some (((oA A35).add (Int.toNat (w64 (i50 - 1)) * 3)).add 0))) :: (fun η233 v => v.1 = .int .i64 ((rd y29 (w64 (i50 - 1))).Class)) :: (fun η233 v => v.1 = .bool (decide (y55.Class < (rd y29 (w64 (i50 - 1))).Class))) :: (fun η233 v => v.1 = .bool (decide (y55.Class < (rd y29 (w64 (i50 - 1))).Class))) :: (fun η233 v => v.1 = undef) :: (fun η233 v => v.1 = undef) :: (fun η233 v => v.1 = undef) :: (fun η233 v => v.1 = undef) :: (fun η233 v => v.1 = undef) :: (fun η233 v => v.1 = undef) :: (fun η233 v => v.1 = undef) :: (fun η233 v => v.1 = undef) :: (fun η233 v => v.1 = undef) :: (fun η233 v => v.1 = undef) :: (fun η233 v => v.1 = undef) :: (fun η233 v => v.1 = undef) :: (fun η233 v => v.1 = undef) :: (fun η233 v => v.1 = undef) :: (fun η233 v => v.1 = undef) :: (fun η233 v => v.1 = undef) :: (fun η233 v => v.1 = undef) :: (fun η233 v => v.1 = undef) :: (fun η233 v => v.1 = undef) :: (fun η233 v => v.1 = undef) :: (fun η233 v => v.1 = .bool true) :: (fun η233 v => v.1 = .bool true) :: (fun η233 v => v.1 = .bool true) :: []) [] rfl (by kernel_rfl) (by kernel_rfl) H228 ⟨?_, ?_, ?_, ?_, ?_, ?_, ?_, ?_, ?_, ?_, ?_, ?_, ?_, ?_, ?_, ?_, ?_, ?_, ?_, ?_, ?_, ?_, ?_, ?_, ?_, ?_, ?_, ?_, ?_, ?_, ?_, ?_, ?_, ?_, ?_, ?_, ?_, ?_, ?_, ?_, ?_, ?_, ?_, ?_, ?_, ?_, ?_, ?_, ?_, ?_, ?_, trivial⟩ ?_
                · intro η233 wd774 Δ775 hE771 hR772 H773
                  have H773 : Hp w0 ((Δ775 ++ (Bx b225 54 [.int .i64 y55.Class, .int .i64 y55.Year, .int .i64 y55.Amount] :: Row K54 (.slice A26 o21.f_l.length c28) o21.f_l :: Bx b25 89 [.slice A26 o21.f_l.length c28] :: Row K54 (.slice A35 y29.length c37) y29 :: Γ))) wd774 := H773
                  refine sp_op [(18, .pointer (some ⟨b225, 0, none⟩))] (ac rfl an) ?_
                  refine r_fa FA54_2 ⟨b225, 2, none⟩ rfl rfl ?_
                  exact r_nil (n_lp ⟨_, rfl, undef, rfl, H773⟩)
                · intro η233 wd779 Δ780 hE776 hR777 H778
                  have H778 : Hp w0 ((Δ780 ++ (Bx b225 54 [.int .i64 y55.Class, .int .i64 y55.Year, .int .i64 y55.Amount] :: Row K54 (.slice A26 o21.f_l.length c28) o21.f_l :: Bx b25 89 [.slice A26 o21.f_l.length c28] :: Row K54 (.slice A35 y29.length c37) y29 :: Γ))) wd779 := H778
                  refine sp_op [(39, .pointer (some ⟨b225, 2, none⟩))] (ac (hE776 0 (by decide)) an) ?_
                  refine r_ld1 (.int .i64 y55.Amount) LD3 rfl (((H778).tl.g0).cell _ rfl) ?_
                  exact r_nil (n_lp ⟨_, rfl, undef, rfl, H778⟩)
                · intro η233 wd784 Δ785 hE781 hR782 H783
                  have H783 : Hp w0 ((Δ785 ++ (Bx b225 54 [.int .i64 y55.Class, .int .i64 y55.Year, .int .i64 y55.Amount] :: Row K54 (.slice A26 o21.f_l.length c28) o21.f_l :: Bx b25 89 [.slice A26 o21.f_l.length c28] :: Row K54 (.slice A35 y29.length c37) y29 :: Γ))) wd784 := H783
                  refine sp_op [(40, .int .i64 y55.Amount)] (ac (hE781 1 (by decide)) an) ?_
                  refine r_pure (.bool (y55.Amount == 0)) rfl ?_
                  exact r_nil (n_lp ⟨_, rfl, undef, rfl, H783⟩)
                · intro η233 wd789 Δ790 hE786 hR787 H788
                  have H788 : Hp w0 ((Δ790 ++ (Bx b225 54 [.int .i64 y55.Class, .int .i64 y55.Year, .int .i64 y55.Amount] :: Row K54 (.slice A26 o21.f_l.length c28) o21.f_l :: Bx b25 89 [.slice A26 o21.f_l.length c28] :: Row K54 (.slice A35 y29.length c37) y29 :: Γ))) wd789 := H788
                  refine sp_op [(41, .bool (y55.Amount == 0))] (ac (hE786 2 (by decide)) an) ?_
                  refine r_pure (.bool (y55.Amount == 0)) rfl ?_
                  exact r_nil (n_lp ⟨_, rfl, undef, rfl, H788⟩)
                · intro η233 wd794 Δ795 hE791 hR792 H793
                  have H793 : Hp w0 ((Δ795 ++ (Bx b225 54 [.int .i64 y55.Class, .int .i64 y55.Year, .int .i64 y55.Amount] :: Row K54 (.slice A26 o21.f_l.length c28) o21.f_l :: Bx b25 89 [.slice A26 o21.f_l.length c28] :: Row K54 (.slice A35 y29.length c37) y29 :: Γ))) wd794 := H793
                  refine sp_op [(13, .pointer (some ⟨b25, 0, none⟩)), (42, .bool (y55.Amount == 0))] (ac rfl (ac (hE791 3 (by decide)) an)) ?_
                  refine r_pure (.pointer (some ⟨b25, 0, none⟩)) rfl ?_ (wn_t rfl rfl (by decide) rfl hb234)
                  exact r_nil (n_lp ⟨_, rfl, undef, rfl, H793⟩)
                · intro η233 wd799 Δ800 hE796 hR797 H798
                  have H798 : Hp w0 ((Δ800 ++ (Bx b225 54 [.int .i64 y55.Class, .int .i64 y55.Year, .int .i64 y55.Amount] :: Row K54 (.slice A26 o21.f_l.length c28) o21.f_l :: Bx b25 89 [.slice A26 o21.f_l.length c28] :: Row K54 (.slice A35 y29.length c37) y29 :: Γ))) wd799 := H798
                  refine sp_op [(18, .pointer (some ⟨b225, 0, none⟩)), (42, .bool (y55.Amount == 0))] (ac rfl (ac (hE796 3 (by decide)) an)) ?_
                  refine r_fa FA54_0 ⟨b225, 0, none⟩ rfl rfl ?_ (wn_t rfl rfl (by decide) rfl hb234)
                  exact r_nil (n_lp ⟨_, rfl, undef, rfl, H798⟩)
                · intro η233 wd804 Δ805 hE801 hR802 H803
                  have H803 : Hp w0 ((Δ805 ++ (Bx b225 54 [.int .i64 y55.Class, .int .i64 y55.Year, .int .i64 y55.Amount] :: Row K54 (.slice A26 o21.f_l.length c28) o21.f_l :: Bx b25 89 [.slice A26 o21.f_l.length c28] :: Row K54 (.slice A35 y29.length c37) y29 :: Γ))) wd804 := H803
                  refine sp_op [(42, .bool (y55.Amount == 0)), (44, .pointer (some ⟨b225, 0, none⟩))] (ac (hE801 3 (by decide)) (ac (hE801 5 (by decide)) an)) ?_
                  refine r_ld1 (.int .i64 y55.Class) LD3 rfl (((H803).tl.g0).cell _ rfl) ?_ (wn_t rfl rfl (by decide) rfl hb234)
                  exact r_nil (n_lp ⟨_, rfl, undef, rfl, H803⟩)
                · intro η233 wd809 Δ810 hE806 hR807 H808
                  have H808 : Hp w0 ((Δ810 ++ (Bx b225 54 [.int .i64 y55.Class, .int .i64 y55.Year, .int .i64 y55.Amount] :: Row K54 (.slice A26 o21.f_l.length c28) o21.f_l :: Bx b25 89 [.slice A26 o21.f_l.length c28] :: Row K54 (.slice A35 y29.length c37) y29 :: Γ))) wd809 := H808
                  refine sp_op [(18, .pointer (some ⟨b225, 0, none⟩)), (42, .bool (y55.Amount == 0))] (ac rfl (ac (hE806 3 (by decide)) an)) ?_
                  refine r_fa FA54_1 ⟨b225, 1, none⟩ rfl rfl ?_ (wn_t rfl rfl (by decide) rfl hb234)
                  exact r_nil (n_lp ⟨_, rfl, undef, rfl, H808⟩)
                · intro η233 wd814 Δ815 hE811 hR812 H813
                  have H813 : Hp w0 ((Δ815 ++ (Bx b225 54 [.int .i64 y55.Class, .int .i64 y55.Year, .int .i64 y55.Amount] :: Row K54 (.slice A26 o21.f_l.length c28) o21.f_l :: Bx b25 89 [.slice A26 o21.f_l.length c28] :: Row K54 (.slice A35 y29.length c37) y29 :: Γ))) wd814 := H813
                  refine sp_op [(42, .bool (y55.Amount == 0)), (46, .pointer (some ⟨b225, 1, none⟩))] (ac (hE811 3 (by decide)) (ac (hE811 7 (by decide)) an)) ?_
                  refine r_ld1 (.int .i64 y55.Year) LD3 rfl (((H813).tl.g0).cell _ rfl) ?_ (wn_t rfl rfl (by decide) rfl hb234)
                  exact r_nil (n_lp ⟨_, rfl, undef, rfl, H813⟩)
                · intro η233 wd819 Δ820 hE816 hR817 H818
                  have H818 : Hp w0 ((Δ820 ++ (Bx b225 54 [.int .i64 y55.Class, .int .i64 y55.Year, .int .i64 y55.Amount] :: Row K54 (.slice A26 o21.f_l.length c28) o21.f_l :: Bx b25 89 [.slice A26 o21.f_l.length c28] :: Row K54 (.slice A35 y29.length c37) y29 :: Γ))) wd819 := H818
                  refine sp_op [(42, .bool (y55.Amount == 0)), (43, .pointer (some ⟨b25, 0, none⟩)), (45, .int .i64 y55.Class), (47, .int .i64 y55.Year)] (ac (hE816 3 (by decide)) (ac (hE816 4 (by decide)) (ac (hE816 6 (by decide)) (ac (hE816 8 (by decide)) an)))) ?_
                  refine r_callf Try.call30 (bucket_Register_Get_ok b25 (⟨o21.f_l⟩ : bucket_Register) A26 o21.f_l.length c28 rfl ((((H818)).tl.g1).cap) (fun _ H => ((H).tl.g1.rd)) (fun _ H => ((H).tl.g2)) y55.Class y55.Year y494 H818 hy495) ?_ (wn_t rfl rfl (by decide) rfl hb234)
                  rintro e824 wd823 ⟨rfl, H826⟩
                  refine ⟨_, rfl, ?_⟩
                  exact r_nil (n_lp ⟨_, rfl, undef, rfl, H826⟩)
                · intro η233 wd830 Δ831 hE827 hR828 H829
                  have H829 : Hp w0 ((Δ831 ++ (Bx b225 54 [.int .i64 y55.Class, .int .i64 y55.Year, .int .i64 y55.Amount] :: Row K54 (.slice A26 o21.f_l.length c28) o21.f_l :: Bx b25 89 [.slice A26 o21.f_l.length c28] :: Row K54 (.slice A35 y29.length c37) y29 :: Γ))) wd830 := H829
                  refine sp_op [(18, .pointer (some ⟨b225, 0, none⟩)), (42, .bool (y55.Amount == 0))] (ac rfl (ac (hE827 3 (by decide)) an)) ?_
                  refine r_fa FA54_2 ⟨b225, 2, none⟩ rfl rfl ?_ (wn_t rfl rfl (by decide) rfl hb234)
                  exact r_nil (n_lp ⟨_, rfl, undef, rfl, H829⟩)
                · intro η233 wd835 Δ836 hE832 hR833 H834
                  have H834 : Hp w0 ((Δ836 ++ (Bx b225 54 [.int .i64 y55.Class, .int .i64 y55.Year, .int .i64 y55.Amount] :: Row K54 (.slice A26 o21.f_l.length c28) o21.f_l :: Bx b25 89 [.slice A26 o21.f_l.length c28] :: Row K54 (.slice A35 y29.length c37) y29 :: Γ))) wd835 := H834
                  refine sp_op [(42, .bool (y55.Amount == 0)), (49, .pointer (some ⟨b225, 2, none⟩))] (ac (hE832 3 (by decide)) (ac (hE832 10 (by decide)) an)) ?_
                  refine r_ld1 (.int .i64 y55.Amount) LD3 rfl (((H834).tl.g0).cell _ rfl) ?_ (wn_t rfl rfl (by decide) rfl hb234)
                  exact r_nil (n_lp ⟨_, rfl, undef, rfl, H834⟩)
                · intro η233 wd840 Δ841 hE837 hR838 H839
                  have H839 : Hp w0 ((Δ841 ++ (Bx b225 54 [.int .i64 y55.Class, .int .i64 y55.Year, .int .i64 y55.Amount] :: Row K54 (.slice A26 o21.f_l.length c28) o21.f_l :: Bx b25 89 [.slice A26 o21.f_l.length c28] :: Row K54 (.slice A35 y29.length c37) y29 :: Γ))) wd840 := H839
                  refine sp_op [(42, .bool (y55.Amount == 0)), (48, .int .i64 y494), (50, .int .i64 y55.Amount)] (ac (hE837 3 (by decide)) (ac (hE837 9 (by decide)) (ac (hE837 11 (by decide)) an))) ?_
                  refine r_pure (.bool (y494 != y55.Amount)) rfl ?_ (wn_t rfl rfl (by decide) rfl hb234)
                  exact r_nil (n_lp ⟨_, rfl, undef, rfl, H839⟩)
                · intro η233 wd845 Δ846 hE842 hR843 H844
                  have H844 : Hp w0 ((Δ846 ++ (Bx b225 54 [.int .i64 y55.Class, .int .i64 y55.Year, .int .i64 y55.Amount] :: Row K54 (.slice A26 o21.f_l.length c28) o21.f_l :: Bx b25 89 [.slice A26 o21.f_l.length c28] :: Row K54 (.slice A35 y29.length c37) y29 :: Γ))) wd845 := H844
                  refine sp_op [(42, .bool (y55.Amount == 0)), (51, .bool (y494 != y55.Amount))] (ac (hE842 3 (by decide)) (ac (hE842 12 (by decide)) an)) ?_
                  refine r_pick_f (.bool (y494 != y55.Amount)) hb234 rfl rfl ?_
                  exact r_nil (n_lp ⟨_, rfl, undef, rfl, H844⟩)
                · intro η233 wd850 Δ851 hE847 hR848 H849
                  have H849 : Hp w0 ((Δ851 ++ (Bx b225 54 [.int .i64 y55.Class, .int .i64 y55.Year, .int .i64 y55.Amount] :: Row K54 (.slice A26 o21.f_l.length c28) o21.f_l :: Bx b25 89 [.slice A26 o21.f_l.length c28] :: Row K54 (.slice A35 y29.length c37) y29 :: Γ))) wd850 := H849
                  refine sp_op [(52, .bool (y494 != y55.Amount))] (ac (hE847 13 (by decide)) an) ?_
                  refine r_pure (.bool (y494 != y55.Amount)) rfl ?_
                  exact r_nil (n_lp ⟨_, rfl, undef, rfl, H849⟩)
                · intro η233 wd855 Δ856 hE852 hR853 H854
                  have H854 : Hp w0 ((Δ856 ++ (Bx b225 54 [.int .i64 y55.Class, .int .i64 y55.Year, .int .i64 y55.Amount] :: Row K54 (.slice A26 o21.f_l.length c28) o21.f_l :: Bx b25 89 [.slice A26 o21.f_l.length c28] :: Row K54 (.slice A35 y29.length c37) y29 :: Γ))) wd855 := H854
                  refine sp_op [(17, .int .i64 i50), (53, .bool (y494 != y55.Amount))] (ac rfl (ac (hE852 14 (by decide)) an)) ?_
                  refine r_pure (.int .i64 i50) rfl ?_ (wn_t rfl rfl (by decide) rfl hb500)
                  exact r_nil (n_lp ⟨_, rfl, undef, rfl, H854⟩)
                · intro η233 wd860 Δ861 hE857 hR858 H859
                  have H859 : Hp w0 ((Δ861 ++ (Bx b225 54 [.int .i64 y55.Class, .int .i64 y55.Year, .int .i64 y55.Amount] :: Row K54 (.slice A26 o21.f_l.length c28) o21.f_l :: Bx b25 89 [.slice A26 o21.f_l.length c28] :: Row K54 (.slice A35 y29.length c37) y29 :: Γ))) wd860 := H859
                  refine sp_op [(53, .bool (y494 != y55.Amount)), (54, .int .i64 i50)] (ac (hE857 14 (by decide)) (ac (hE857 15 (by decide)) an)) ?_
                  refine r_pure (.bool (decide (i50 > 0))) rfl ?_ (wn_t rfl rfl (by decide) rfl hb500)
                  exact r_nil (n_lp ⟨_, rfl, undef, rfl, H859⟩)
                · intro η233 wd865 Δ866 hE862 hR863 H864
                  have H864 : Hp w0 ((Δ866 ++ (Bx b225 54 [.int .i64 y55.Class, .int .i64 y55.Year, .int .i64 y55.Amount] :: Row K54 (.slice A26 o21.f_l.length c28) o21.f_l :: Bx b25 89 [.slice A26 o21.f_l.length c28] :: Row K54 (.slice A35 y29.length c37) y29 :: Γ))) wd865 := H864
                  refine sp_op [(53, .bool (y494 != y55.Amount)), (55, .bool (decide (i50 > 0)))] (ac (hE862 14 (by decide)) (ac (hE862 16 (by decide)) an)) ?_
                  refine r_pure (.bool (decide (i50 > 0))) rfl ?_ (wn_t rfl rfl (by decide) rfl hb500)
                  exact r_nil (n_lp ⟨_, rfl, undef, rfl, H864⟩)
                · intro η233 wd870 Δ871 hE867 hR868 H869
                  have H869 : Hp w0 ((Δ871 ++ (Bx b225 54 [.int .i64 y55.Class, .int .i64 y55.Year, .int .i64 y55.Amount] :: Row K54 (.slice A26 o21.f_l.length c28) o21.f_l :: Bx b25 89 [.slice A26 o21.f_l.length c28] :: Row K54 (.slice A35 y29.length c37) y29 :: Γ))) wd870 := H869
                  refine sp_op [(18, .pointer (some ⟨b225, 0, none⟩)), (56, .bool (decide (i50 > 0)))] (ac rfl (ac (hE867 17 (by decide)) an)) ?_
                  refine r_fa FA54_0 ⟨b225, 0, none⟩ rfl rfl ?_ (wn_t rfl rfl (by decide) rfl hb766)
                  exact r_nil (n_lp ⟨_, rfl, undef, rfl, H869⟩)
                · intro η233 wd875 Δ876 hE872 hR873 H874
                  have H874 : Hp w0 ((Δ876 ++ (Bx b225 54 [.int .i64 y55.Class, .int .i64 y55.Year, .int .i64 y55.Amount] :: Row K54 (.slice A26 o21.f_l.length c28) o21.f_l :: Bx b25 89 [.slice A26 o21.f_l.length c28] :: Row K54 (.slice A35 y29.length c37) y29 :: Γ))) wd875 := H874
                  refine sp_op [(56, .bool (decide (i50 > 0))), (57, .pointer (some ⟨b225, 0, none⟩))] (ac (hE872 17 (by decide)) (ac (hE872 18 (by decide)) an)) ?_
                  refine r_ld1 (.int .i64 y55.Class) LD3 rfl (((H874).tl.g0).cell _ rfl) ?_ (wn_t rfl rfl (by decide) rfl hb766)
                  exact r_nil (n_lp ⟨_, rfl, undef, rfl, H874⟩)
                · intro η233 wd880 Δ881 hE877 hR878 H879
                  have H879 : Hp w0 ((Δ881 ++ (Bx b225 54 [.int .i64 y55.Class, .int .i64 y55.Year, .int .i64 y55.Amount] :: Row K54 (.slice A26 o21.f_l.length c28) o21.f_l :: Bx b25 89 [.slice A26 o21.f_l.length c28] :: Row K54 (.slice A35 y29.length c37) y29 :: Γ))) wd880 := H879
                  refine sp_op [(14, .slice A35 y29.length c37), (56, .bool (decide (i50 > 0)))] (ac rfl (ac (hE877 17 (by decide)) an)) ?_
                  refine r_pure (.slice A35 y29.length c37) rfl ?_ (wn_t rfl rfl (by decide) rfl hb766)
                  exact r_nil (n_lp ⟨_, rfl, undef, rfl, H879⟩)
                · intro η233 wd885 Δ886 hE882 hR883 H884
                  have H884 : Hp w0 ((Δ886 ++ (Bx b225 54 [.int .i64 y55.Class, .int .i64 y55.Year, .int .i64 y55.Amount] :: Row K54 (.slice A26 o21.f_l.length c28) o21.f_l :: Bx b25 89 [.slice A26 o21.f_l.length c28] :: Row K54 (.slice A35 y29.length c37) y29 :: Γ))) wd885 := H884
                  refine sp_op [(17, .int .i64 i50), (56, .bool (decide (i50 > 0)))] (ac rfl (ac (hE882 17 (by decide)) an)) ?_
                  refine r_pure (.int .i64 i50) rfl ?_ (wn_t rfl rfl (by decide) rfl hb766)
                  exact r_nil (n_lp ⟨_, rfl, undef, rfl, H884⟩)
                · intro η233 wd890 Δ891 hE887 hR888 H889
                  have H889 : Hp w0 ((Δ891 ++ (Bx b225 54 [.int .i64 y55.Class, .int .i64 y55.Year, .int .i64 y55.Amount] :: Row K54 (.slice A26 o21.f_l.length c28) o21.f_l :: Bx b25 89 [.slice A26 o21.f_l.length c28] :: Row K54 (.slice A35 y29.length c37) y29 :: Γ))) wd890 := H889
                  refine sp_op [(56, .bool (decide (i50 > 0))), (60, .int .i64 i50)] (ac (hE887 17 (by decide)) (ac (hE887 21 (by decide)) an)) ?_
                  refine r_pure (.int .i64 (w64 (i50 - 1))) rfl ?_ (wn_t rfl rfl (by decide) rfl hb766)
                  exact r_nil (n_lp ⟨_, rfl, undef, rfl, H889⟩)
                · intro η233 wd895 Δ896 hE892 hR893 H894
                  have H894 : Hp w0 ((Δ896 ++ (Bx b225 54 [.int .i64 y55.Class, .int .i64 y55.Year, .int .i64 y55.Amount] :: Row K54 (.slice A26 o21.f_l.length c28) o21.f_l :: Bx b25 89 [.slice A26 o21.f_l.length c28] :: Row K54 (.slice A35 y29.length c37) y29 :: Γ))) wd895 := H894
                  refine sp_op [(56, .bool (decide (i50 > 0))), (59, .slice A35 y29.length c37), (61, .int .i64 (w64 (i50 - 1)))] (ac (hE892 17 (by decide)) (ac (hE892 20 (by decide)) (ac (hE892 22 (by decide)) an))) ?_
                  refine r_ix IX51 rfl rfl hA224 h0767 h1768 ?_ (wn_t rfl rfl (by decide) rfl hb766)
                  exact r_nil (n_lp ⟨_, rfl, undef, rfl, H894⟩)
                · intro η233 wd903 Δ904 hE900 hR901 H902
                  have H902 : Hp w0 ((Δ904 ++ (Bx b225 54 [.int .i64 y55.Class, .int .i64 y55.Year, .int .i64 y55.Amount] :: Row K54 (.slice A26 o21.f_l.length c28) o21.f_l :: Bx b25 89 [.slice A26 o21.f_l.length c28] :: Row K54 (.slice A35 y29.length c37) y29 :: Γ))) wd903 := H902
                  refine sp_op [(56, .bool (decide (i50 > 0))), (62, .pointer (some ((oA A35).add (Int.toNat (w64 (i50 - 1)) * 3))))] (ac (hE900 17 (by decide)) (ac (hE900 23 (by decide)) an)) ?_
                  refine r_fa FA54_0 (((oA A35).add (Int.toNat (w64 (i50 - 1)) * 3)).add 0) rfl rfl ?_ (wn_t rfl rfl (by decide) rfl hb766)
                  exact r_nil (n_lp ⟨_, rfl, undef, rfl, H902⟩)
                · intro η233 wd908 Δ909 hE905 hR906 H907
                  have H907 : Hp w0 ((Δ909 ++ (Bx b225 54 [.int .i64 y55.Class, .int .i64 y55.Year, .int .i64 y55.Amount] :: Row K54 (.slice A26 o21.f_l.length c28) o21.f_l :: Bx b25 89 [.slice A26 o21.f_l.length c28] :: Row K54 (.slice A35 y29.length c37) y29 :: Γ))) wd908 := H907
                  refine sp_op [(56, .bool (decide (i50 > 0))), (63, .pointer (some (((oA A35).add (Int.toNat (w64 (i50 - 1)) * 3)).add 0)))] (ac (hE905 17 (by decide)) (ac (hE905 24 (by decide)) an)) ?_
                  refine r_ld1 (.int .i64 ((rd y29 (w64 (i50 - 1))).Class)) LD3 rfl (((H907).tl.g3.rd).cA hA224 hj769 0 _ rfl) ?_ (wn_t rfl rfl (by decide) rfl hb766)
                  exact r_nil (n_lp ⟨_, rfl, undef, rfl, H907⟩)
                · intro η233 wd913 Δ914 hE910 hR911 H912
                  have H912 : Hp w0 ((Δ914 ++ (Bx b225 54 [.int .i64 y55.Class, .int .i64 y55.Year, .int .i64 y55.Amount] :: Row K54 (.slice A26 o21.f_l.length c28) o21.f_l :: Bx b25 89 [.slice A26 o21.f_l.length c28] :: Row K54 (.slice A35 y29.length c37) y29 :: Γ))) wd913 := H912
                  refine sp_op [(56, .bool (decide (i50 > 0))), (58, .int .i64 y55.Class), (64, .int .i64 ((rd y29 (w64 (i50 - 1))).Class))] (ac (hE910 17 (by decide)) (ac (hE910 19 (by decide)) (ac (hE910 25 (by decide)) an))) ?_
                  refine r_pure (.bool (decide (y55.Class < (rd y29 (w64 (i50 - 1))).Class))) rfl ?_ (wn_t rfl rfl (by decide) rfl hb766)
                  exact r_nil (n_lp ⟨_, rfl, undef, rfl, H912⟩)
                · intro η233 wd918 Δ919 hE915 hR916 H917
                  have H917 : Hp w0 ((Δ919 ++ (Bx b225 54 [.int .i64 y55.Class, .int .i64 y55.Year, .int .i64 y55.Amount] :: Row K54 (.slice A26 o21.f_l.length c28) o21.f_l :: Bx b25 89 [.slice A26 o21.f_l.length c28] :: Row K54 (.slice A35 y29.length c37) y29 :: Γ))) wd918 := H917
                  refine sp_op [(56, .bool (decide (i50 > 0))), (65, .bool (decide (y55.Class < (rd y29 (w64 (i50 - 1))).Class)))] (ac (hE915 17 (by decide)) (ac (hE915 26 (by decide)) an)) ?_
                  refine r_pure (.bool (decide (y55.Class < (rd y29 (w64 (i50 - 1))).Class))) rfl ?_ (wn_t rfl rfl (by decide) rfl hb766)
                  exact r_nil (n_lp ⟨_, rfl, undef, rfl, H917⟩)
                · intro η233 wd923 Δ924 hE920 hR921 H922
                  have H922 : Hp w0 ((Δ924 ++ (Bx b225 54 [.int .i64 y55.Class, .int .i64 y55.Year, .int .i64 y55.Amount] :: Row K54 (.slice A26 o21.f_l.length c28) o21.f_l :: Bx b25 89 [.slice A26 o21.f_l.length c28] :: Row K54 (.slice A35 y29.length c37) y29 :: Γ))) wd923 := H922
                  refine sp_op [(18, .pointer (some ⟨b225, 0, none⟩)), (66, .bool (decide (y55.Class < (rd y29 (w64 (i50 - 1))).Class)))] (ac rfl (ac (hE920 27 (by decide)) an)) ?_
                  refine r_not (wn_f rfl rfl (by decide) rfl hb770) ?_
                  exact r_nil (n_lp ⟨_, rfl, undef, rfl, H922⟩)
                · intro η233 wd928 Δ929 hE925 hR926 H927
                  have H927 : Hp w0 ((Δ929 ++ (Bx b225 54 [.int .i64 y55.Class, .int .i64 y55.Year, .int .i64 y55.Amount] :: Row K54 (.slice A26 o21.f_l.length c28) o21.f_l :: Bx b25 89 [.slice A26 o21.f_l.length c28] :: Row K54 (.slice A35 y29.length c37) y29 :: Γ))) wd928 := H927
                  refine sp_op [(66, .bool (decide (y55.Class < (rd y29 (w64 (i50 - 1))).Class))), (67, undef)] (ac (hE925 27 (by decide)) (ac (hE925 28 (by decide)) an)) ?_
                  refine r_not (wn_f rfl rfl (by decide) rfl hb770) ?_
                  exact r_nil (n_lp ⟨_, rfl, undef, rfl, H927⟩)
                · intro η233 wd933 Δ934 hE930 hR931 H932
                  have H932 : Hp w0 ((Δ934 ++ (Bx b225 54 [.int .i64 y55.Class, .int .i64 y55.Year, .int .i64 y55.Amount] :: Row K54 (.slice A26 o21.f_l.length c28) o21.f_l :: Bx b25 89 [.slice A26 o21.f_l.length c28] :: Row K54 (.slice A35 y29.length c37) y29 :: Γ))) wd933 := H932
                  refine sp_op [(14, .slice A35 y29.length c37), (66, .bool (decide (y55.Class < (rd y29 (w64 (i50 - 1))).Class)))] (ac rfl (ac (hE930 27 (by decide)) an)) ?_
                  refine r_not (wn_f rfl rfl (by decide) rfl hb770) ?_
                  exact r_nil (n_lp ⟨_, rfl, undef, rfl, H932⟩)
                · intro η233 wd938 Δ939 hE935 hR936 H937
                  have H937 : Hp w0 ((Δ939 ++ (Bx b225 54 [.int .i64 y55.Class, .int .i64 y55.Year, .int .i64 y55.Amount] :: Row K54 (.slice A26 o21.f_l.length c28) o21.f_l :: Bx b25 89 [.slice A26 o21.f_l.length c28] :: Row K54 (.slice A35 y29.length c37) y29 :: Γ))) wd938 := H937
                  refine sp_op [(17, .int .i64 i50), (66, .bool (decide (y55.Class < (rd y29 (w64 (i50 - 1))).Class)))] (ac rfl (ac (hE935 27 (by decide)) an)) ?_
                  refine r_not (wn_f rfl rfl (by decide) rfl hb770) ?_
                  exact r_nil (n_lp ⟨_, rfl, undef, rfl, H937⟩)
                · intro η233 wd943 Δ944 hE940 hR941 H942
                  have H942 : Hp w0 ((Δ944 ++ (Bx b225 54 [.int .i64 y55.Class, .int .i64 y55.Year, .int .i64 y55.Amount] :: Row K54 (.slice A26 o21.f_l.length c28) o21.f_l :: Bx b25 89 [.slice A26 o21.f_l.length c28] :: Row K54 (.slice A35 y29.length c37) y29 :: Γ))) wd943 := H942
                  refine sp_op [(66, .bool (decide (y55.Class < (rd y29 (w64 (i50 - 1))).Class))), (70, undef)] (ac (hE940 27 (by decide)) (ac (hE940 31 (by decide)) an)) ?_
                  refine r_not (wn_f rfl rfl (by decide) rfl hb770) ?_
                  exact r_nil (n_lp ⟨_, rfl, undef, rfl, H942⟩)
                · intro η233 wd948 Δ949 hE945 hR946 H947
                  have H947 : Hp w0 ((Δ949 ++ (Bx b225 54 [.int .i64 y55.Class, .int .i64 y55.Year, .int .i64 y55.Amount] :: Row K54 (.slice A26 o21.f_l.length c28) o21.f_l :: Bx b25 89 [.slice A26 o21.f_l.length c28] :: Row K54 (.slice A35 y29.length c37) y29 :: Γ))) wd948 := H947
                  refine sp_op [(66, .bool (decide (y55.Class < (rd y29 (w64 (i50 - 1))).Class))), (69, undef), (71, undef)] (ac (hE945 27 (by decide)) (ac (hE945 30 (by decide)) (ac (hE945 32 (by decide)) an))) ?_
                  refine r_not (wn_f rfl rfl (by decide) rfl hb770) ?_
                  exact r_nil (n_lp ⟨_, rfl, undef, rfl, H947⟩)
                · intro η233 wd953 Δ954 hE950 hR951 H952
                  have H952 : Hp w0 ((Δ954 ++ (Bx b225 54 [.int .i64 y55.Class, .int .i64 y55.Year, .int .i64 y55.Amount] :: Row K54 (.slice A26 o21.f_l.length c28) o21.f_l :: Bx b25 89 [.slice A26 o21.f_l.length c28] :: Row K54 (.slice A35 y29.length c37) y29 :: Γ))) wd953 := H952
                  refine sp_op [(66, .bool (decide (y55.Class < (rd y29 (w64 (i50 - 1))).Class))), (72, undef)] (ac (hE950 27 (by decide)) (ac (hE950 33 (by decide)) an)) ?_
                  refine r_not (wn_f rfl rfl (by decide) rfl hb770) ?_
                  exact r_nil (n_lp ⟨_, rfl, undef, rfl, H952⟩)
                · intro η233 wd958 Δ959 hE955 hR956 H957
                  have H957 : Hp w0 ((Δ959 ++ (Bx b225 54 [.int .i64 y55.Class, .int .i64 y55.Year, .int .i64 y55.Amount] :: Row K54 (.slice A26 o21.f_l.length c28) o21.f_l :: Bx b25 89 [.slice A26 o21.f_l.length c28] :: Row K54 (.slice A35 y29.length c37) y29 :: Γ))) wd958 := H957
                  refine sp_op [(66, .bool (decide (y55.Class < (rd y29 (w64 (i50 - 1))).Class))), (73, undef)] (ac (hE955 27 (by decide)) (ac (hE955 34 (by decide)) an)) ?_
                  refine r_not (wn_f rfl rfl (by decide) rfl hb770) ?_
                  exact r_nil (n_lp ⟨_, rfl, undef, rfl, H957⟩)
                · intro η233 wd963 Δ964 hE960 hR961 H962
                  have H962 : Hp w0 ((Δ964 ++ (Bx b225 54 [.int .i64 y55.Class, .int .i64 y55.Year, .int .i64 y55.Amount] :: Row K54 (.slice A26 o21.f_l.length c28) o21.f_l :: Bx b25 89 [.slice A26 o21.f_l.length c28] :: Row K54 (.slice A35 y29.length c37) y29 :: Γ))) wd963 := H962
                  refine sp_op [(66, .bool (decide (y55.Class < (rd y29 (w64 (i50 - 1))).Class))), (68, undef), (74, undef)] (ac (hE960 27 (by decide)) (ac (hE960 29 (by decide)) (ac (hE960 35 (by decide)) an))) ?_
                  refine r_not (wn_f rfl rfl (by decide) rfl hb770) ?_
                  exact r_nil (n_lp ⟨_, rfl, undef, rfl, H962⟩)
                · intro η233 wd968 Δ969 hE965 hR966 H967
                  have H967 : Hp w0 ((Δ969 ++ (Bx b225 54 [.int .i64 y55.Class, .int .i64 y55.Year, .int .i64 y55.Amount] :: Row K54 (.slice A26 o21.f_l.length c28) o21.f_l :: Bx b25 89 [.slice A26 o21.f_l.length c28] :: Row K54 (.slice A35 y29.length c37) y29 :: Γ))) wd968 := H967
                  refine sp_op [(66, .bool (decide (y55.Class < (rd y29 (w64 (i50 - 1))).Class))), (75, undef)] (ac (hE965 27 (by decide)) (ac (hE965 36 (by decide)) an)) ?_
                  refine r_not (wn_f rfl rfl (by decide) rfl hb770) ?_
                  exact r_nil (n_lp ⟨_, rfl, undef, rfl, H967⟩)
                · intro η233 wd973 Δ974 hE970 hR971 H972
                  have H972 : Hp w0 ((Δ974 ++ (Bx b225 54 [.int .i64 y55.Class, .int .i64 y55.Year, .int .i64 y55.Amount] :: Row K54 (.slice A26 o21.f_l.length c28) o21.f_l :: Bx b25 89 [.slice A26 o21.f_l.length c28] :: Row K54 (.slice A35 y29.length c37) y29 :: Γ))) wd973 := H972
                  refine sp_op [(18, .pointer (some ⟨b225, 0, none⟩)), (76, undef)] (ac rfl (ac (hE970 37 (by decide)) an)) ?_
                  refine r_not (wn_u rfl rfl (by decide) rfl rfl) ?_
                  exact r_nil (n_lp ⟨_, rfl, undef, rfl, H972⟩)
                · intro η233 wd978 Δ979 hE975 hR976 H977
                  have H977 : Hp w0 ((Δ979 ++ (Bx b225 54 [.int .i64 y55.Class, .int .i64 y55.Year, .int .i64 y55.Amount] :: Row K54 (.slice A26 o21.f_l.length c28) o21.f_l :: Bx b25 89 [.slice A26 o21.f_l.length c28] :: Row K54 (.slice A35 y29.length c37) y29 :: Γ))) wd978 := H977
                  refine sp_op [(76, undef), (77, undef)] (ac (hE975 37 (by decide)) (ac (hE975 38 (by decide)) an)) ?_
                  refine r_not (wn_u rfl rfl (by decide) rfl rfl) ?_
                  exact r_nil (n_lp ⟨_, rfl, undef, rfl, H977⟩)
                · intro η233 wd983 Δ984 hE980 hR981 H982
                  have H982 : Hp w0 ((Δ984 ++ (Bx b225 54 [.int .i64 y55.Class, .int .i64 y55.Year, .int .i64 y55.Amount] :: Row K54 (.slice A26 o21.f_l.length c28) o21.f_l :: Bx b25 89 [.slice A26 o21.f_l.length c28] :: Row K54 (.slice A35 y29.length c37) y29 :: Γ))) wd983 := H982
                  refine sp_op [(14, .slice A35 y29.length c37), (76, undef)] (ac rfl (ac (hE980 37 (by decide)) an)) ?_
                  refine r_not (wn_u rfl rfl (by decide) rfl rfl) ?_
                  exact r_nil (n_lp ⟨_, rfl, undef, rfl, H982⟩)
                · intro η233 wd988 Δ989 hE985 hR986 H987
                  have H987 : Hp w0 ((Δ989 ++ (Bx b225 54 [.int .i64 y55.Class, .int .i64 y55.Year, .int .i64 y55.Amount] :: Row K54 (.slice A26 o21.f_l.length c28) o21.f_l :: Bx b25 89 [.slice A26 o21.f_l.length c28] :: Row K54 (.slice A35 y29.length c37) y29 :: Γ))) wd988 := H987
                  refine sp_op [(17, .int .i64 i50), (76, undef)] (ac rfl (ac (hE985 37 (by decide)) an)) ?_
                  refine r_not (wn_u rfl rfl (by decide) rfl rfl) ?_
                  exact r_nil (n_lp ⟨_, rfl, undef, rfl, H987⟩)
                · intro η233 wd993 Δ994 hE990 hR991 H992
                  have H992 : Hp w0 ((Δ994 ++ (Bx b225 54 [.int .i64 y55.Class, .int .i64 y55.Year, .int .i64 y55.Amount] :: Row K54 (.slice A26 o21.f_l.length c28) o21.f_l :: Bx b25 89 [.slice A26 o21.f_l.length c28] :: Row K54 (.slice A35 y29.length c37) y29 :: Γ))) wd993 := H992
                  refine sp_op [(76, undef), (80, undef)] (ac (hE990 37 (by decide)) (ac (hE990 41 (by decide)) an)) ?_
                  refine r_not (wn_u rfl rfl (by decide) rfl rfl) ?_
                  exact r_nil (n_lp ⟨_, rfl, undef, rfl, H992⟩)
                · intro η233 wd998 Δ999 hE995 hR996 H997
                  have H997 : Hp w0 ((Δ999 ++ (Bx b225 54 [.int .i64 y55.Class, .int .i64 y55.Year, .int .i64 y55.Amount] :: Row K54 (.slice A26 o21.f_l.length c28) o21.f_l :: Bx b25 89 [.slice A26 o21.f_l.length c28] :: Row K54 (.slice A35 y29.length c37) y29 :: Γ))) wd998 := H997
                  refine sp_op [(76, undef), (79, undef), (81, undef)] (ac (hE995 37 (by decide)) (ac (hE995 40 (by decide)) (ac (hE995 42 (by decide)) an))) ?_
                  refine r_not (wn_u rfl rfl (by decide) rfl rfl) ?_
                  exact r_nil (n_lp ⟨_, rfl, undef, rfl, H997⟩)
                · intro η233 wd1003 Δ1004 hE1000 hR1001 H1002
                  have H1002 : Hp w0 ((Δ1004 ++ (Bx b225 54 [.int .i64 y55.Class, .int .i64 y55.Year, .int .i64 y55.Amount] :: Row K54 (.slice A26 o21.f_l.length c28) o21.f_l :: Bx b25 89 [.slice A26 o21.f_l.length c28] :: Row K54 (.slice A35 y29.length c37) y29 :: Γ))) wd1003 := H1002
                  refine sp_op [(76, undef), (82, undef)] (ac (hE1000 37 (by decide)) (ac (hE1000 43 (by decide)) an)) ?_
                  refine r_not (wn_u rfl rfl (by decide) rfl rfl) ?_
                  exact r_nil (n_lp ⟨_, rfl, undef, rfl, H1002⟩)
                · intro η233 wd1008 Δ1009 hE1005 hR1006 H1007
                  have H1007 : Hp w0 ((Δ1009 ++ (Bx b225 54 [.int .i64 y55.Class, .int .i64 y55.Year, .int .i64 y55.Amount] :: Row K54 (.slice A26 o21.f_l.length c28) o21.f_l :: Bx b25 89 [.slice A26 o21.f_l.length c28] :: Row K54 (.slice A35 y29.length c37) y29 :: Γ))) wd1008 := H1007
                  refine sp_op [(76, undef), (83, undef)] (ac (hE1005 37 (by decide)) (ac (hE1005 44 (by decide)) an)) ?_
                  refine r_not (wn_u rfl rfl (by decide) rfl rfl) ?_
                  exact r_nil (n_lp ⟨_, rfl, undef, rfl, H1007⟩)
                · intro η233 wd1013 Δ1014 hE1010 hR1011 H1012
                  have H1012 : Hp w0 ((Δ1014 ++ (Bx b225 54 [.int .i64 y55.Class, .int .i64 y55.Year, .int .i64 y55.Amount] :: Row K54 (.slice A26 o21.f_l.length c28) o21.f_l :: Bx b25 89 [.slice A26 o21.f_l.length c28] :: Row K54 (.slice A35 y29.length c37) y29 :: Γ))) wd1013 := H1012
                  refine sp_op [(76, undef), (78, undef), (84, undef)] (ac (hE1010 37 (by decide)) (ac (hE1010 39 (by decide)) (ac (hE1010 45 (by decide)) an))) ?_
                  refine r_not (wn_u rfl rfl (by decide) rfl rfl) ?_
                  exact r_nil (n_lp ⟨_, rfl, undef, rfl, H1012⟩)
                · intro η233 wd1018 Δ1019 hE1015 hR1016 H1017
                  have H1017 : Hp w0 ((Δ1019 ++ (Bx b225 54 [.int .i64 y55.Class, .int .i64 y55.Year, .int .i64 y55.Amount] :: Row K54 (.slice A26 o21.f_l.length c28) o21.f_l :: Bx b25 89 [.slice A26 o21.f_l.length c28] :: Row K54 (.slice A35 y29.length c37) y29 :: Γ))) wd1018 := H1017
                  refine sp_op [(66, .bool (decide (y55.Class < (rd y29 (w64 (i50 - 1))).Class))), (76, undef), (85, undef)] (ac (hE1015 27 (by decide)) (ac (hE1015 37 (by decide)) (ac (hE1015 46 (by decide)) an))) ?_
                  refine r_not (wn_f rfl rfl (by decide) rfl hb770) ?_
                  exact r_nil (n_lp ⟨_, rfl, undef, rfl, H1017⟩)
                · intro η233 wd1023 Δ1024 hE1020 hR1021 H1022
                  have H1022 : Hp w0 ((Δ1024 ++ (Bx b225 54 [.int .i64 y55.Class, .int .i64 y55.Year, .int .i64 y55.Amount] :: Row K54 (.slice A26 o21.f_l.length c28) o21.f_l :: Bx b25 89 [.slice A26 o21.f_l.length c28] :: Row K54 (.slice A35 y29.length c37) y29 :: Γ))) wd1023 := H1022
                  refine sp_op [(56, .bool (decide (i50 > 0))), (66, .bool (decide (y55.Class < (rd y29 (w64 (i50 - 1))).Class))), (86, undef)] (ac (hE1020 17 (by decide)) (ac (hE1020 27 (by decide)) (ac (hE1020 47 (by decide)) an))) ?_
                  refine r_pick_t (.bool true) hb770 rfl rfl ?_ (wn_t rfl rfl (by decide) rfl hb766)
                  exact r_nil (n_lp ⟨_, rfl, undef, rfl, H1022⟩)
                · intro η233 wd1028 Δ1029 hE1025 hR1026 H1027
                  have H1027 : Hp w0 ((Δ1029 ++ (Bx b225 54 [.int .i64 y55.Class, .int .i64 y55.Year, .int .i64 y55.Amount] :: Row K54 (.slice A26 o21.f_l.length c28) o21.f_l :: Bx b25 89 [.slice A26 o21.f_l.length c28] :: Row K54 (.slice A35 y29.length c37) y29 :: Γ))) wd1028 := H1027
                  refine sp_op [(53, .bool (y494 != y55.Amount)), (56, .bool (decide (i50 > 0))), (87, .bool true)] (ac (hE1025 14 (by decide)) (ac (hE1025 17 (by decide)) (ac (hE1025 48 (by decide)) an))) ?_
                  refine r_pick_t (.bool true) hb766 rfl rfl ?_ (wn_t rfl rfl (by decide) rfl hb500)
                  exact r_nil (n_lp ⟨_, rfl, undef, rfl, H1027⟩)
                · intro η233 wd1033 Δ1034 hE1030 hR1031 H1032
                  have H1032 : Hp w0 ((Δ1034 ++ (Bx b225 54 [.int .i64 y55.Class, .int .i64 y55.Year, .int .i64 y55.Amount] :: Row K54 (.slice A26 o21.f_l.length c28) o21.f_l :: Bx b25 89 [.slice A26 o21.f_l.length c28] :: Row K54 (.slice A35 y29.length c37) y29 :: Γ))) wd1033 := H1032
                  refine sp_op [(53, .bool (y494 != y55.Amount)), (88, .bool true)] (ac (hE1030 14 (by decide)) (ac (hE1030 49 (by decide)) an)) ?_
                  refine r_pick_f (.bool true) hb500 rfl rfl ?_
                  exact r_nil (n_lp ⟨_, rfl, undef, rfl, H1032⟩)
                · intro η233 wd1036 hV1037 H1035
                  have H1038 : Hp w0 (Bx b225 54 [.int .i64 y55.Class, .int .i64 y55.Year, .int .i64 y55.Amount] :: Row K54 (.slice A26 o21.f_l.length c28) o21.f_l :: Bx b25 89 [.slice A26 o21.f_l.length c28] :: Row K54 (.slice A35 y29.length c37) y29 :: Γ) wd1036 := H1035
                  refine n_frame ((1, .int .i64 class_) :: (2, .int .i64 year) :: (3, .int .i64 class2) :: (4, .int .i64 year2) :: (5, .int .i64 n_) :: (13, .pointer (some ⟨b25, 0, none⟩)) :: (14, .slice A35 y29.length c37) :: (15, .int .i64 y38) :: (16, .int .i64 (w64 (v45 + y55.Amount))) :: (28, .slice A35 y29.length c37) :: (29, .int .i64 (y29.length : Int)) :: (30, .int .i64 i50) :: (43, .pointer (some ⟨b25, 0, none⟩)) :: (44, .pointer (some ⟨b225, 0, none⟩)) :: (45, .int .i64 y55.Class) :: (46, .pointer (some ⟨b225, 1, none⟩)) :: (47, .int .i64 y55.Year) :: (48, .int .i64 y494) :: (49, .pointer (some ⟨b225, 2, none⟩)) :: (50, .int .i64 y55.Amount) :: (51, .bool (y494 != y55.Amount)) :: (54, .int .i64 i50) :: (55, .bool (decide (i50 > 0))) :: (56, .bool (decide (i50 > 0))) :: (57, .pointer (some ⟨b225, 0, none⟩)) :: (58, .int .i64 y55.Class) :: (59, .slice A35 y29.length c37) :: (60, .int .i64 i50) :: (61, .int .i64 (w64 (i50 - 1))) :: (62, .pointer (some ((oA A35).add (Int.toNat (w64 (i50 - 1)) * 3)))) :: (63, .pointer (some (((oA A35).add (Int.toNat (w64 (i50 - 1)) * 3)).add 0))) :: (64, .int .i64 ((rd y29 (w64 (i50 - 1))).Class)) :: (65, .bool (decide (y55.Class < (rd y29 (w64 (i50 - 1))).Class))) :: (66, .bool (decide (y55.Class < (rd y29 (w64 (i50 - 1))).Class))) :: (87, .bool true) :: (88, .bool true) :: (89, .bool true) :: []) (ac rfl (ac rfl (ac rfl (ac rfl (ac rfl (ac rfl (ac rfl (ac rfl (ac rfl (ac rfl (ac rfl (ac rfl (ac (hV1037 4 rfl) (ac (hV1037 5 rfl) (ac (hV1037 6 rfl) (ac (hV1037 7 rfl) (ac (hV1037 8 rfl) (ac (hV1037 9 rfl) (ac (hV1037 10 rfl) (ac (hV1037 11 rfl) (ac (hV1037 12 rfl) (ac (hV1037 15 rfl) (ac (hV1037 16 rfl) (ac (hV1037 17 rfl) (ac (hV1037 18 rfl) (ac (hV1037 19 rfl) (ac (hV1037 20 rfl) (ac (hV1037 21 rfl) (ac (hV1037 22 rfl) (ac (hV1037 23 rfl) (ac (hV1037 24 rfl) (ac (hV1037 25 rfl) (ac (hV1037 26 rfl) (ac (hV1037 27 rfl) (ac (hV1037 48 rfl) (ac (hV1037 49 rfl) (ac (hV1037 50 rfl) an))))))))))))))))))))))))))))))))))))) ?_
                  refine n_cut ⟨true, upk (ac rfl (ac rfl (ac rfl (ac rfl (ac rfl (ac rfl (ac rfl (ac rfl (ac rfl (ac rfl (ac rfl (ac rfl (ac rfl an))))))))))))), H1038.d.u2.u2.u2, hm⟩
              · rcases ite_some hm with ⟨hb1039, hm⟩ | ⟨hb1039, hm⟩
                · refine Flow.run' ([] :: [0] :: [0, 1] :: [0, 1, 2] :: [0, 1, 2, 3] :: [0, 1, 2, 3] :: [0, 1, 2, 3, 5] :: [0, 1, 2, 3] :: [0, 1, 2, 3, 7] :: [0, 1, 2, 3, 4, 5, 6, 7, 8] :: [0, 1, 2, 3] :: [0, 1, 2, 3, 10] :: [0, 1, 2, 3, 4, 5, 6, 7, 8, 9, 10, 11] :: [0, 1, 2, 3, 4, 5, 6, 7, 8, 9, 10, 11, 12] :: [0, 1, 2, 3, 4, 5, 6, 7, 8, 9, 10, 11, 12, 13] :: [0, 1, 2, 3, 4, 5, 6, 7, 8, 9, 10, 11, 12, 13, 14] :: [0, 1, 2, 3, 4, 5, 6, 7, 8, 9, 10, 11, 12, 13, 14, 15] :: [0, 1, 2, 3, 4, 5, 6, 7, 8, 9, 10, 11, 12, 13, 14, 15, 16] :: [0, 1, 2, 3, 4, 5, 6, 7, 8, 9, 10, 11, 12, 13, 14, 15, 16, 17] :: [0, 1, 2, 3, 4, 5, 6, 7, 8, 9, 10, 11, 12, 13, 14, 15, 16, 17, 18] :: [0, 1, 2, 3, 4, 5, 6, 7, 8, 9, 10, 11, 12, 13, 14, 15, 16, 17] :: [0, 1, 2, 3, 4, 5, 6, 7, 8, 9, 10, 11, 12, 13, 14, 15, 16, 17] :: [0, 1, 2, 3, 4, 5, 6, 7, 8, 9, 10, 11, 12, 13, 14, 15, 16, 17, 21] :: [0, 1, 2, 3, 4, 5, 6, 7, 8, 9, 10, 11, 12, 13, 14, 15, 16, 17, 20, 21, 22] :: [0, 1, 2, 3, 4, 5, 6, 7, 8, 9, 10, 11, 12, 13, 14, 15, 16, 17, 20, 21, 22, 23] :: [0, 1, 2, 3, 4, 5, 6, 7, 8, 9, 10, 11, 12, 13, 14, 15, 16, 17, 20, 21, 22, 23, 24] :: [0, 1, 2, 3, 4, 5, 6, 7, 8, 9, 10, 11, 12, 13, 14, 15, 16, 17, 18, 19, 20, 21, 22, 23, 24, 25] :: [0, 1, 2, 3, 4, 5, 6, 7, 8, 9, 10, 11, 12, 13, 14, 15, 16, 17, 18, 19, 20, 21, 22, 23, 24, 25, 26] :: [0, 1, 2, 3, 4, 5, 6, 7, 8, 9, 10, 11, 12, 13, 14, 15, 16, 17, 18, 19, 20, 21, 22, 23, 24, 25, 26, 27] :: [0, 1, 2, 3, 4, 5, 6, 7, 8, 9, 10, 11, 12, 13, 14, 15, 16, 17, 18, 19, 20, 21, 22, 23, 24, 25, 26, 27, 28] :: [0, 1, 2, 3, 4, 5, 6, 7, 8, 9, 10, 11, 12, 13, 14, 15, 16, 17, 18, 19, 20, 21, 22, 23, 24, 25, 26, 27] :: [0, 1, 2, 3, 4, 5, 6, 7, 8, 9, 10, 11, 12, 13, 14, 15, 16, 17, 18, 19, 20, 21, 22, 23, 24, 25, 26, 27] :: [0, 1, 2, 3, 4, 5, 6, 7, 8, 9, 10, 11, 12, 13, 14, 15, 16, 17, 18, 19, 20, 21, 22, 23, 24, 25, 26, 27, 31] :: [0, 1, 2, 3, 4, 5, 6, 7, 8, 9, 10, 11, 12, 13, 14, 15, 16, 17, 18, 19, 20, 21, 22, 23, 24, 25, 26, 27, 30, 31, 32] :: [0, 1, 2, 3, 4, 5, 6, 7, 8, 9, 10, 11, 12, 13, 14, 15, 16, 17, 18, 19, 20, 21, 22, 23, 24, 25, 26, 27, 30, 31, 32, 33] :: [0, 1, 2, 3, 4, 5, 6, 7, 8, 9, 10, 11, 12, 13, 14, 15, 16, 17, 18, 19, 20, 21, 22, 23, 24, 25, 26, 27, 30, 31, 32, 33, 34] :: [0, 1, 2, 3, 4, 5, 6, 7, 8, 9, 10, 11, 12, 13, 14, 15, 16, 17, 18, 19, 20, 21, 22, 23, 24, 25, 26, 27, 28, 29, 30, 31, 32, 33, 34, 35] :: [0, 1, 2, 3, 4, 5, 6, 7, 8, 9, 10, 11, 12, 13, 14, 15, 16, 17, 18, 19, 20, 21, 22, 23, 24, 25, 26, 27, 28, 29, 30, 31, 32, 33, 34, 35, 36] :: [0, 1, 2, 3, 4, 5, 6, 7, 8, 9, 10, 11, 12, 13, 14, 15, 16, 17, 18, 19, 20, 21, 22, 23, 24, 25, 26, 27, 28, 29, 30, 31, 32, 33, 34, 35, 36, 37] :: [0, 1, 2, 3, 4, 5, 6, 7, 8, 9, 10, 11, 12, 13, 14, 15, 16, 17, 18, 19, 20, 21, 22, 23, 24, 25, 26, 27, 28, 29, 30, 31, 32, 33, 34, 35, 36, 37, 38] :: [0, 1, 2, 3, 4, 5, 6, 7, 8, 9, 10, 11, 12, 13, 14, 15, 16, 17, 18, 19, 20, 21, 22, 23, 24, 25, 26, 27, 28, 29, 30, 31, 32, 33, 34, 35, 36, 37] :: [0, 1, 2, 3, 4, 5, 6, 7, 8, 9, 10, 11, 12, 13, 14, 15, 16, 17, 18, 19, 20, 21, 22, 23, 24, 25, 26, 27, 28, 29, 30, 31, 32, 33, 34, 35, 36, 37] :: [0, 1, 2, 3, 4, 5, 6, 7, 8, 9, 10, 11, 12, 13, 14, 15, 16, 17, 18, 19, 20, 21, 22, 23, 24, 25, 26, 27, 28, 29, 30, 31, 32, 33, 34, 35, 36, 37, 41] :: [0, 1, 2, 3, 4, 5, 6, 7, 8, 9, 10, 11, 12, 13, 14, 15, 16, 17, 18, 19, 20, 21, 22, 23, 24, 25, 26, 27, 28, 29, 30, 31, 32, 33, 34, 35, 36, 37, 40, 41, 42] :: [0, 1, 2, 3, 4, 5, 6, 7, 8, 9, 10, 11, 12, 13, 14, 15, 16, 17, 18, 19, 20, 21, 22, 23, 24, 25, 26, 27, 28, 29, 30, 31, 32, 33, 34, 35, 36, 37, 40, 41, 42, 43] :: [0, 1, 2, 3, 4, 5, 6, 7, 8, 9, 10, 11, 12, 13, 14, 15, 16, 17, 18, 19, 20, 21, 22, 23, 24, 25, 26, 27, 28, 29, 30, 31, 32, 33, 34, 35, 36, 37, 40, 41, 42, 43, 44] :: [0, 1, 2, 3, 4, 5, 6, 7, 8, 9, 10, 11, 12, 13, 14, 15, 16, 17, 18, 19, 20, 21, 22, 23, 24, 25, 26, 27, 28, 29, 30, 31, 32, 33, 34, 35, 36, 37, 38, 39, 40, 41, 42, 43, 44, 45] :: [0, 1, 2, 3, 4, 5, 6, 7, 8, 9, 10, 11, 12, 13, 14, 15, 16, 17, 18, 19, 20, 21, 22, 23, 24, 25, 26, 27, 28, 29, 30, 31, 32, 33, 34, 35, 36, 37, 38, 39, 40, 41, 42, 43, 44, 45, 46] :: [0, 1, 2, 3, 4, 5, 6, 7, 8, 9, 10, 11, 12, 13, 14, 15, 16, 17, 18, 19, 20, 21, 22, 23, 24, 25, 26, 27, 28, 29, 30, 31, 32, 33, 34, 35, 36, 37, 38, 39, 40, 41, 42, 43, 44, 45, 46, 47] :: [0, 1, 2, 3, 4, 5, 6, 7, 8, 9, 10, 11, 12, 13, 14, 15, 16, 17, 18, 19, 20, 21, 22, 23, 24, 25, 26, 27, 28, 29, 30, 31, 32, 33, 34, 35, 36, 37, 38, 39, 40, 41, 42, 43, 44, 45, 46, 47, 48] :: [0, 1, 2, 3, 4, 5, 6, 7, 8, 9, 10, 11, 12, 13, 14, 15, 16, 17, 18, 19, 20, 21, 22, 23, 24, 25, 26, 27, 28, 29, 30, 31, 32, 33, 34, 35, 36, 37, 38, 39, 40, 41, 42, 43, 44, 45, 46, 47, 48, 49] :: []) ((39, 0) :: (40, 1) :: (41, 2) :: (42, 3) :: (43, 4) :: (44, 5) :: (45, 6) :: (46, 7) :: (47, 8) :: (48, 9) :: (49, 10) :: (50, 11) :: (51, 12) :: (52, 13) :: (53, 14) :: (54, 15) :: (55, 16) :: (56, 17) :: (57, 18) :: (58, 19) :: (59, 20) :: (60, 21) :: (61, 22) :: (62, 23) :: (63, 24) :: (64, 25) :: (65, 26) :: (66, 27) :: (67, 28) :: (68, 29) :: (69, 30) :: (70, 31) :: (71, 32) :: (72, 33) :: (73, 34) :: (74, 35) :: (75, 36) :: (76, 37) :: (77, 38) :: (78, 39) :: (79, 40) :: (80, 41) :: (81, 42) :: (82, 43) :: (83, 44) :: (84, 45) :: (85, 46) :: (86, 47) :: (87, 48) :: (88, 49) :: (89, 50) :: []) ((fun η233 v => v.1 = .pointer (some ⟨b225, 2, none⟩)) :: (fun η233 v => v.1 = .int .i64 y55.Amount) :: (fun η233 v => v.1 = .bool (y55.Amount == 0)) :: (fun η233 v => v.1 = .bool (y55.Amount == 0)) :: (fun η233 v => v.1 = .pointer (some ⟨b25, 0, none⟩)) :: (fun η233 v => v.1 = .pointer (some ⟨b225, 0, none⟩)) :: (fun η233 v => v.1 = .int .i64 y55.Class) :: (fun η233 v => v.1 = .pointer (some ⟨b225, 1, none⟩)) :: (fun η233 v => v.1 = .int .i64 y55.Year) :: (fun η233 v => v.1 = .int .i64 y494) :: (fun η233 v => v.1 = .pointer (some ⟨b225, 2, none⟩)) :: (fun η233 v => v.1 = .int .i64 y55.Amount) :: (fun η233 v => v.1 = .bool (y494 != y55.Amount)) :: (fun η233 v => v.1 = .bool (y494 != y55.Amount)) :: (fun η233 v => v.1 = .bool (y494 != y55.Amount)) :: (fun η233 v => v.1 = .int .i64 i50) :: (fun η233 v => v.1 = .bool (decide (i50 > 0))) :: (fun η233 v => v.1 = .bool (decide (i50 > 0))) :: (fun η233 v => v.1 = .pointer (some ⟨b225, 0, none⟩)) :: (fun η233 v => v.1 = .int .i64 y55.Class) :: (fun η233 v => v.1 = .slice A35 y29.length c37) :: (fun η233 v => v.1 = .int .i64 i50) :: (fun η233 v => v.1 = .int .i64 (w64 (i50 - 1))) :: (fun η233 v => v.1 = .pointer (some ((oA A35).add (Int.toNat (w64 (i50 - 1)) * 3)))) :: (fun η233 v => v.1 = .pointer (some (((oA A35).add (Int.toNat (w64 (i50 - 1)) * 3)).add 0))) :: (fun η233 v => v.1 = .int .i64 ((rd y29 (w64 (i50 - 1))).Class)) :: (fun η233 v => v.1 = .bool (decide (y55.Class < (rd y29 (w64 (i50 - 1))).Class))) :: (fun η233 v => v.1 = .bool (decide (y55.Class < (rd y29 (w64 (i50 - 1))).Class))) :: (fun η233 v => v.1 = .pointer (some ⟨b225, 0, none⟩)) :: (fun η233 v => v.1 = .int .i64 y55.Class) :: (fun η233 v => v.1 = .slice A35 y29.length c37) :: (fun η233 v => v.1 = .int .i64 i50) :: (fun η233 v => v.1 = .int .i64 (w64 (i50 - 1))) :: (fun η233 v => v.1 = .pointer (some ((oA A35).add (Int.toNat (w64 (i50 - 1)) * 3)))) :: (fun η233 v => v.1 = .pointer (some (((oA A35).add (Int.toNat (w64 (i50 - 1)) * 3)).add 0))) :: (fun η233 v => v.1 = .int .i64 ((rd y29 (w64 (i50 - 1))).Class)) :: (fun η233 v => v.1 = .bool (y55.Class == (rd y29 (w64 (i50 - 1))).Class)) :: (fun η233 v => v.1 = .bool (y55.Class == (rd y29 (w64 (i50 - 1))).Class)) :: (fun η233 v => v.1 = .pointer (some ⟨b225, 1, none⟩)) :: (fun η233 v => v.1 = .int .i64 y55.Year) :: (fun η233 v => v.1 = .slice A35 y29.length c37) :: (fun η233 v => v.1 = .int .i64 i50) :: (fun η233 v => v.1 = .int .i64 (w64 (i50 - 1))) :: (fun η233 v => v.1 = .pointer (some ((oA A35).add (Int.toNat (w64 (i50 - 1)) * 3)))) :: (fun η233 v => v.1 = .pointer (some (((oA A35).add (Int.toNat (w64 (i50 - 1)) * 3)).add 1))) :: (fun η233 v => v.1 = .int .i64 ((rd y29 (w64 (i50 - 1))).Year)) :: (fun η233 v => v.1 = .bool (decide (y55.Year ≤ (rd y29 (w64 (i50 - 1))).Year))) :: (fun η233 v => v.1 = .bool (decide (y55.Year ≤ (rd y29 (w64 (i50 - 1))).Year))) :: (fun η233 v => v.1 = .bool (decide (y55.Year ≤ (rd y29 (w64 (i50 - 1))).Year))) :: (fun η233 v => v.1 = .bool (decide (y55.Year ≤ (rd y29 (w64 (i50 - 1))).Year))) :: (fun η233 v => v.1 = .bool (decide (y55.Year ≤ (rd y29 (w64 (i50 - 1))).Year))) :: []) [] rfl (by kernel_rfl) (by kernel_rfl) H228 ⟨?_, ?_, ?_, ?_, ?_, ?_, ?_, ?_, ?_, ?_, ?_, ?_, ?_, ?_, ?_, ?_, ?_, ?_, ?_, ?_, ?_, ?_, ?_, ?_, ?_, ?_, ?_, ?_, ?_, ?_, ?_, ?_, ?_, ?_, ?_, ?_, ?_, ?_, ?_, ?_, ?_, ?_, ?_, ?_, ?_, ?_, ?_, ?_, ?_, ?_, ?_, trivial⟩ ?_
                  · intro η233 wd1043 Δ1044 hE1040 hR1041 H1042
                    have H1042 : Hp w0 ((Δ1044 ++ (Bx b225 54 [.int .i64 y55.Class, .int .i64 y55.Year, .int .i64 y55.Amount] :: Row K54 (.slice A26 o21.f_l.length c28) o21.f_l :: Bx b25 89 [.slice A26 o21.f_l.length c28] :: Row K54 (.slice A35 y29.length c37) y29 :: Γ))) wd1043 := H1042
                    refine sp_op [(18, .pointer (some ⟨b225, 0, none⟩))] (ac rfl an) ?_
                    refine r_fa FA54_2 ⟨b225, 2, none⟩ rfl rfl ?_
                    exact r_nil (n_lp ⟨_, rfl, undef, rfl, H1042⟩)
                  · intro η233 wd1048 Δ1049 hE1045 hR1046 H1047
                    have H1047 : Hp w0 ((Δ1049 ++ (Bx b225 54 [.int .i64 y55.Class, .int .i64 y55.Year, .int .i64 y55.Amount] :: Row K54 (.slice A26 o21.f_l.length c28) o21.f_l :: Bx b25 89 [.slice A26 o21.f_l.length c28] :: Row K54 (.slice A35 y29.length c37) y29 :: Γ))) wd1048 := H1047
                    refine sp_op [(39, .pointer (some ⟨b225, 2, none⟩))] (ac (hE1045 0 (by decide)) an) ?_
                    refine r_ld1 (.int .i64 y55.Amount) LD3 rfl (((H1047).tl.g0).cell _ rfl) ?_
                    exact r_nil (n_lp ⟨_, rfl, undef, rfl, H1047⟩)
                  · intro η233 wd1053 Δ1054 hE1050 hR1051 H1052
                    have H1052 : Hp w0 ((Δ1054 ++ (Bx b225 54 [.int .i64 y55.Class, .int .i64 y55.Year, .int .i64 y55.Amount] :: Row K54 (.slice A26 o21.f_l.length c28) o21.f_l :: Bx b25 89 [.slice A26 o21.f_l.length c28] :: Row K54 (.slice A35 y29.length c37) y29 :: Γ))) wd1053 := H1052
                    refine sp_op [(40, .int .i64 y55.Amount)] (ac (hE1050 1 (by decide)) an) ?_
                    refine r_pure (.bool (y55.Amount == 0)) rfl ?_
                    exact r_nil (n_lp ⟨_, rfl, undef, rfl, H1052⟩)
                  · intro η233 wd1058 Δ1059 hE1055 hR1056 H1057
                    have H1057 : Hp w0 ((Δ1059 ++ (Bx b225 54 [.int .i64 y55.Class, .int .i64 y55.Year, .int .i64 y55.Amount] :: Row K54 (.slice A26 o21.f_l.length c28) o21.f_l :: Bx b25 89 [.slice A26 o21.f_l.length c28] :: Row K54 (.slice A35 y29.length c37) y29 :: Γ))) wd1058 := H1057
                    refine sp_op [(41, .bool (y55.Amount == 0))] (ac (hE1055 2 (by decide)) an) ?_
                    refine r_pure (.bool (y55.Amount == 0)) rfl ?_
                    exact r_nil (n_lp ⟨_, rfl, undef, rfl, H1057⟩)
                  · intro η233 wd1063 Δ1064 hE1060 hR1061 H1062
                    have H1062 : Hp w0 ((Δ1064 ++ (Bx b225 54 [.int .i64 y55.Class, .int .i64 y55.Year, .int .i64 y55.Amount] :: Row K54 (.slice A26 o21.f_l.length c28) o21.f_l :: Bx b25 89 [.slice A26 o21.f_l.length c28] :: Row K54 (.slice A35 y29.length c37) y29 :: Γ))) wd1063 := H1062
                    refine sp_op [(13, .pointer (some ⟨b25, 0, none⟩)), (42, .bool (y55.Amount == 0))] (ac rfl (ac (hE1060 3 (by decide)) an)) ?_
                    refine r_pure (.pointer (some ⟨b25, 0, none⟩)) rfl ?_ (wn_t rfl rfl (by decide) rfl hb234)
                    exact r_nil (n_lp ⟨_, rfl, undef, rfl, H1062⟩)
                  · intro η233 wd1068 Δ1069 hE1065 hR1066 H1067
                    have H1067 : Hp w0 ((Δ1069 ++ (Bx b225 54 [.int .i64 y55.Class, .int .i64 y55.Year, .int .i64 y55.Amount] :: Row K54 (.slice A26 o21.f_l.length c28) o21.f_l :: Bx b25 89 [.slice A26 o21.f_l.length c28] :: Row K54 (.slice A35 y29.length c37) y29 :: Γ))) wd1068 := H1067
                    refine sp_op [(18, .pointer (some ⟨b225, 0, none⟩)), (42, .bool (y55.Amount == 0))] (ac rfl (ac (hE1065 3 (by decide)) an)) ?_
                    refine r_fa FA54_0 ⟨b225, 0, none⟩ rfl rfl ?_ (wn_t rfl rfl (by decide) rfl hb234)
                    exact r_nil (n_lp ⟨_, rfl, undef, rfl, H1067⟩)
                  · intro η233 wd1073 Δ1074 hE1070 hR1071 H1072
                    have H1072 : Hp w0 ((Δ1074 ++ (Bx b225 54 [.int .i64 y55.Class, .int .i64 y55.Year, .int .i64 y55.Amount] :: Row K54 (.slice A26 o21.f_l.length c28) o21.f_l :: Bx b25 89 [.slice A26 o21.f_l.length c28] :: Row K54 (.slice A35 y29.length c37) y29 :: Γ))) wd1073 := H1072
                    refine sp_op [(42, .bool (y55.Amount == 0)), (44, .pointer (some ⟨b225, 0, none⟩))] (ac (hE1070 3 (by decide)) (ac (hE1070 5 (by decide)) an)) ?_
                    refine r_ld1 (.int .i64 y55.Class) LD3 rfl (((H1072).tl.g0).cell _ rfl) ?_ (wn_t rfl rfl (by decide) rfl hb234)
                    exact r_nil (n_lp ⟨_, rfl, undef, rfl, H1072⟩)
                  · intro η233 wd1078 Δ1079 hE1075 hR1076 H1077
                    have H1077 : Hp w0 ((Δ1079 ++ (Bx b225 54 [.int .i64 y55.Class, .int .i64 y55.Year, .int .i64 y55.Amount] :: Row K54 (.slice A26 o21.f_l.length c28) o21.f_l :: Bx b25 89 [.slice A26 o21.f_l.length c28] :: Row K54 (.slice A35 y29.length c37) y29 :: Γ))) wd1078 := H1077
                    refine sp_op [(18, .pointer (some ⟨b225, 0, none⟩)), (42, .bool (y55.Amount == 0))] (ac rfl (ac (hE1075 3 (by decide)) an)) ?_
                    refine r_fa FA54_1 ⟨b225, 1, none⟩ rfl rfl ?_ (wn_t rfl rfl (by decide) rfl hb234)
                    exact r_nil (n_lp ⟨_, rfl, undef, rfl, H1077⟩)
                  · intro η233 wd1083 Δ1084 hE1080 hR1081 H1082
                    have H1082 : Hp w0 ((Δ1084 ++ (Bx b225 54 [.int .i64 y55.Class, .int .i64 y55.Year, .int .i64 y55.Amount] :: Row K54 (.slice A26 o21.f_l.length c28) o21.f_l :: Bx b25 89 [.slice A26 o21.f_l.length c28] :: Row K54 (.slice A35 y29.length c37) y29 :: Γ))) wd1083 := H1082
                    refine sp_op [(42, .bool (y55.Amount == 0)), (46, .pointer (some ⟨b225, 1, none⟩))] (ac (hE1080 3 (by decide)) (ac (hE1080 7 (by decide)) an)) ?_
                    refine r_ld1 (.int .i64 y55.Year) LD3 rfl (((H1082).tl.g0).cell _ rfl) ?_ (wn_t rfl rfl (by decide) rfl hb234)
                    exact r_nil (n_lp ⟨_, rfl, undef, rfl, H1082⟩)
                  · intro η233 wd1088 Δ1089 hE1085 hR1086 H1087
                    have H1087 : Hp w0 ((Δ1089 ++ (Bx b225 54 [.int .i64 y55.Class, .int .i64 y55.Year, .int .i64 y55.Amount] :: Row K54 (.slice A26 o21.f_l.length c28) o21.f_l :: Bx b25 89 [.slice A26 o21.f_l.length c28] :: Row K54 (.slice A35 y29.length c37) y29 :: Γ))) wd1088 := H1087
                    refine sp_op [(42, .bool (y55.Amount == 0)), (43, .pointer (some ⟨b25, 0, none⟩)), (45, .int .i64 y55.Class), (47, .int .i64 y55.Year)] (ac (hE1085 3 (by decide)) (ac (hE1085 4 (by decide)) (ac (hE1085 6 (by decide)) (ac (hE1085 8 (by decide)) an)))) ?_
                    refine r_callf Try.call30 (bucket_Register_Get_ok b25 (⟨o21.f_l⟩ : bucket_Register) A26 o21.f_l.length c28 rfl ((((H1087)).tl.g1).cap) (fun _ H => ((H).tl.g1.rd)) (fun _ H => ((H).tl.g2)) y55.Class y55.Year y494 H1087 hy495) ?_ (wn_t rfl rfl (by decide) rfl hb234)
                    rintro e1093 wd1092 ⟨rfl, H1095⟩
                    refine ⟨_, rfl, ?_⟩
                    exact r_nil (n_lp ⟨_, rfl, undef, rfl, H1095⟩)
                  · intro η233 wd1099 Δ1100 hE1096 hR1097 H1098
                    have H1098 : Hp w0 ((Δ1100 ++ (Bx b225 54 [.int .i64 y55.Class, .int .i64 y55.Year, .int .i64 y55.Amount] :: Row K54 (.slice A26 o21.f_l.length c28) o21.f_l :: Bx b25 89 [.slice A26 o21.f_l.length c28] :: Row K54 (.slice A35 y29.length c37) y29 :: Γ))) wd1099 := H1098
                    refine sp_op [(18, .pointer (some ⟨b225, 0, none⟩)), (42, .bool (y55.Amount == 0))] (ac rfl (ac (hE1096 3 (by decide)) an)) ?_
                    refine r_fa FA54_2 ⟨b225, 2, none⟩ rfl rfl ?_ (wn_t rfl rfl (by decide) rfl hb234)
                    exact r_nil (n_lp ⟨_, rfl, undef, rfl, H1098⟩)
                  · intro η233 wd1104 Δ1105 hE1101 hR1102 H1103
                    have H1103 : Hp w0 ((Δ1105 ++ (Bx b225 54 [.int .i64 y55.Class, .int .i64 y55.Year, .int .i64 y55.Amount] :: Row K54 (.slice A26 o21.f_l.length c28) o21.f_l :: Bx b25 89 [.slice A26 o21.f_l.length c28] :: Row K54 (.slice A35 y29.length c37) y29 :: Γ))) wd1104 := H1103
                    refine sp_op [(42, .bool (y55.Amount == 0)), (49, .pointer (some ⟨b225, 2, none⟩))] (ac (hE1101 3 (by decide)) (ac (hE1101 10 (by decide)) an)) ?_
                    refine r_ld1 (.int .i64 y55.Amount) LD3 rfl (((H1103).tl.g0).cell _ rfl) ?_ (wn_t rfl rfl (by decide) rfl hb234)
                    exact r_nil (n_lp ⟨_, rfl, undef, rfl, H1103⟩)
                  · intro η233 wd1109 Δ1110 hE1106 hR1107 H1108
                    have H1108 : Hp w0 ((Δ1110 ++ (Bx b225 54 [.int .i64 y55.Class, .int .i64 y55.Year, .int .i64 y55.Amount] :: Row K54 (.slice A26 o21.f_l.length c28) o21.f_l :: Bx b25 89 [.slice A26 o21.f_l.length c28] :: Row K54 (.slice A35 y29.length c37) y29 :: Γ))) wd1109 := H1108
                    refine sp_op [(42, .bool (y55.Amount == 0)), (48, .int .i64 y494), (50, .int .i64 y55.Amount)] (ac (hE1106 3 (by decide)) (ac (hE1106 9 (by decide)) (ac (hE1106 11 (by decide)) an))) ?_
                    refine r_pure (.bool (y494 != y55.Amount)) rfl ?_ (wn_t rfl rfl (by decide) rfl hb234)
                    exact r_nil (n_lp ⟨_, rfl, undef, rfl, H1108⟩)
                  · intro η233 wd1114 Δ1115 hE1111 hR1112 H1113
                    have H1113 : Hp w0 ((Δ1115 ++ (Bx b225 54 [.int .i64 y55.Class, .int .i64 y55.Year, .int .i64 y55.Amount] :: Row K54 (.slice A26 o21.f_l.length c28) o21.f_l :: Bx b25 89 [.slice A26 o21.f_l.length c28] :: Row K54 (.slice A35 y29.length c37) y29 :: Γ))) wd1114 := H1113
                    refine sp_op [(42, .bool (y55.Amount == 0)), (51, .bool (y494 != y55.Amount))] (ac (hE1111 3 (by decide)) (ac (hE1111 12 (by decide)) an)) ?_
                    refine r_pick_f (.bool (y494 != y55.Amount)) hb234 rfl rfl ?_
                    exact r_nil (n_lp ⟨_, rfl, undef, rfl, H1113⟩)
                  · intro η233 wd1119 Δ1120 hE1116 hR1117 H1118
                    have H1118 : Hp w0 ((Δ1120 ++ (Bx b225 54 [.int .i64 y55.Class, .int .i64 y55.Year, .int .i64 y55.Amount] :: Row K54 (.slice A26 o21.f_l.length c28) o21.f_l :: Bx b25 89 [.slice A26 o21.f_l.length c28] :: Row K54 (.slice A35 y29.length c37) y29 :: Γ))) wd1119 := H1118
                    refine sp_op [(52, .bool (y494 != y55.Amount))] (ac (hE1116 13 (by decide)) an) ?_
                    refine r_pure (.bool (y494 != y55.Amount)) rfl ?_
                    exact r_nil (n_lp ⟨_, rfl, undef, rfl, H1118⟩)
                  · intro η233 wd1124 Δ1125 hE1121 hR1122 H1123
                    have H1123 : Hp w0 ((Δ1125 ++ (Bx b225 54 [.int .i64 y55.Class, .int .i64 y55.Year, .int .i64 y55.Amount] :: Row K54 (.slice A26 o21.f_l.length c28) o21.f_l :: Bx b25 89 [.slice A26 o21.f_l.length c28] :: Row K54 (.slice A35 y29.length c37) y29 :: Γ))) wd1124 := H1123
                    refine sp_op [(17, .int .i64 i50), (53, .bool (y494 != y55.Amount))] (ac rfl (ac (hE1121 14 (by decide)) an)) ?_
                    refine r_pure (.int .i64 i50) rfl ?_ (wn_t rfl rfl (by decide) rfl hb500)
                    exact r_nil (n_lp ⟨_, rfl, undef, rfl, H1123⟩)
                  · intro η233 wd1129 Δ1130 hE1126 hR1127 H1128
                    have H1128 : Hp w0 ((Δ1130 ++ (Bx b225 54 [.int .i64 y55.Class, .int .i64 y55.Year, .int .i64 y55.Amount] :: Row K54 (.slice A26 o21.f_l.length c28) o21.f_l :: Bx b25 89 [.slice A26 o21.f_l.length c28] :: Row K54 (.slice A35 y29.length c37) y29 :: Γ))) wd1129 := H1128
                    refine sp_op [(53, .bool (y494 != y55.Amount)), (54, .int .i64 i50)] (ac (hE1126 14 (by decide)) (ac (hE1126 15 (by decide)) an)) ?_
                    refine r_pure (.bool (decide (i50 > 0))) rfl ?_ (wn_t rfl rfl (by decide) rfl hb500)
                    exact r_nil (n_lp ⟨_, rfl, undef, rfl, H1128⟩)
                  · intro η233 wd1134 Δ1135 hE1131 hR1132 H1133
                    have H1133 : Hp w0 ((Δ1135 ++ (Bx b225 54 [.int .i64 y55.Class, .int .i64 y55.Year, .int .i64 y55.Amount] :: Row K54 (.slice A26 o21.f_l.length c28) o21.f_l :: Bx b25 89 [.slice A26 o21.f_l.length c28] :: Row K54 (.slice A35 y29.length c37) y29 :: Γ))) wd1134 := H1133
                    refine sp_op [(53, .bool (y494 != y55.Amount)), (55, .bool (decide (i50 > 0)))] (ac (hE1131 14 (by decide)) (ac (hE1131 16 (by decide)) an)) ?_
                    refine r_pure (.bool (decide (i50 > 0))) rfl ?_ (wn_t rfl rfl (by decide) rfl hb500)
                    exact r_nil (n_lp ⟨_, rfl, undef, rfl, H1133⟩)
                  · intro η233 wd1139 Δ1140 hE1136 hR1137 H1138
                    have H1138 : Hp w0 ((Δ1140 ++ (Bx b225 54 [.int .i64 y55.Class, .int .i64 y55.Year, .int .i64 y55.Amount] :: Row K54 (.slice A26 o21.f_l.length c28) o21.f_l :: Bx b25 89 [.slice A26 o21.f_l.length c28] :: Row K54 (.slice A35 y29.length c37) y29 :: Γ))) wd1139 := H1138
                    refine sp_op [(18, .pointer (some ⟨b225, 0, none⟩)), (56, .bool (decide (i50 > 0)))] (ac rfl (ac (hE1136 17 (by decide)) an)) ?_
                    refine r_fa FA54_0 ⟨b225, 0, none⟩ rfl rfl ?_ (wn_t rfl rfl (by decide) rfl hb766)
                    exact r_nil (n_lp ⟨_, rfl, undef, rfl, H1138⟩)
                  · intro η233 wd1144 Δ1145 hE1141 hR1142 H1143
                    have H1143 : Hp w0 ((Δ1145 ++ (Bx b225 54 [.int .i64 y55.Class, .int .i64 y55.Year, .int .i64 y55.Amount] :: Row K54 (.slice A26 o21.f_l.length c28) o21.f_l :: Bx b25 89 [.slice A26 o21.f_l.length c28] :: Row K54 (.slice A35 y29.length c37) y29 :: Γ))) wd1144 := H1143
                    refine sp_op [(56, .bool (decide (i50 > 0))), (57, .pointer (some ⟨b225, 0, none⟩))] (ac (hE1141 17 (by decide)) (ac (hE1141 18 (by decide)) an)) ?_
                    refine r_ld1 (.int .i64 y55.Class) LD3 rfl (((H1143).tl.g0).cell _ rfl) ?_ (wn_t rfl rfl (by decide) rfl hb766)
                    exact r_nil (n_lp ⟨_, rfl, undef, rfl, H1143⟩)
                  · intro η233 wd1149 Δ1150 hE1146 hR1147 H1148
                    have H1148 : Hp w0 ((Δ1150 ++ (Bx b225 54 [.int .i64 y55.Class, .int .i64 y55.Year, .int .i64 y55.Amount] :: Row K54 (.slice A26 o21.f_l.length c28) o21.f_l :: Bx b25 89 [.slice A26 o21.f_l.length c28] :: Row K54 (.slice A35 y29.length c37) y29 :: Γ))) wd1149 := H1148
                    refine sp_op [(14, .slice A35 y29.length c37), (56, .bool (decide (i50 > 0)))] (ac rfl (ac (hE1146 17 (by decide)) an)) ?_
                    refine r_pure (.slice A35 y29.length c37) rfl ?_ (wn_t rfl rfl (by decide) rfl hb766)
                    exact r_nil (n_lp ⟨_, rfl, undef, rfl, H1148⟩)
                  · intro η233 wd1154 Δ1155 hE1151 hR1152 H1153
                    have H1153 : Hp w0 ((Δ1155 ++ (Bx b225 54 [.int .i64 y55.Class, .int .i64 y55.Year, .int .i64 y55.Amount] :: Row K54 (.slice A26 o21.f_l.length c28) o21.f_l :: Bx b25 89 [.slice A26 o21.f_l.length c28] :: Row K54 (.slice A35 y29.length c37) y29 :: Γ))) wd1154 := H1153
                    refine sp_op [(17, .int .i64 i50), (56, .bool (decide (i50 > 0)))] (ac rfl (ac (hE1151 17 (by decide)) an)) ?_
                    refine r_pure (.int .i64 i50) rfl ?_ (wn_t rfl rfl (by decide) rfl hb766)
                    exact r_nil (n_lp ⟨_, rfl, undef, rfl, H1153⟩)
                  · intro η233 wd1159 Δ1160 hE1156 hR1157 H1158
                    have H1158 : Hp w0 ((Δ1160 ++ (Bx b225 54 [.int .i64 y55.Class, .int .i64 y55.Year, .int .i64 y55.Amount] :: Row K54 (.slice A26 o21.f_l.length c28) o21.f_l :: Bx b25 89 [.slice A26 o21.f_l.length c28] :: Row K54 (.slice A35 y29.length c37) y29 :: Γ))) wd1159 := H1158
                    refine sp_op [(56, .bool (decide (i50 > 0))), (60, .int .i64 i50)] (ac (hE1156 17 (by decide)) (ac (hE1156 21 (by decide)) an)) ?_
                    refine r_pure (.int .i64 (w64 (i50 - 1))) rfl ?_ (wn_t rfl rfl (by decide) rfl hb766)
                    exact r_nil (n_lp ⟨_, rfl, undef, rfl, H1158⟩)
                  · intro η233 wd1164 Δ1165 hE1161 hR1162 H1163
                    have H1163 : Hp w0 ((Δ1165 ++ (Bx b225 54 [.int .i64 y55.Class, .int .i64 y55.Year, .int .i64 y55.Amount] :: Row K54 (.slice A26 o21.f_l.length c28) o21.f_l :: Bx b25 89 [.slice A26 o21.f_l.length c28] :: Row K54 (.slice A35 y29.length c37) y29 :: Γ))) wd1164 := H1163
                    refine sp_op [(56, .bool (decide (i50 > 0))), (59, .slice A35 y29.length c37), (61, .int .i64 (w64 (i50 - 1)))] (ac (hE1161 17 (by decide)) (ac (hE1161 20 (by decide)) (ac (hE1161 22 (by decide)) an))) ?_
                    refine r_ix IX51 rfl rfl hA224 h0767 h1768 ?_ (wn_t rfl rfl (by decide) rfl hb766)
                    exact r_nil (n_lp ⟨_, rfl, undef, rfl, H1163⟩)
                  · intro η233 wd1172 Δ1173 hE1169 hR1170 H1171
                    have H1171 : Hp w0 ((Δ1173 ++ (Bx b225 54 [.int .i64 y55.Class, .int .i64 y55.Year, .int .i64 y55.Amount] :: Row K54 (.slice A26 o21.f_l.length c28) o21.f_l :: Bx b25 89 [.slice A26 o21.f_l.length c28] :: Row K54 (.slice A35 y29.length c37) y29 :: Γ))) wd1172 := H1171
                    refine sp_op [(56, .bool (decide (i50 > 0))), (62, .pointer (some ((oA A35).add (Int.toNat (w64 (i50 - 1)) * 3))))] (ac (hE1169 17 (by decide)) (ac (hE1169 23 (by decide)) an)) ?_
                    refine r_fa FA54_0 (((oA A35).add (Int.toNat (w64 (i50 - 1)) * 3)).add 0) rfl rfl ?_ (wn_t rfl rfl (by decide) rfl hb766)
                    exact r_nil (n_lp ⟨_, rfl, undef, rfl, H1171⟩)
                  · intro η233 wd1177 Δ1178 hE1174 hR1175 H1176
                    have H1176 : Hp w0 ((Δ1178 ++ (Bx b225 54 [.int .i64 y55.Class, .int .i64 y55.Year, .int .i64 y55.Amount] :: Row K54 (.slice A26 o21.f_l.length c28) o21.f_l :: Bx b25 89 [.slice A26 o21.f_l.length c28] :: Row K54 (.slice A35 y29.length c37) y29 :: Γ))) wd1177 := H1176
                    refine sp_op [(56, .bool (decide (i50 > 0))), (63, .pointer (some (((oA A35).add (Int.toNat (w64 (i50 - 1)) * 3)).add 0)))] (ac (hE1174 17 (by decide)) (ac (hE1174 24 (by decide)) an)) ?_
                    refine r_ld1 (.int .i64 ((rd y29 (w64 (i50 - 1))).Class)) LD3 rfl (((H1176).tl.g3.rd).cA hA224 hj769 0 _ rfl) ?_ (wn_t rfl rfl (by decide) rfl hb766)
                    exact r_nil (n_lp ⟨_, rfl, undef, rfl, H1176⟩)
                  · intro η233 wd1182 Δ1183 hE1179 hR1180 H1181
                    have H1181 : Hp w0 ((Δ1183 ++ (Bx b225 54 [.int .i64 y55.Class, .int .i64 y55.Year, .int .i64 y55.Amount] :: Row K54 (.slice A26 o21.f_l.length c28) o21.f_l :: Bx b25 89 [.slice A26 o21.f_l.length c28] :: Row K54 (.slice A35 y29.length c37) y29 :: Γ))) wd1182 := H1181
                    refine sp_op [(56, .bool (decide (i50 > 0))), (58, .int .i64 y55.Class), (64, .int .i64 ((rd y29 (w64 (i50 - 1))).Class))] (ac (hE1179 17 (by decide)) (ac (hE1179 19 (by decide)) (ac (hE1179 25 (by decide)) an))) ?_
                    refine r_pure (.bool (decide (y55.Class < (rd y29 (w64 (i50 - 1))).Class))) rfl ?_ (wn_t rfl rfl (by decide) rfl hb766)
                    exact r_nil (n_lp ⟨_, rfl, undef, rfl, H1181⟩)
                  · intro η233 wd1187 Δ1188 hE1184 hR1185 H1186
                    have H1186 : Hp w0 ((Δ1188 ++ (Bx b225 54 [.int .i64 y55.Class, .int .i64 y55.Year, .int .i64 y55.Amount] :: Row K54 (.slice A26 o21.f_l.length c28) o21.f_l :: Bx b25 89 [.slice A26 o21.f_l.length c28] :: Row K54 (.slice A35 y29.length c37) y29 :: Γ))) wd1187 := H1186
                    refine sp_op [(56, .bool (decide (i50 > 0))), (65, .bool (decide (y55.Class < (rd y29 (w64 (i50 - 1))).Class)))] (ac (hE1184 17 (by decide)) (ac (hE1184 26 (by decide)) an)) ?_
                    refine r_pure (.bool (decide (y55.Class < (rd y29 (w64 (i50 - 1))).Class))) rfl ?_ (wn_t rfl rfl (by decide) rfl hb766)
                    exact r_nil (n_lp ⟨_, rfl, undef, rfl, H1186⟩)
                  · intro η233 wd1192 Δ1193 hE1189 hR1190 H1191
                    have H1191 : Hp w0 ((Δ1193 ++ (Bx b225 54 [.int .i64 y55.Class, .int .i64 y55.Year, .int .i64 y55.Amount] :: Row K54 (.slice A26 o21.f_l.length c28) o21.f_l :: Bx b25 89 [.slice A26 o21.f_l.length c28] :: Row K54 (.slice A35 y29.length c37) y29 :: Γ))) wd1192 := H1191
                    refine sp_op [(18, .pointer (some ⟨b225, 0, none⟩)), (66, .bool (decide (y55.Class < (rd y29 (w64 (i50 - 1))).Class)))] (ac rfl (ac (hE1189 27 (by decide)) an)) ?_
                    refine r_fa FA54_0 ⟨b225, 0, none⟩ rfl rfl ?_ (wn_t rfl rfl (by decide) rfl hb770)
                    exact r_nil (n_lp ⟨_, rfl, undef, rfl, H1191⟩)
                  · intro η233 wd1197 Δ1198 hE1194 hR1195 H1196
                    have H1196 : Hp w0 ((Δ1198 ++ (Bx b225 54 [.int .i64 y55.Class, .int .i64 y55.Year, .int .i64 y55.Amount] :: Row K54 (.slice A26 o21.f_l.length c28) o21.f_l :: Bx b25 89 [.slice A26 o21.f_l.length c28] :: Row K54 (.slice A35 y29.length c37) y29 :: Γ))) wd1197 := H1196
                    refine sp_op [(66, .bool (decide (y55.Class < (rd y29 (w64 (i50 - 1))).Class))), (67, .pointer (some ⟨b225, 0, none⟩))] (ac (hE1194 27 (by decide)) (ac (hE1194 28 (by decide)) an)) ?_
                    refine r_ld1 (.int .i64 y55.Class) LD3 rfl (((H1196).tl.g0).cell _ rfl) ?_ (wn_t rfl rfl (by decide) rfl hb770)
                    exact r_nil (n_lp ⟨_, rfl, undef, rfl, H1196⟩)
                  · intro η233 wd1202 Δ1203 hE1199 hR1200 H1201
                    have H1201 : Hp w0 ((Δ1203 ++ (Bx b225 54 [.int .i64 y55.Class, .int .i64 y55.Year, .int .i64 y55.Amount] :: Row K54 (.slice A26 o21.f_l.length c28) o21.f_l :: Bx b25 89 [.slice A26 o21.f_l.length c28] :: Row K54 (.slice A35 y29.length c37) y29 :: Γ))) wd1202 := H1201
                    refine sp_op [(14, .slice A35 y29.length c37), (66, .bool (decide (y55.Class < (rd y29 (w64 (i50 - 1))).Class)))] (ac rfl (ac (hE1199 27 (by decide)) an)) ?_
                    refine r_pure (.slice A35 y29.length c37) rfl ?_ (wn_t rfl rfl (by decide) rfl hb770)
                    exact r_nil (n_lp ⟨_, rfl, undef, rfl, H1201⟩)
                  · intro η233 wd1207 Δ1208 hE1204 hR1205 H1206
                    have H1206 : Hp w0 ((Δ1208 ++ (Bx b225 54 [.int .i64 y55.Class, .int .i64 y55.Year, .int .i64 y55.Amount] :: Row K54 (.slice A26 o21.f_l.length c28) o21.f_l :: Bx b25 89 [.slice A26 o21.f_l.length c28] :: Row K54 (.slice A35 y29.length c37) y29 :: Γ))) wd1207 := H1206
                    refine sp_op [(17, .int .i64 i50), (66, .bool (decide (y55.Class < (rd y29 (w64 (i50 - 1))).Class)))] (ac rfl (ac (hE1204 27 (by decide)) an)) ?_
                    refine r_pure (.int .i64 i50) rfl ?_ (wn_t rfl rfl (by decide) rfl hb770)
                    exact r_nil (n_lp ⟨_, rfl, undef, rfl, H1206⟩)
                  · intro η233 wd1212 Δ1213 hE1209 hR1210 H1211
                    have H1211 : Hp w0 ((Δ1213 ++ (Bx b225 54 [.int .i64 y55.Class, .int .i64 y55.Year, .int .i64 y55.Amount] :: Row K54 (.slice A26 o21.f_l.length c28) o21.f_l :: Bx b25 89 [.slice A26 o21.f_l.length c28] :: Row K54 (.slice A35 y29.length c37) y29 :: Γ))) wd1212 := H1211
                    refine sp_op [(66, .bool (decide (y55.Class < (rd y29 (w64 (i50 - 1))).Class))), (70, .int .i64 i50)] (ac (hE1209 27 (by decide)) (ac (hE1209 31 (by decide)) an)) ?_
                    refine r_pure (.int .i64 (w64 (i50 - 1))) rfl ?_ (wn_t rfl rfl (by decide) rfl hb770)
                    exact r_nil (n_lp ⟨_, rfl, undef, rfl, H1211⟩)
                  · intro η233 wd1217 Δ1218 hE1214 hR1215 H1216
                    have H1216 : Hp w0 ((Δ1218 ++ (Bx b225 54 [.int .i64 y55.Class, .int .i64 y55.Year, .int .i64 y55.Amount] :: Row K54 (.slice A26 o21.f_l.length c28) o21.f_l :: Bx b25 89 [.slice A26 o21.f_l.length c28] :: Row K54 (.slice A35 y29.length c37) y29 :: Γ))) wd1217 := H1216
                    refine sp_op [(66, .bool (decide (y55.Class < (rd y29 (w64 (i50 - 1))).Class))), (69, .slice A35 y29.length c37), (71, .int .i64 (w64 (i50 - 1)))] (ac (hE1214 27 (by decide)) (ac (hE1214 30 (by decide)) (ac (hE1214 32 (by decide)) an))) ?_
                    refine r_ix IX51 rfl rfl hA224 h0767 h1768 ?_ (wn_t rfl rfl (by decide) rfl hb770)
                    exact r_nil (n_lp ⟨_, rfl, undef, rfl, H1216⟩)
                  · intro η233 wd1222 Δ1223 hE1219 hR1220 H1221
                    have H1221 : Hp w0 ((Δ1223 ++ (Bx b225 54 [.int .i64 y55.Class, .int .i64 y55.Year, .int .i64 y55.Amount] :: Row K54 (.slice A26 o21.f_l.length c28) o21.f_l :: Bx b25 89 [.slice A26 o21.f_l.length c28] :: Row K54 (.slice A35 y29.length c37) y29 :: Γ))) wd1222 := H1221
                    refine sp_op [(66, .bool (decide (y55.Class < (rd y29 (w64 (i50 - 1))).Class))), (72, .pointer (some ((oA A35).add (Int.toNat (w64 (i50 - 1)) * 3))))] (ac (hE1219 27 (by decide)) (ac (hE1219 33 (by decide)) an)) ?_
                    refine r_fa FA54_0 (((oA A35).add (Int.toNat (w64 (i50 - 1)) * 3)).add 0) rfl rfl ?_ (wn_t rfl rfl (by decide) rfl hb770)
                    exact r_nil (n_lp ⟨_, rfl, undef, rfl, H1221⟩)
                  · intro η233 wd1227 Δ1228 hE1224 hR1225 H1226
                    have H1226 : Hp w0 ((Δ1228 ++ (Bx b225 54 [.int .i64 y55.Class, .int .i64 y55.Year, .int .i64 y55.Amount] :: Row K54 (.slice A26 o21.f_l.length c28) o21.f_l :: Bx b25 89 [.slice A26 o21.f_l.length c28] :: Row K54 (.slice A35 y29.length c37) y29 :: Γ))) wd1227 := H1226
                    refine sp_op [(66, .bool (decide (y55.Class < (rd y29 (w64 (i50 - 1))).Class))), (73, .pointer (some (((oA A35).add (Int.toNat (w64 (i50 - 1)) * 3)).add 0)))] (ac (hE1224 27 (by decide)) (ac (hE1224 34 (by decide)) an)) ?_
                    refine r_ld1 (.int .i64 ((rd y29 (w64 (i50 - 1))).Class)) LD3 rfl (((H1226).tl.g3.rd).cA hA224 hj769 0 _ rfl) ?_ (wn_t rfl rfl (by decide) rfl hb770)
                    exact r_nil (n_lp ⟨_, rfl, undef, rfl, H1226⟩)
                  · intro η233 wd1232 Δ1233 hE1229 hR1230 H1231
                    have H1231 : Hp w0 ((Δ1233 ++ (Bx b225 54 [.int .i64 y55.Class, .int .i64 y55.Year, .int .i64 y55.Amount] :: Row K54 (.slice A26 o21.f_l.length c28) o21.f_l :: Bx b25 89 [.slice A26 o21.f_l.length c28] :: Row K54 (.slice A35 y29.length c37) y29 :: Γ))) wd1232 := H1231
                    refine sp_op [(66, .bool (decide (y55.Class < (rd y29 (w64 (i50 - 1))).Class))), (68, .int .i64 y55.Class), (74, .int .i64 ((rd y29 (w64 (i50 - 1))).Class))] (ac (hE1229 27 (by decide)) (ac (hE1229 29 (by decide)) (ac (hE1229 35 (by decide)) an))) ?_
                    refine r_pure (.bool (y55.Class == (rd y29 (w64 (i50 - 1))).Class)) rfl ?_ (wn_t rfl rfl (by decide) rfl hb770)
                    exact r_nil (n_lp ⟨_, rfl, undef, rfl, H1231⟩)
                  · intro η233 wd1237 Δ1238 hE1234 hR1235 H1236
                    have H1236 : Hp w0 ((Δ1238 ++ (Bx b225 54 [.int .i64 y55.Class, .int .i64 y55.Year, .int .i64 y55.Amount] :: Row K54 (.slice A26 o21.f_l.length c28) o21.f_l :: Bx b25 89 [.slice A26 o21.f_l.length c28] :: Row K54 (.slice A35 y29.length c37) y29 :: Γ))) wd1237 := H1236
                    refine sp_op [(66, .bool (decide (y55.Class < (rd y29 (w64 (i50 - 1))).Class))), (75, .bool (y55.Class == (rd y29 (w64 (i50 - 1))).Class))] (ac (hE1234 27 (by decide)) (ac (hE1234 36 (by decide)) an)) ?_
                    refine r_pure (.bool (y55.Class == (rd y29 (w64 (i50 - 1))).Class)) rfl ?_ (wn_t rfl rfl (by decide) rfl hb770)
                    exact r_nil (n_lp ⟨_, rfl, undef, rfl, H1236⟩)
                  · intro η233 wd1242 Δ1243 hE1239 hR1240 H1241
                    have H1241 : Hp w0 ((Δ1243 ++ (Bx b225 54 [.int .i64 y55.Class, .int .i64 y55.Year, .int .i64 y55.Amount] :: Row K54 (.slice A26 o21.f_l.length c28) o21.f_l :: Bx b25 89 [.slice A26 o21.f_l.length c28] :: Row K54 (.slice A35 y29.length c37) y29 :: Γ))) wd1242 := H1241
                    refine sp_op [(18, .pointer (some ⟨b225, 0, none⟩)), (76, .bool (y55.Class == (rd y29 (w64 (i50 - 1))).Class))] (ac rfl (ac (hE1239 37 (by decide)) an)) ?_
                    refine r_fa FA54_1 ⟨b225, 1, none⟩ rfl rfl ?_ (wn_t rfl rfl (by decide) rfl hb1039)
                    exact r_nil (n_lp ⟨_, rfl, undef, rfl, H1241⟩)
                  · intro η233 wd1247 Δ1248 hE1244 hR1245 H1246
                    have H1246 : Hp w0 ((Δ1248 ++ (Bx b225 54 [.int .i64 y55.Class, .int .i64 y55.Year, .int .i64 y55.Amount] :: Row K54 (.slice A26 o21.f_l.length c28) o21.f_l :: Bx b25 89 [.slice A26 o21.f_l.length c28] :: Row K54 (.slice A35 y29.length c37) y29 :: Γ))) wd1247 := H1246
                    refine sp_op [(76, .bool (y55.Class == (rd y29 (w64 (i50 - 1))).Class)), (77, .pointer (some ⟨b225, 1, none⟩))] (ac (hE1244 37 (by decide)) (ac (hE1244 38 (by decide)) an)) ?_
                    refine r_ld1 (.int .i64 y55.Year) LD3 rfl (((H1246).tl.g0).cell _ rfl) ?_ (wn_t rfl rfl (by decide) rfl hb1039)
                    exact r_nil (n_lp ⟨_, rfl, undef, rfl, H1246⟩)
                  · intro η233 wd1252 Δ1253 hE1249 hR1250 H1251
                    have H1251 : Hp w0 ((Δ1253 ++ (Bx b225 54 [.int .i64 y55.Class, .int .i64 y55.Year, .int .i64 y55.Amount] :: Row K54 (.slice A26 o21.f_l.length c28) o21.f_l :: Bx b25 89 [.slice A26 o21.f_l.length c28] :: Row K54 (.slice A35 y29.length c37) y29 :: Γ))) wd1252 := H1251
                    refine sp_op [(14, .slice A35 y29.length c37), (76, .bool (y55.Class == (rd y29 (w64 (i50 - 1))).Class))] (ac rfl (ac (hE1249 37 (by decide)) an)) ?_
                    refine r_pure (.slice A35 y29.length c37) rfl ?_ (wn_t rfl rfl (by decide) rfl hb1039)
                    exact r_nil (n_lp ⟨_, rfl, undef, rfl, H1251⟩)
                  · intro η233 wd1257 Δ1258 hE1254 hR1255 H1256
                    have H1256 : Hp w0 ((Δ1258 ++ (Bx b225 54 [.int .i64 y55.Class, .int .i64 y55.Year, .int .i64 y55.Amount] :: Row K54 (.slice A26 o21.f_l.length c28) o21.f_l :: Bx b25 89 [.slice A26 o21.f_l.length c28] :: Row K54 (.slice A35 y29.length c37) y29 :: Γ))) wd1257 := H1256
                    refine sp_op [(17, .int .i64 i50), (76, .bool (y55.Class == (rd y29 (w64 (i50 - 1))).Class))] (ac rfl (ac (hE1254 37 (by decide)) an)) ?_
                    refine r_pure (.int .i64 i50) rfl ?_ (wn_t rfl rfl (by decide) rfl hb1039)
                    exact r_nil (n_lp ⟨_, rfl, undef, rfl, H1256⟩)
                  · intro η233 wd1262 Δ1263 hE1259 hR1260 H1261
                    have H1261 : Hp w0 ((Δ1263 ++ (Bx b225 54 [.int .i64 y55.Class, .int .i64 y55.Year, .int .i64 y55.Amount] :: Row K54 (.slice A26 o21.f_l.length c28) o21.f_l :: Bx b25 89 [.slice A26 o21.f_l.length c28] :: Row K54 (.slice A35 y29.length c37) y29 :: Γ))) wd1262 := H1261
                    refine sp_op [(76, .bool (y55.Class == (rd y29 (w64 (i50 - 1))).Class)), (80, .int .i64 i50)] (ac (hE1259 37 (by decide)) (ac (hE1259 41 (by decide)) an)) ?_
                    refine r_pure (.int .i64 (w64 (i50 - 1))) rfl ?_ (wn_t rfl rfl (by decide) rfl hb1039)
                    exact r_nil (n_lp ⟨_, rfl, undef, rfl, H1261⟩)
                  · intro η233 wd1267 Δ1268 hE1264 hR1265 H1266
                    have H1266 : Hp w0 ((Δ1268 ++ (Bx b225 54 [.int .i64 y55.Class, .int .i64 y55.Year, .int .i64 y55.Amount] :: Row K54 (.slice A26 o21.f_l.length c28) o21.f_l :: Bx b25 89 [.slice A26 o21.f_l.length c28] :: Row K54 (.slice A35 y29.length c37) y29 :: Γ))) wd1267 := H1266
                    refine sp_op [(76, .bool (y55.Class == (rd y29 (w64 (i50 - 1))).Class)), (79, .slice A35 y29.length c37), (81, .int .i64 (w64 (i50 - 1)))] (ac (hE1264 37 (by decide)) (ac (hE1264 40 (by decide)) (ac (hE1264 42 (by decide)) an))) ?_
                    refine r_ix IX51 rfl rfl hA224 h0767 h1768 ?_ (wn_t rfl rfl (by decide) rfl hb1039)
                    exact r_nil (n_lp ⟨_, rfl, undef, rfl, H1266⟩)
                  · intro η233 wd1272 Δ1273 hE1269 hR1270 H1271
                    have H1271 : Hp w0 ((Δ1273 ++ (Bx b225 54 [.int .i64 y55.Class, .int .i64 y55.Year, .int .i64 y55.Amount] :: Row K54 (.slice A26 o21.f_l.length c28) o21.f_l :: Bx b25 89 [.slice A26 o21.f_l.length c28] :: Row K54 (.slice A35 y29.length c37) y29 :: Γ))) wd1272 := H1271
                    refine sp_op [(76, .bool (y55.Class == (rd y29 (w64 (i50 - 1))).Class)), (82, .pointer (some ((oA A35).add (Int.toNat (w64 (i50 - 1)) * 3))))] (ac (hE1269 37 (by decide)) (ac (hE1269 43 (by decide)) an)) ?_
                    refine r_fa FA54_1 (((oA A35).add (Int.toNat (w64 (i50 - 1)) * 3)).add 1) rfl rfl ?_ (wn_t rfl rfl (by decide) rfl hb1039)
                    exact r_nil (n_lp ⟨_, rfl, undef, rfl, H1271⟩)
                  · intro η233 wd1277 Δ1278 hE1274 hR1275 H1276
                    have H1276 : Hp w0 ((Δ1278 ++ (Bx b225 54 [.int .i64 y55.Class, .int .i64 y55.Year, .int .i64 y55.Amount] :: Row K54 (.slice A26 o21.f_l.length c28) o21.f_l :: Bx b25 89 [.slice A26 o21.f_l.length c28] :: Row K54 (.slice A35 y29.length c37) y29 :: Γ))) wd1277 := H1276
                    refine sp_op [(76, .bool (y55.Class == (rd y29 (w64 (i50 - 1))).Class)), (83, .pointer (some (((oA A35).add (Int.toNat (w64 (i50 - 1)) * 3)).add 1)))] (ac (hE1274 37 (by decide)) (ac (hE1274 44 (by decide)) an)) ?_
                    refine r_ld1 (.int .i64 ((rd y29 (w64 (i50 - 1))).Year)) LD3 rfl (((H1276).tl.g3.rd).cA hA224 hj769 1 _ rfl) ?_ (wn_t rfl rfl (by decide) rfl hb1039)
                    exact r_nil (n_lp ⟨_, rfl, undef, rfl, H1276⟩)
                  · intro η233 wd1282 Δ1283 hE1279 hR1280 H1281
                    have H1281 : Hp w0 ((Δ1283 ++ (Bx b225 54 [.int .i64 y55.Class, .int .i64 y55.Year, .int .i64 y55.Amount] :: Row K54 (.slice A26 o21.f_l.length c28) o21.f_l :: Bx b25 89 [.slice A26 o21.f_l.length c28] :: Row K54 (.slice A35 y29.length c37) y29 :: Γ))) wd1282 := H1281
                    refine sp_op [(76, .bool (y55.Class == (rd y29 (w64 (i50 - 1))).Class)), (78, .int .i64 y55.Year), (84, .int .i64 ((rd y29 (w64 (i50 - 1))).Year))] (ac (hE1279 37 (by decide)) (ac (hE1279 39 (by decide)) (ac (hE1279 45 (by decide)) an))) ?_
                    refine r_pure (.bool (decide (y55.Year ≤ (rd y29 (w64 (i50 - 1))).Year))) rfl ?_ (wn_t rfl rfl (by decide) rfl hb1039)
                    exact r_nil (n_lp ⟨_, rfl, undef, rfl, H1281⟩)
                  · intro η233 wd1287 Δ1288 hE1284 hR1285 H1286
                    have H1286 : Hp w0 ((Δ1288 ++ (Bx b225 54 [.int .i64 y55.Class, .int .i64 y55.Year, .int .i64 y55.Amount] :: Row K54 (.slice A26 o21.f_l.length c28) o21.f_l :: Bx b25 89 [.slice A26 o21.f_l.length c28] :: Row K54 (.slice A35 y29.length c37) y29 :: Γ))) wd1287 := H1286
                    refine sp_op [(66, .bool (decide (y55.Class < (rd y29 (w64 (i50 - 1))).Class))), (76, .bool (y55.Class == (rd y29 (w64 (i50 - 1))).Class)), (85, .bool (decide (y55.Year ≤ (rd y29 (w64 (i50 - 1))).Year)))] (ac (hE1284 27 (by decide)) (ac (hE1284 37 (by decide)) (ac (hE1284 46 (by decide)) an))) ?_
                    refine r_pick_t (.bool (decide (y55.Year ≤ (rd y29 (w64 (i50 - 1))).Year))) hb1039 rfl rfl ?_ (wn_t rfl rfl (by decide) rfl hb770)
                    exact r_nil (n_lp ⟨_, rfl, undef, rfl, H1286⟩)
                  · intro η233 wd1292 Δ1293 hE1289 hR1290 H1291
                    have H1291 : Hp w0 ((Δ1293 ++ (Bx b225 54 [.int .i64 y55.Class, .int .i64 y55.Year, .int .i64 y55.Amount] :: Row K54 (.slice A26 o21.f_l.length c28) o21.f_l :: Bx b25 89 [.slice A26 o21.f_l.length c28] :: Row K54 (.slice A35 y29.length c37) y29 :: Γ))) wd1292 := H1291
                    refine sp_op [(56, .bool (decide (i50 > 0))), (66, .bool (decide (y55.Class < (rd y29 (w64 (i50 - 1))).Class))), (86, .bool (decide (y55.Year ≤ (rd y29 (w64 (i50 - 1))).Year)))] (ac (hE1289 17 (by decide)) (ac (hE1289 27 (by decide)) (ac (hE1289 47 (by decide)) an))) ?_
                    refine r_pick_f (.bool (decide (y55.Year ≤ (rd y29 (w64 (i50 - 1))).Year))) hb770 rfl rfl ?_ (wn_t rfl rfl (by decide) rfl hb766)
                    exact r_nil (n_lp ⟨_, rfl, undef, rfl, H1291⟩)
                  · intro η233 wd1297 Δ1298 hE1294 hR1295 H1296
                    have H1296 : Hp w0 ((Δ1298 ++ (Bx b225 54 [.int .i64 y55.Class, .int .i64 y55.Year, .int .i64 y55.Amount] :: Row K54 (.slice A26 o21.f_l.length c28) o21.f_l :: Bx b25 89 [.slice A26 o21.f_l.length c28] :: Row K54 (.slice A35 y29.length c37) y29 :: Γ))) wd1297 := H1296
                    refine sp_op [(53, .bool (y494 != y55.Amount)), (56, .bool (decide (i50 > 0))), (87, .bool (decide (y55.Year ≤ (rd y29 (w64 (i50 - 1))).Year)))] (ac (hE1294 14 (by decide)) (ac (hE1294 17 (by decide)) (ac (hE1294 48 (by decide)) an))) ?_
                    refine r_pick_t (.bool (decide (y55.Year ≤ (rd y29 (w64 (i50 - 1))).Year))) hb766 rfl rfl ?_ (wn_t rfl rfl (by decide) rfl hb500)
                    exact r_nil (n_lp ⟨_, rfl, undef, rfl, H1296⟩)
                  · intro η233 wd1302 Δ1303 hE1299 hR1300 H1301
                    have H1301 : Hp w0 ((Δ1303 ++ (Bx b225 54 [.int .i64 y55.Class, .int .i64 y55.Year, .int .i64 y55.Amount] :: Row K54 (.slice A26 o21.f_l.length c28) o21.f_l :: Bx b25 89 [.slice A26 o21.f_l.length c28] :: Row K54 (.slice A35 y29.length c37) y29 :: Γ))) wd1302 := H1301
                    refine sp_op [(53, .bool (y494 != y55.Amount)), (88, .bool (decide (y55.Year ≤ (rd y29 (w64 (i50 - 1))).Year)))] (ac (hE1299 14 (by decide)) (ac (hE1299 49 (by decide)) an)) ?_
                    refine r_pick_f (.bool (decide (y55.Year ≤ (rd y29 (w64 (i50 - 1))).Year))) hb500 rfl rfl ?_
                    exact r_nil (n_lp ⟨_, rfl, undef, rfl, H1301⟩)
                  · intro η233 wd1305 hV1306 H1304
                    have H1307 : Hp w0 (Bx b225 54 [.int .i64 y55.Class, .int .i64 y55.Year, .int .i64 y55.Amount] :: Row K54 (.slice A26 o21.f_l.length c28) o21.f_l :: Bx b25 89 [.slice A26 o21.f_l.length c28] :: Row K54 (.slice A35 y29.length c37) y29 :: Γ) wd1305 := H1304
                    refine n_frame ((1, .int .i64 class_) :: (2, .int .i64 year) :: (3, .int .i64 class2) :: (4, .int .i64 year2) :: (5, .int .i64 n_) :: (13, .pointer (some ⟨b25, 0, none⟩)) :: (14, .slice A35 y29.length c37) :: (15, .int .i64 y38) :: (16, .int .i64 (w64 (v45 + y55.Amount))) :: (28, .slice A35 y29.length c37) :: (29, .int .i64 (y29.length : Int)) :: (30, .int .i64 i50) :: (43, .pointer (some ⟨b25, 0, none⟩)) :: (44, .pointer (some ⟨b225, 0, none⟩)) :: (45, .int .i64 y55.Class) :: (46, .pointer (some ⟨b225, 1, none⟩)) :: (47, .int .i64 y55.Year) :: (48, .int .i64 y494) :: (49, .pointer (some ⟨b225, 2, none⟩)) :: (50, .int .i64 y55.Amount) :: (51, .bool (y494 != y55.Amount)) :: (54, .int .i64 i50) :: (55, .bool (decide (i50 > 0))) :: (56, .bool (decide (i50 > 0))) :: (57, .pointer (some ⟨b225, 0, none⟩)) :: (58, .int .i64 y55.Class) :: (59, .slice A35 y29.length c37) :: (60, .int .i64 i50) :: (61, .int .i64 (w64 (i50 - 1))) :: (62, .pointer (some ((oA A35).add (Int.toNat (w64 (i50 - 1)) * 3)))) :: (63, .pointer (some (((oA A35).add (Int.toNat (w64 (i50 - 1)) * 3)).add 0))) :: (64, .int .i64 ((rd y29 (w64 (i50 - 1))).Class)) :: (65, .bool (decide (y55.Class < (rd y29 (w64 (i50 - 1))).Class))) :: (66, .bool (decide (y55.Class < (rd y29 (w64 (i50 - 1))).Class))) :: (67, .pointer (some ⟨b225, 0, none⟩)) :: (68, .int .i64 y55.Class) :: (69, .slice A35 y29.length c37) :: (70, .int .i64 i50) :: (71, .int .i64 (w64 (i50 - 1))) :: (72, .pointer (some ((oA A35).add (Int.toNat (w64 (i50 - 1)) * 3)))) :: (73, .pointer (some (((oA A35).add (Int.toNat (w64 (i50 - 1)) * 3)).add 0))) :: (74, .int .i64 ((rd y29 (w64 (i50 - 1))).Class)) :: (75, .bool (y55.Class == (rd y29 (w64 (i50 - 1))).Class)) :: (76, .bool (y55.Class == (rd y29 (w64 (i50 - 1))).Class)) :: (77, .pointer (some ⟨b225, 1, none⟩)) :: (78, .int .i64 y55.Year) :: (79, .slice A35 y29.length c37) :: (80, .int .i64 i50) :: (81, .int .i64 (w64 (i50 - 1))) :: (82, .pointer (some ((oA A35).add (Int.toNat (w64 (i50 - 1)) * 3)))) :: (83, .pointer (some (((oA A35).add (Int.toNat (w64 (i50 - 1)) * 3)).add 1))) :: (84, .int .i64 ((rd y29 (w64 (i50 - 1))).Year)) :: (85, .bool (decide (y55.Year ≤ (rd y29 (w64 (i50 - 1))).Year))) :: (86, .bool (decide (y55.Year ≤ (rd y29 (w64 (i50 - 1))).Year))) :: (87, .bool (decide (y55.Year ≤ (rd y29 (w64 (i50 - 1))).Year))) :: (88, .bool (decide (y55.Year ≤ (rd y29 (w64 (i50 - 1))).Year))) :: (89, .bool (decide (y55.Year ≤ (rd y29 (w64 (i50 - 1))).Year))) :: []) (ac rfl (ac rfl (ac rfl (ac rfl (ac rfl (ac rfl (ac rfl (ac rfl (ac rfl (ac rfl (ac rfl (ac rfl (ac (hV1306 4 rfl) (ac (hV1306 5 rfl) (ac (hV1306 6 rfl) (ac (hV1306 7 rfl) (ac (hV1306 8 rfl) (ac (hV1306 9 rfl) (ac (hV1306 10 rfl) (ac (hV1306 11 rfl) (ac (hV1306 12 rfl) (ac (hV1306 15 rfl) (ac (hV1306 16 rfl) (ac (hV1306 17 rfl) (ac (hV1306 18 rfl) (ac (hV1306 19 rfl) (ac (hV1306 20 rfl) (ac (hV1306 21 rfl) (ac (hV1306 22 rfl) (ac (hV1306 23 rfl) (ac (hV1306 24 rfl) (ac (hV1306 25 rfl) (ac (hV1306 26 rfl) (ac (hV1306 27 rfl) (ac (hV1306 28 rfl) (ac (hV1306 29 rfl) (ac (hV1306 30 rfl) (ac (hV1306 31 rfl) (ac (hV1306 32 rfl) (ac (hV1306 33 rfl) (ac (hV1306 34 rfl) (ac (hV1306 35 rfl) (ac (hV1306 36 rfl) (ac (hV1306 37 rfl) (ac (hV1306 38 rfl) (ac (hV1306 39 rfl) (ac (hV1306 40 rfl) (ac (hV1306 41 rfl) (ac (hV1306 42 rfl) (ac (hV1306 43 rfl) (ac (hV1306 44 rfl) (ac (hV1306 45 rfl) (ac (hV1306 46 rfl) (ac (hV1306 47 rfl) (ac (hV1306 48 rfl) (ac (hV1306 49 rfl) (ac (hV1306 50 rfl) an))))))))))))))))))))))))))))))))))))))))))))))))))))))))) ?_
                    refine n_cut ⟨decide (y55.Year ≤ (rd y29 (w64 (i50 - 1))).Year), upk (ac rfl (ac rfl (ac rfl (ac rfl (ac rfl (ac rfl (ac rfl (ac rfl (ac rfl (ac rfl (ac rfl (ac rfl (ac rfl an))))))))))))), H1307.d.u2.u2.u2, hm⟩
                · refine Flow.run' ([] :: [0] :: [0, 1] :: [0, 1, 2] :: [0, 1, 2, 3] :: [0, 1, 2, 3] :: [0, 1, 2, 3, 5] :: [0, 1, 2, 3] :: [0, 1, 2, 3, 7] :: [0, 1, 2, 3, 4, 5, 6, 7, 8] :: [0, 1, 2, 3] :: [0, 1, 2, 3, 10] :: [0, 1, 2, 3, 4, 5, 6, 7, 8, 9, 10, 11] :: [0, 1, 2, 3, 4, 5, 6, 7, 8, 9, 10, 11, 12] :: [0, 1, 2, 3, 4, 5, 6, 7, 8, 9, 10, 11, 12, 13] :: [0, 1, 2, 3, 4, 5, 6, 7, 8, 9, 10, 11, 12, 13, 14] :: [0, 1, 2, 3, 4, 5, 6, 7, 8, 9, 10, 11, 12, 13, 14, 15] :: [0, 1, 2, 3, 4, 5, 6, 7, 8, 9, 10, 11, 12, 13, 14, 15, 16] :: [0, 1, 2, 3, 4, 5, 6, 7, 8, 9, 10, 11, 12, 13, 14, 15, 16, 17] :: [0, 1, 2, 3, 4, 5, 6, 7, 8, 9, 10, 11, 12, 13, 14, 15, 16, 17, 18] :: [0, 1, 2, 3, 4, 5, 6, 7, 8, 9, 10, 11, 12, 13, 14, 15, 16, 17] :: [0, 1, 2, 3, 4, 5, 6, 7, 8, 9, 10, 11, 12, 13, 14, 15, 16, 17] :: [0, 1, 2, 3, 4, 5, 6, 7, 8, 9, 10, 11, 12, 13, 14, 15, 16, 17, 21] :: [0, 1, 2, 3, 4, 5, 6, 7, 8, 9, 10, 11, 12, 13, 14, 15, 16, 17, 20, 21, 22] :: [0, 1, 2, 3, 4, 5, 6, 7, 8, 9, 10, 11, 12, 13, 14, 15, 16, 17, 20, 21, 22, 23] :: [0, 1, 2, 3, 4, 5, 6, 7, 8, 9, 10, 11, 12, 13, 14, 15, 16, 17, 20, 21, 22, 23, 24] :: [0, 1, 2, 3, 4, 5, 6, 7, 8, 9, 10, 11, 12, 13, 14, 15, 16, 17, 18, 19, 20, 21, 22, 23, 24, 25] :: [0, 1, 2, 3, 4, 5, 6, 7, 8, 9, 10, 11, 12, 13, 14, 15, 16, 17, 18, 19, 20, 21, 22, 23, 24, 25, 26] :: [0, 1, 2, 3, 4, 5, 6, 7, 8, 9, 10, 11, 12, 13, 14, 15, 16, 17, 18, 19, 20, 21, 22, 23, 24, 25, 26, 27] :: [0, 1, 2, 3, 4, 5, 6, 7, 8, 9, 10, 11, 12, 13, 14, 15, 16, 17, 18, 19, 20, 21, 22, 23, 24, 25, 26, 27, 28] :: [0, 1, 2, 3, 4, 5, 6, 7, 8, 9, 10, 11, 12, 13, 14, 15, 16, 17, 18, 19, 20, 21, 22, 23, 24, 25, 26, 27] :: [0, 1, 2, 3, 4, 5, 6, 7, 8, 9, 10, 11, 12, 13, 14, 15, 16, 17, 18, 19, 20, 21, 22, 23, 24, 25, 26, 27] :: [0, 1, 2, 3, 4, 5, 6, 7, 8, 9, 10, 11, 12, 13, 14, 15, 16, 17, 18, 19, 20, 21, 22, 23, 24, 25, 26, 27, 31] :: [0, 1, 2, 3, 4, 5, 6, 7, 8, 9, 10, 11, 12, 13, 14, 15, 16, 17, 18, 19, 20, 21, 22, 23, 24, 25, 26, 27, 30, 31, 32] :: [0, 1, 2, 3, 4, 5, 6, 7, 8, 9, 10, 11, 12, 13, 14, 15, 16, 17, 18, 19, 20, 21, 22, 23, 24, 25, 26, 27, 30, 31, 32, 33] :: [0, 1, 2, 3, 4, 5, 6, 7, 8, 9, 10, 11, 12, 13, 14, 15, 16, 17, 18, 19, 20, 21, 22, 23, 24, 25, 26, 27, 30, 31, 32, 33, 34] :: [0, 1, 2, 3, 4, 5, 6, 7, 8, 9, 10, 11, 12, 13, 14, 15, 16, 17, 18, 19, 20, 21, 22, 23, 24, 25, 26, 27, 28, 29, 30, 31, 32, 33, 34, 35] :: [0, 1, 2, 3, 4, 5, 6, 7, 8, 9, 10, 11, 12, 13, 14, 15, 16, 17, 18, 19, 20, 21, 22, 23, 24, 25, 26, 27, 28, 29, 30, 31, 32, 33, 34, 35, 36] :: [0, 1, 2, 3, 4, 5, 6, 7, 8, 9, 10, 11, 12, 13, 14, 15, 16, 17, 18, 19, 20, 21, 22, 23, 24, 25, 26, 27, 28, 29, 30, 31, 32, 33, 34, 35, 36, 37] :: [0, 1, 2, 3, 4, 5, 6, 7, 8, 9, 10, 11, 12, 13, 14, 15, 16, 17, 18, 19, 20, 21, 22, 23, 24, 25, 26, 27, 28, 29, 30, 31, 32, 33, 34, 35, 36, 37, 38] :: [0, 1, 2, 3, 4, 5, 6, 7, 8, 9, 10, 11, 12, 13, 14, 15, 16, 17, 18, 19, 20, 21, 22, 23, 24, 25, 26, 27, 28, 29, 30, 31, 32, 33, 34, 35, 36, 37] :: [0, 1, 2, 3, 4, 5, 6, 7, 8, 9, 10, 11, 12, 13, 14, 15, 16, 17, 18, 19, 20, 21, 22, 23, 24, 25, 26, 27, 28, 29, 30, 31, 32, 33, 34, 35, 36, 37] :: [0, 1, 2, 3, 4, 5, 6, 7, 8, 9, 10, 11, 12, 13, 14, 15, 16, 17, 18, 19, 20, 21, 22, 23, 24, 25, 26, 27, 28, 29, 30, 31, 32, 33, 34, 35, 36, 37, 41] :: [0, 1, 2, 3, 4, 5, 6, 7, 8, 9, 10, 11, 12, 13, 14, 15, 16, 17, 18, 19, 20, 21, 22, 23, 24, 25, 26, 27, 28, 29, 30, 31, 32, 33, 34, 35, 36, 37, 40, 41, 42] :: [0, 1, 2, 3, 4, 5, 6, 7, 8, 9, 10, 11, 12, 13, 14, 15, 16, 17, 18, 19, 20, 21, 22, 23, 24, 25, 26, 27, 28, 29, 30, 31, 32, 33, 34, 35, 36, 37, 40, 41, 42, 43] :: [0, 1, 2, 3, 4, 5, 6, 7, 8, 9, 10, 11, 12, 13, 14, 15, 16, 17, 18, 19, 20, 21, 22, 23, 24, 25, 26, 27, 28, 29, 30, 31, 32, 33, 34, 35, 36, 37, 40, 41, 42, 43, 44] :: [0, 1, 2, 3, 4, 5, 6, 7, 8, 9, 10, 11, 12, 13, 14, 15, 16, 17, 18, 19, 20, 21, 22, 23, 24, 25, 26, 27, 28, 29, 30, 31, 32, 33, 34, 35, 36, 37, 38, 39, 40, 41, 42, 43, 44, 45] :: [0, 1, 2, 3, 4, 5, 6, 7, 8, 9, 10, 11, 12, 13, 14, 15, 16, 17, 18, 19, 20, 21, 22, 23, 24, 25, 26, 27, 28, 29, 30, 31, 32, 33, 34, 35, 36, 37, 38, 39, 40, 41, 42, 43, 44, 45, 46] :: [0, 1, 2, 3, 4, 5, 6, 7, 8, 9, 10, 11, 12, 13, 14, 15, 16, 17, 18, 19, 20, 21, 22, 23, 24, 25, 26, 27, 28, 29, 30, 31, 32, 33, 34, 35, 36, 37, 38, 39, 40, 41, 42, 43, 44, 45, 46, 47] :: [0, 1, 2, 3, 4, 5, 6, 7, 8, 9, 10, 11, 12, 13, 14, 15, 16, 17, 18, 19, 20, 21, 22, 23, 24, 25, 26, 27, 28, 29, 30, 31, 32, 33, 34, 35, 36, 37, 38, 39, 40, 41, 42, 43, 44, 45, 46, 47, 48] :: [0, 1, 2, 3, 4, 5, 6, 7, 8, 9, 10, 11, 12, 13, 14, 15, 16, 17, 18, 19, 20, 21, 22, 23, 24, 25, 26, 27, 28, 29, 30, 31, 32, 33, 34, 35, 36, 37, 38, 39, 40, 41, 42, 43, 44, 45, 46, 47, 48, 49] :: []) ((39, 0) :: (40, 1) :: (41, 2) :: (42, 3) :: (43, 4) :: (44, 5) :: (45, 6) :: (46, 7) :: (47, 8) :: (48, 9) :: (49, 10) :: (50, 11) :: (51, 12) :: (52, 13) :: (53, 14) :: (54, 15) :: (55, 16) :: (56, 17) :: (57, 18) :: (58, 19) :: (59, 20) :: (60, 21) :: (61, 22) :: (62, 23) :: (63, 24) :: (64, 25) :: (65, 26) :: (66, 27) :: (67, 28) :: (68, 29) :: (69, 30) :: (70, 31) :: (71, 32) :: (72, 33) :: (73, 34) :: (74, 35) :: (75, 36) :: (76, 37) :: (77, 38) :: (78, 39) :: (79, 40) :: (80, 41) :: (81, 42) :: (82, 43) :: (83, 44) :: (84, 45) :: (85, 46) :: (86, 47) :: (87, 48) :: (88, 49) :: (89, 50) :: []) ((fun η233 v => v.1 = .pointer (some ⟨b225, 2, none⟩)) :: (fun η233 v => v.1 = .int .i64 y55.Amount) :: (fun η233 v => v.1 = .bool (y55.Amount == 0)) :: (fun η233 v => v.1 = .bool (y55.Amount == 0)) :: (fun η233 v => v.1 = .pointer (some ⟨b25, 0, none⟩)) :: (fun η233 v => v.1 = .pointer (some ⟨b225, 0, none⟩)) :: (fun η233 v => v.1 = .int .i64 y55.Class) :: (fun η233 v => v.1 = .pointer (some ⟨b225, 1, none⟩)) :: (fun η233 v => v.1 = .int .i64 y55.Year) :: (fun η233 v => v.1 = .int .i64 y494) :: (fun η233 v => v.1 = .pointer (some ⟨b225, 2, none⟩)) :: (fun η233 v => v.1 = .int .i64 y55.Amount) :: (fun η233 v => v.1 = .bool (y494 != y55.Amount)) :: (fun η233 v => v.1 = .bool (y494 != y55.Amount)) :: (fun η233 v => v.1 = .bool (y494 != y55.Amount)) :: (fun η233 v => v.1 = .int .i64 i50) :: (fun η233 v => v.1 = .bool (decide (i50 > 0))) :: (fun η233 v => v.1 = .bool (decide (i50 > 0))) :: (fun η233 v => v.1 = .pointer (some ⟨b225, 0, none⟩)) :: (fun η233 v => v.1 = .int .i64 y55.Class) :: (fun η233 v => v.1 = .slice A35 y29.length c37) :: (fun η233 v => v.1 = .int .i64 i50) :: (fun η233 v => v.1 = .int .i64 (w64 (i50 - 1))) :: (fun η233 v => v.1 = .pointer (some ((oA A35).add (Int.toNat (w64 (i50 - 1)) * 3)))) :: (fun η233 v => v.1 = .pointer (some (((oA A35).add (Int.toNat (w64 (i50 - 1)) * 3)).add 0))) :: (fun η233 v => v.1 = .int .i64 ((rd y29 (w64 (i50 - 1))).Class)) :: (fun η233 v => v.1 = .bool (decide (y55.Class < (rd y29 (w64 (i50 - 1))).Class))) :: (fun η233 v => v.1 = .bool (decide (y55.Class < (rd y29 (w64 (i50 - 1))).Class))) :: (fun η233 v => v.1 = .pointer (some ⟨b225, 0, none⟩)) :: (fun η233 v => v.1 = .int .i64 y55.Class) :: (fun η233 v => v.1 = .slice A35 y29.length c37) :: (fun η233 v => v.1 = .int .i64 i50) :: (fun η233 v => v.1 = .int .i64 (w64 (i50 - 1))) :: (fun η233 v => v.1 = .pointer (some ((oA A35).add (Int.toNat (w64 (i50 - 1)) * 3)))) :: (fun η233 v => v.1 = .pointer (some (((oA A35).add (Int.toNat (w64 (i50 - 1)) * 3)).add 0))) :: (fun η233 v => v.1 = .int .i64 ((rd y29 (w64 (i50 - 1))).Class)) :: (fun η233 v => v.1 = .bool (y55.Class == (rd y29 (w64 (i50 - 1))).Class)) :: (fun η233 v => v.1 = .bool (y55.Class == (rd y29 (w64 (i50 - 1))).Class)) :: (fun η233 v => v.1 = undef) :: (fun η233 v => v.1 = undef) :: (fun η233 v => v.1 = undef) :: (fun η233 v => v.1 = undef) :: (fun η233 v => v.1 = undef) :: (fun η233 v => v.1 = undef) :: (fun η233 v => v.1 = undef) :: (fun η233 v => v.1 = undef) :: (fun η233 v => v.1 = undef) :: (fun η233 v => v.1 = .bool false) :: (fun η233 v => v.1 = .bool false) :: (fun η233 v => v.1 = .bool false) :: (fun η233 v => v.1 = .bool false) :: []) [] rfl (by kernel_rfl) (by kernel_rfl) H228 ⟨?_, ?_, ?_, ?_, ?_, ?_, ?_, ?_, ?_, ?_, ?_, ?_, ?_, ?_, ?_, ?_, ?_, ?_, ?_, ?_, ?_, ?_, ?_, ?_, ?_, ?_, ?_, ?_, ?_, ?_, ?_, ?_, ?_, ?_, ?_, ?_, ?_, ?_, ?_, ?_, ?_, ?_, ?_, ?_, ?_, ?_, ?_, ?_, ?_, ?_, ?_, trivial⟩ ?_
                  · intro η233 wd1311 Δ1312 hE1308 hR1309 H1310
                    have H1310 : Hp w0 ((Δ1312 ++ (Bx b225 54 [.int .i64 y55.Class, .int .i64 y55.Year, .int .i64 y55.Amount] :: Row K54 (.slice A26 o21.f_l.length c28) o21.f_l :: Bx b25 89 [.slice A26 o21.f_l.length c28] :: Row K54 (.slice A35 y29.length c37) y29 :: Γ))) wd1311 := H1310
                    refine sp_op [(18, .pointer (some ⟨b225, 0, none⟩))] (ac rfl an) ?_
                    refine r_fa FA54_2 ⟨b225, 2, none⟩ rfl rfl ?_
                    exact r_nil (n_lp ⟨_, rfl, undef, rfl, H1310⟩)
                  · intro η233 wd1316 Δ1317 hE1313 hR1314 H1315
                    have H1315 : Hp w0 ((Δ1317 ++ (Bx b225 54 [.int .i64 y55.Class, .int .i64 y55.Year, .int .i64 y55.Amount] :: Row K54 (.slice A26 o21.f_l.length c28) o21.f_l :: Bx b25 89 [.slice A26 o21.f_l.length c28] :: Row K54 (.slice A35 y29.length c37) y29 :: Γ))) wd1316 := H1315
                    refine sp_op [(39, .pointer (some ⟨b225, 2, none⟩))] (ac (hE1313 0 (by decide)) an) ?_
                    refine r_ld1 (.int .i64 y55.Amount) LD3 rfl (((H1315).tl.g0).cell _ rfl) ?_
                    exact r_nil (n_lp ⟨_, rfl, undef, rfl, H1315⟩)
                  · intro η233 wd1321 Δ1322 hE1318 hR1319 H1320
                    have H1320 : Hp w0 ((Δ1322 ++ (Bx b225 54 [.int .i64 y55.Class, .int .i64 y55.Year, .int .i64 y55.Amount] :: Row K54 (.slice A26 o21.f_l.length c28) o21.f_l :: Bx b25 89 [.slice A26 o21.f_l.length c28] :: Row K54 (.slice A35 y29.length c37) y29 :: Γ))) wd1321 := H1320
                    refine sp_op [(40, .int .i64 y55.Amount)] (ac (hE1318 1 (by decide)) an) ?_
                    refine r_pure (.bool (y55.Amount == 0)) rfl ?_
                    exact r_nil (n_lp ⟨_, rfl, undef, rfl, H1320⟩)
                  · intro η233 wd1326 Δ1327 hE1323 hR1324 H1325
                    have H1325 : Hp w0 ((Δ1327 ++ (Bx b225 54 [.int .i64 y55.Class, .int .i64 y55.Year, .int .i64 y55.Amount] :: Row K54 (.slice A26 o21.f_l.length c28) o21.f_l :: Bx b25 89 [.slice A26 o21.f_l.length c28] :: Row K54 (.slice A35 y29.length c37) y29 :: Γ))) wd1326 := H1325
                    refine sp_op [(41, .bool (y55.Amount == 0))] (ac (hE1323 2 (by decide)) an) ?_
                    refine r_pure (.bool (y55.Amount == 0)) rfl ?_
                    exact r_nil (n_lp ⟨_, rfl, undef, rfl, H1325⟩)
                  · intro η233 wd1331 Δ1332 hE1328 hR1329 H1330
                    have H1330 : Hp w0 ((Δ1332 ++ (Bx b225 54 [.int .i64 y55.Class, .int .i64 y55.Year, .int .i64 y55.Amount] :: Row K54 (.slice A26 o21.f_l.length c28) o21.f_l :: Bx b25 89 [.slice A26 o21.f_l.length c28] :: Row K54 (.slice A35 y29.length c37) y29 :: Γ))) wd1331 := H1330
                    refine sp_op [(13, .pointer (some ⟨b25, 0, none⟩)), (42, .bool (y55.Amount == 0))] (ac rfl (ac (hE1328 3 (by decide)) an)) ?_
                    refine r_pure (.pointer (some ⟨b25, 0, none⟩)) rfl ?_ (wn_t rfl rfl (by decide) rfl hb234)
                    exact r_nil (n_lp ⟨_, rfl, undef, rfl, H1330⟩)
                  · intro η233 wd1336 Δ1337 hE1333 hR1334 H1335
                    have H1335 : Hp w0 ((Δ1337 ++ (Bx b225 54 [.int .i64 y55.Class, .int .i64 y55.Year, .int .i64 y55.Amount] :: Row K54 (.slice A26 o21.f_l.length c28) o21.f_l :: Bx b25 89 [.slice A26 o21.f_l.length c28] :: Row K54 (.slice A35 y29.length c37) y29 :: Γ))) wd1336 := H1335
                    refine sp_op [(18, .pointer (some ⟨b225, 0, none⟩)), (42, .bool (y55.Amount == 0))] (ac rfl (ac (hE1333 3 (by decide)) an)) ?_
                    refine r_fa FA54_0 ⟨b225, 0, none⟩ rfl rfl ?_ (wn_t rfl rfl (by decide) rfl hb234)
                    exact r_nil (n_lp ⟨_, rfl, undef, rfl, H1335⟩)
                  · intro η233 wd1341 Δ1342 hE1338 hR1339 H1340
                    have H1340 : Hp w0 ((Δ1342 ++ (Bx b225 54 [.int .i64 y55.Class, .int .i64 y55.Year, .int .i64 y55.Amount] :: Row K54 (.slice A26 o21.f_l.length c28) o21.f_l :: Bx b25 89 [.slice A26 o21.f_l.length c28] :: Row K54 (.slice A35 y29.length c37) y29 :: Γ))) wd1341 := H1340
                    refine sp_op [(42, .bool (y55.Amount == 0)), (44, .pointer (some ⟨b225, 0, none⟩))] (ac (hE1338 3 (by decide)) (ac (hE1338 5 (by decide)) an)) ?_
                    refine r_ld1 (.int .i64 y55.Class) LD3 rfl (((H1340).tl.g0).cell _ rfl) ?_ (wn_t rfl rfl (by decide) rfl hb234)
                    exact r_nil (n_lp ⟨_, rfl, undef, rfl, H1340⟩)
                  · intro η233 wd1346 Δ1347 hE1343 hR1344 H1345
                    have H1345 : Hp w0 ((Δ1347 ++ (Bx b225 54 [.int .i64 y55.Class, .int .i64 y55.Year, .int .i64 y55.Amount] :: Row K54 (.slice A26 o21.f_l.length c28) o21.f_l :: Bx b25 89 [.slice A26 o21.f_l.length c28] :: Row K54 (.slice A35 y29.length c37) y29 :: Γ))) wd1346 := H1345
                    refine sp_op [(18, .pointer (some ⟨b225, 0, none⟩)), (42, .bool (y55.Amount == 0))] (ac rfl (ac (hE1343 3 (by decide)) an)) ?_
                    refine r_fa FA54_1 ⟨b225, 1, none⟩ rfl rfl ?_ (wn_t rfl rfl (by decide) rfl hb234)
                    exact r_nil (n_lp ⟨_, rfl, undef, rfl, H1345⟩)
                  · intro η233 wd1351 Δ1352 hE1348 hR1349 H1350
                    have H1350 : Hp w0 ((Δ1352 ++ (Bx b225 54 [.int .i64 y55.Class, .int .i64 y55.Year, .int .i64 y55.Amount] :: Row K54 (.slice A26 o21.f_l.length c28) o21.f_l :: Bx b25 89 [.slice A26 o21.f_l.length c28] :: Row K54 (.slice A35 y29.length c37) y29 :: Γ))) wd1351 := H1350
                    refine sp_op [(42, .bool (y55.Amount == 0)), (46, .pointer (some ⟨b225, 1, none⟩))] (ac (hE1348 3 (by decide)) (ac (hE1348 7 (by decide)) an)) ?_
                    refine r_ld1 (.int .i64 y55.Year) LD3 rfl (((H1350).tl.g0).cell _ rfl) ?_ (wn_t rfl rfl (by decide) rfl hb234)
                    exact r_nil (n_lp ⟨_, rfl, undef, rfl, H1350⟩)
                  · intro η233 wd1356 Δ1357 hE1353 hR1354 H1355
                    have H1355 : Hp w0 ((Δ1357 ++ (Bx b225 54 [.int .i64 y55.Class, .int .i64 y55.Year, .int .i64 y55.Amount] :: Row K54 (.slice A26 o21.f_l.length c28) o21.f_l :: Bx b25 89 [.slice A26 o21.f_l.length c28] :: Row K54 (.slice A35 y29.length c37) y29 :: Γ))) wd1356 := H1355
                    refine sp_op [(42, .bool (y55.Amount == 0)), (43, .pointer (some ⟨b25, 0, none⟩)), (45, .int .i64 y55.Class), (47, .int .i64 y55.Year)] (ac (hE1353 3 (by decide)) (ac (hE1353 4 (by decide)) (ac (hE1353 6 (by decide)) (ac (hE1353 8 (by decide)) an)))) ?_
                    refine r_callf Try.call30 (bucket_Register_Get_ok b25 (⟨o21.f_l⟩ : bucket_Register) A26 o21.f_l.length c28 rfl ((((H1355)).tl.g1).cap) (fun _ H => ((H).tl.g1.rd)) (fun _ H => ((H).tl.g2)) y55.Class y55.Year y494 H1355 hy495) ?_ (wn_t rfl rfl (by decide) rfl hb234)
                    rintro e1361 wd1360 ⟨rfl, H1363⟩
                    refine ⟨_, rfl, ?_⟩
                    exact r_nil (n_lp ⟨_, rfl, undef, rfl, H1363⟩)
                  · intro η233 wd1367 Δ1368 hE1364 hR1365 H1366
                    have H1366 : Hp w0 ((Δ1368 ++ (Bx b225 54 [.int .i64 y55.Class, .int .i64 y55.Year, .int .i64 y55.Amount] :: Row K54 (.slice A26 o21.f_l.length c28) o21.f_l :: Bx b25 89 [.slice A26 o21.f_l.length c28] :: Row K54 (.slice A35 y29.length c37) y29 :: Γ))) wd1367 := H1366
                    refine sp_op [(18, .pointer (some ⟨b225, 0, none⟩)), (42, .bool (y55.Amount == 0))] (ac rfl (ac (hE1364 3 (by decide)) an)) ?_
                    refine r_fa FA54_2 ⟨b225, 2, none⟩ rfl rfl ?_ (wn_t rfl rfl (by decide) rfl hb234)
                    exact r_nil (n_lp ⟨_, rfl, undef, rfl, H1366⟩)
                  · intro η233 wd1372 Δ1373 hE1369 hR1370 H1371
                    have H1371 : Hp w0 ((Δ1373 ++ (Bx b225 54 [.int .i64 y55.Class, .int .i64 y55.Year, .int .i64 y55.Amount] :: Row K54 (.slice A26 o21.f_l.length c28) o21.f_l :: Bx b25 89 [.slice A26 o21.f_l.length c28] :: Row K54 (.slice A35 y29.length c37) y29 :: Γ))) wd1372 := H1371
                    refine sp_op [(42, .bool (y55.Amount == 0)), (49, .pointer (some ⟨b225, 2, none⟩))] (ac (hE1369 3 (by decide)) (ac (hE1369 10 (by decide)) an)) ?_
                    refine r_ld1 (.int .i64 y55.Amount) LD3 rfl (((H1371).tl.g0).cell _ rfl) ?_ (wn_t rfl rfl (by decide) rfl hb234)
                    exact r_nil (n_lp ⟨_, rfl, undef, rfl, H1371⟩)
                  · intro η233 wd1377 Δ1378 hE1374 hR1375 H1376
                    have H1376 : Hp w0 ((Δ1378 ++ (Bx b225 54 [.int .i64 y55.Class, .int .i64 y55.Year, .int .i64 y55.Amount] :: Row K54 (.slice A26 o21.f_l.length c28) o21.f_l :: Bx b25 89 [.slice A26 o21.f_l.length c28] :: Row K54 (.slice A35 y29.length c37) y29 :: Γ))) wd1377 := H1376
                    refine sp_op [(42, .bool (y55.Amount == 0)), (48, .int .i64 y494), (50, .int .i64 y55.Amount)] (ac (hE1374 3 (by decide)) (ac (hE1374 9 (by decide)) (ac (hE1374 11 (by decide)) an))) ?_
                    refine r_pure (.bool (y494 != y55.Amount)) rfl ?_ (wn_t rfl rfl (by decide) rfl hb234)
                    exact r_nil (n_lp ⟨_, rfl, undef, rfl, H1376⟩)
                  · intro η233 wd1382 Δ1383 hE1379 hR1380 H1381
                    have H1381 : Hp w0 ((Δ1383 ++ (Bx b225 54 [.int .i64 y55.Class, .int .i64 y55.Year, .int .i64 y55.Amount] :: Row K54 (.slice A26 o21.f_l.length c28) o21.f_l :: Bx b25 89 [.slice A26 o21.f_l.length c28] :: Row K54 (.slice A35 y29.length c37) y29 :: Γ))) wd1382 := H1381
                    refine sp_op [(42, .bool (y55.Amount == 0)), (51, .bool (y494 != y55.Amount))] (ac (hE1379 3 (by decide)) (ac (hE1379 12 (by decide)) an)) ?_
                    refine r_pick_f (.bool (y494 != y55.Amount)) hb234 rfl rfl ?_
                    exact r_nil (n_lp ⟨_, rfl, undef, rfl, H1381⟩)
                  · intro η233 wd1387 Δ1388 hE1384 hR1385 H1386
                    have H1386 : Hp w0 ((Δ1388 ++ (Bx b225 54 [.int .i64 y55.Class, .int .i64 y55.Year, .int .i64 y55.Amount] :: Row K54 (.slice A26 o21.f_l.length c28) o21.f_l :: Bx b25 89 [.slice A26 o21.f_l.length c28] :: Row K54 (.slice A35 y29.length c37) y29 :: Γ))) wd1387 := H1386
                    refine sp_op [(52, .bool (y494 != y55.Amount))] (ac (hE1384 13 (by decide)) an) ?_
                    refine r_pure (.bool (y494 != y55.Amount)) rfl ?_
                    exact r_nil (n_lp ⟨_, rfl, undef, rfl, H1386⟩)
                  · intro η233 wd1392 Δ1393 hE1389 hR1390 H1391
                    have H1391 : Hp w0 ((Δ1393 ++ (Bx b225 54 [.int .i64 y55.Class, .int .i64 y55.Year, .int .i64 y55.Amount] :: Row K54 (.slice A26 o21.f_l.length c28) o21.f_l :: Bx b25 89 [.slice A26 o21.f_l.length c28] :: Row K54 (.slice A35 y29.length c37) y29 :: Γ))) wd1392 := H1391
                    refine sp_op [(17, .int .i64 i50), (53, .bool (y494 != y55.Amount))] (ac rfl (ac (hE1389 14 (by decide)) an)) ?_
                    refine r_pure (.int .i64 i50) rfl ?_ (wn_t rfl rfl (by decide) rfl hb500)
                    exact r_nil (n_lp ⟨_, rfl, undef, rfl, H1391⟩)
                  · intro η233 wd1397 Δ1398 hE1394 hR1395 H1396
                    have H1396 : Hp w0 ((Δ1398 ++ (Bx b225 54 [.int .i64 y55.Class, .int .i64 y55.Year, .int .i64 y55.Amount] :: Row K54 (.slice A26 o21.f_l.length c28) o21.f_l :: Bx b25 89 [.slice A26 o21.f_l.length c28] :: Row K54 (.slice A35 y29.length c37) y29 :: Γ))) wd1397 := H1396
                    refine sp_op [(53, .bool (y494 != y55.Amount)), (54, .int .i64 i50)] (ac (hE1394 14 (by decide)) (ac (hE1394 15 (by decide)) an)) ?_
                    refine r_pure (.bool (decide (i50 > 0))) rfl ?_ (wn_t rfl rfl (by decide) rfl hb500)
                    exact r_nil (n_lp ⟨_, rfl, undef, rfl, H1396⟩)
                  · intro η233 wd1402 Δ1403 hE1399 hR1400 H1401
                    have H1401 : Hp w0 ((Δ1403 ++ (Bx b225 54 [.int .i64 y55.Class, .int .i64 y55.Year, .int .i64 y55.Amount] :: Row K54 (.slice A26 o21.f_l.length c28) o21.f_l :: Bx b25 89 [.slice A26 o21.f_l.length c28] :: Row K54 (.slice A35 y29.length c37) y29 :: Γ))) wd1402 := H1401
                    refine sp_op [(53, .bool (y494 != y55.Amount)), (55, .bool (decide (i50 > 0)))] (ac (hE1399 14 (by decide)) (ac (hE1399 16 (by decide)) an)) ?_
                    refine r_pure (.bool (decide (i50 > 0))) rfl ?_ (wn_t rfl rfl (by decide) rfl hb500)
                    exact r_nil (n_lp ⟨_, rfl, undef, rfl, H1401⟩)
                  · intro η233 wd1407 Δ1408 hE1404 hR1405 H1406
                    have H1406 : Hp w0 ((Δ1408 ++ (Bx b225 54 [.int .i64 y55.Class, .int .i64 y55.Year, .int .i64 y55.Amount] :: Row K54 (.slice A26 o21.f_l.length c28) o21.f_l :: Bx b25 89 [.slice A26 o21.f_l.length c28] :: Row K54 (.slice A35 y29.length c37) y29 :: Γ))) wd1407 := H1406
                    refine sp_op [(18, .pointer (some ⟨b225, 0, none⟩)), (56, .bool (decide (i50 > 0)))] (ac rfl (ac (hE1404 17 (by decide)) an)) ?_
                    refine r_fa FA54_0 ⟨b225, 0, none⟩ rfl rfl ?_ (wn_t rfl rfl (by decide) rfl hb766)
                    exact r_nil (n_lp ⟨_, rfl, undef, rfl, H1406⟩)
                  · intro η233 wd1412 Δ1413 hE1409 hR1410 H1411
                    have H1411 : Hp w0 ((Δ1413 ++ (Bx b225 54 [.int .i64 y55.Class, .int .i64 y55.Year, .int .i64 y55.Amount] :: Row K54 (.slice A26 o21.f_l.length c28) o21.f_l :: Bx b25 89 [.slice A26 o21.f_l.length c28] :: Row K54 (.slice A35 y29.length c37) y29 :: Γ))) wd1412 := H1411
                    refine sp_op [(56, .bool (decide (i50 > 0))), (57, .pointer (some ⟨b225, 0, none⟩))] (ac (hE1409 17 (by decide)) (ac (hE1409 18 (by decide)) an)) ?_
                    refine r_ld1 (.int .i64 y55.Class) LD3 rfl (((H1411).tl.g0).cell _ rfl) ?_ (wn_t rfl rfl (by decide) rfl hb766)
                    exact r_nil (n_lp ⟨_, rfl, undef, rfl, H1411⟩)
                  · intro η233 wd1417 Δ1418 hE1414 hR1415 H1416
                    have H1416 : Hp w0 ((Δ1418 ++ (Bx b225 54 [.int .i64 y55.Class, .int .i64 y55.Year, .int .i64 y55.Amount] :: Row K54 (.slice A26 o21.f_l.length c28) o21.f_l :: Bx b25 89 [.slice A26 o21.f_l.length c28] :: Row K54 (.slice A35 y29.length c37) y29 :: Γ))) wd1417 := H1416
                    refine sp_op [(14, .slice A35 y29.length c37), (56, .bool (decide (i50 > 0)))] (ac rfl (ac (hE1414 17 (by decide)) an)) ?_
                    refine r_pure (.slice A35 y29.length c37) rfl ?_ (wn_t rfl rfl (by decide) rfl hb766)
                    exact r_nil (n_lp ⟨_, rfl, undef, rfl, H1416⟩)
                  · intro η233 wd1422 Δ1423 hE1419 hR1420 H1421
                    have H1421 : Hp w0 ((Δ1423 ++ (Bx b225 54 [.int .i64 y55.Class, .int .i64 y55.Year, .int .i64 y55.Amount] :: Row K54 (.slice A26 o21.f_l.length c28) o21.f_l :: Bx b25 89 [.slice A26 o21.f_l.length c28] :: Row K54 (.slice A35 y29.length c37) y29 :: Γ))) wd1422 := H1421
                    refine sp_op [(17, .int .i64 i50), (56, .bool (decide (i50 > 0)))] (ac rfl (ac (hE1419 17 (by decide)) an)) ?_
                    refine r_pure (.int .i64 i50) rfl ?_ (wn_t rfl rfl (by decide) rfl hb766)
                    exact r_nil (n_lp ⟨_, rfl, undef, rfl, H1421⟩)
                  · intro η233 wd1427 Δ1428 hE1424 hR1425 H1426
                    have H1426 : Hp w0 ((Δ1428 ++ (Bx b225 54 [.int .i64 y55.Class, .int .i64 y55.Year, .int .i64 y55.Amount] :: Row K54 (.slice A26 o21.f_l.length c28) o21.f_l :: Bx b25 89 [.slice A26 o21.f_l.length c28] :: Row K54 (.slice A35 y29.length c37) y29 :: Γ))) wd1427 := H1426
                    refine sp_op [(56, .bool (decide (i50 > 0))), (60, .int .i64 i50)] (ac (hE1424 17 (by decide)) (ac (hE1424 21 (by decide)) an)) ?_
                    refine r_pure (.int .i64 (w64 (i50 - 1))) rfl ?_ (wn_t rfl rfl (by decide) rfl hb766)
                    exact r_nil (n_lp ⟨_, rfl, undef, rfl, H1426⟩)
                  · intro η233 wd1432 Δ1433 hE1429 hR1430 H1431
                    have H1431 : Hp w0 ((Δ1433 ++ (Bx b225 54 [.int .i64 y55.Class, .int .i64 y55.Year, .int .i64 y55.Amount] :: Row K54 (.slice A26 o21.f_l.length c28) o21.f_l :: Bx b25 89 [.slice A26 o21.f_l.length c28] :: Row K54 (.slice A35 y29.length c37) y29 :: Γ))) wd1432 := H1431
                    refine sp_op [(56, .bool (decide (i50 > 0))), (59, .slice A35 y29.length c37), (61, .int .i64 (w64 (i50 - 1)))] (ac (hE1429 17 (by decide)) (ac (hE1429 20 (by decide)) (ac (hE1429 22 (by decide)) an))) ?_
                    refine r_ix IX51 rfl rfl hA224 h0767 h1768 ?_ (wn_t rfl rfl (by decide) rfl hb766)
                    exact r_nil (n_lp ⟨_, rfl, undef, rfl, H1431⟩)
                  · intro η233 wd1440 Δ1441 hE1437 hR1438 H1439
                    have H1439 : Hp w0 ((Δ1441 ++ (Bx b225 54 [.int .i64 y55.Class, .int .i64 y55.Year, .int .i64 y55.Amount] :: Row K54 (.slice A26 o21.f_l.length c28) o21.f_l :: Bx b25 89 [.slice A26 o21.f_l.length c28] :: Row K54 (.slice A35 y29.length c37) y29 :: Γ))) wd1440 := H1439
                    refine sp_op [(56, .bool (decide (i50 > 0))), (62, .pointer (some ((oA A35).add (Int.toNat (w64 (i50 - 1)) * 3))))] (ac (hE1437 17 (by decide)) (ac (hE1437 23 (by decide)) an)) ?_
                    refine r_fa FA54_0 (((oA A35).add (Int.toNat (w64 (i50 - 1)) * 3)).add 0) rfl rfl ?_ (wn_t rfl rfl (by decide) rfl hb766)
                    exact r_nil (n_lp ⟨_, rfl, undef, rfl, H1439⟩)
                  · intro η233 wd1445 Δ1446 hE1442 hR1443 H1444
                    have H1444 : Hp w0 ((Δ1446 ++ (Bx b225 54 [.int .i64 y55.Class, .int .i64 y55.Year, .int .i64 y55.Amount] :: Row K54 (.slice A26 o21.f_l.length c28) o21.f_l :: Bx b25 89 [.slice A26 o21.f_l.length c28] :: Row K54 (.slice A35 y29.length c37) y29 :: Γ))) wd1445 := H1444
                    refine sp_op [(56, .bool (decide (i50 > 0))), (63, .pointer (some (((oA A35).add (Int.toNat (w64 (i50 - 1)) * 3)).add 0)))] (ac (hE1442 17 (by decide)) (ac (hE1442 24 (by decide)) an)) ?_
                    refine r_ld1 (.int .i64 ((rd y29 (w64 (i50 - 1))).Class)) LD3 rfl (((H1444).tl.g3.rd).cA hA224 hj769 0 _ rfl) ?_ (wn_t rfl rfl (by decide) rfl hb766)
                    exact r_nil (n_lp ⟨_, rfl, undef, rfl, H1444⟩)
                  · intro η233 wd1450 Δ1451 hE1447 hR1448 H1449
                    have H1449 : Hp w0 ((Δ1451 ++ (Bx b225 54 [.int .i64 y55.Class, .int .i64 y55.Year, .int .i64 y55.Amount] :: Row K54 (.slice A26 o21.f_l.length c28) o21.f_l :: Bx b25 89 [.slice A26 o21.f_l.length c28] :: Row K54 (.slice A35 y29.length c37) y29 :: Γ))) wd1450 := H1449
                    refine sp_op [(56, .bool (decide (i50 > 0))), (58, .int .i64 y55.Class), (64, .int .i64 ((rd y29 (w64 (i50 - 1))).Class))] (ac (hE1447 17 (by decide)) (ac (hE1447 19 (by decide)) (ac (hE1447 25 (by decide)) an))) ?_
                    refine r_pure (.bool (decide (y55.Class < (rd y29 (w64 (i50 - 1))).Class))) rfl ?_ (wn_t rfl rfl (by decide) rfl hb766)
                    exact r_nil (n_lp ⟨_, rfl, undef, rfl, H1449⟩)
                  · intro η233 wd1455 Δ1456 hE1452 hR1453 H1454
                    have H1454 : Hp w0 ((Δ1456 ++ (Bx b225 54 [.int .i64 y55.Class, .int .i64 y55.Year, .int .i64 y55.Amount] :: Row K54 (.slice A26 o21.f_l.length c28) o21.f_l :: Bx b25 89 [.slice A26 o21.f_l.length c28] :: Row K54 (.slice A35 y29.length c37) y29 :: Γ))) wd1455 := H1454
                    refine sp_op [(56, .bool (decide (i50 > 0))), (65, .bool (decide (y55.Class < (rd y29 (w64 (i50 - 1))).Class)))] (ac (hE1452 17 (by decide)) (ac (hE1452 26 (by decide)) an)) ?_
                    refine r_pure (.bool (decide (y55.Class < (rd y29 (w64 (i50 - 1))).Class))) rfl ?_ (wn_t rfl rfl (by decide) rfl hb766)
                    exact r_nil (n_lp ⟨_, rfl, undef, rfl, H1454⟩)
                  · intro η233 wd1460 Δ1461 hE1457 hR1458 H1459
                    have H1459 : Hp w0 ((Δ1461 ++ (Bx b225 54 [.int .i64 y55.Class, .int .i64 y55.Year, .int .i64 y55.Amount] :: Row K54 (.slice A26 o21.f_l.length c28) o21.f_l :: Bx b25 89 [.slice A26 o21.f_l.length c28] :: Row K54 (.slice A35 y29.length c37) y29 :: Γ))) wd1460 := H1459
                    refine sp_op [(18, .pointer (some ⟨b225, 0, none⟩)), (66, .bool (decide (y55.Class < (rd y29 (w64 (i50 - 1))).Class)))] (ac rfl (ac (hE1457 27 (by decide)) an)) ?_
                    refine r_fa FA54_0 ⟨b225, 0, none⟩ rfl rfl ?_ (wn_t rfl rfl (by decide) rfl hb770)
                    exact r_nil (n_lp ⟨_, rfl, undef, rfl, H1459⟩)
                  · intro η233 wd1465 Δ1466 hE1462 hR1463 H1464
                    have H1464 : Hp w0 ((Δ1466 ++ (Bx b225 54 [.int .i64 y55.Class, .int .i64 y55.Year, .int .i64 y55.Amount] :: Row K54 (.slice A26 o21.f_l.length c28) o21.f_l :: Bx b25 89 [.slice A26 o21.f_l.length c28] :: Row K54 (.slice A35 y29.length c37) y29 :: Γ))) wd1465 := H1464
                    refine sp_op [(66, .bool (decide (y55.Class < (rd y29 (w64 (i50 - 1))).Class))), (67, .pointer (some ⟨b225, 0, none⟩))] (ac (hE1462 27 (by decide)) (ac (hE1462 28 (by decide)) an)) ?_
                    refine r_ld1 (.int .i64 y55.Class) LD3 rfl (((H1464).tl.g0).cell _ rfl) ?_ (wn_t rfl rfl (by decide) rfl hb770)
                    exact r_nil (n_lp ⟨_, rfl, undef, rfl, H1464⟩)
                  · intro η233 wd1470 Δ1471 hE1467 hR1468 H1469
                    have H1469 : Hp w0 ((Δ1471 ++ (Bx b225 54 [.int .i64 y55.Class, .int .i64 y55.Year, .int .i64 y55.Amount] :: Row K54 (.slice A26 o21.f_l.length c28) o21.f_l :: Bx b25 89 [.slice A26 o21.f_l.length c28] :: Row K54 (.slice A35 y29.length c37) y29 :: Γ))) wd1470 := H1469
                    refine sp_op [(14, .slice A35 y29.length c37), (66, .bool (decide (y55.Class < (rd y29 (w64 (i50 - 1))).Class)))] (ac rfl (ac (hE1467 27 (by decide)) an)) ?_
                    refine r_pure (.slice A35 y29.length c37) rfl ?_ (wn_t rfl rfl (by decide) rfl hb770)
                    exact r_nil (n_lp ⟨_, rfl, undef, rfl, H1469⟩)
                  · intro η233 wd1475 Δ1476 hE1472 hR1473 H1474
                    have H1474 : Hp w0 ((Δ1476 ++ (Bx b225 54 [.int .i64 y55.Class, .int .i64 y55.Year, .int .i64 y55.Amount] :: Row K54 (.slice A26 o21.f_l.length c28) o21.f_l :: Bx b25 89 [.slice A26 o21.f_l.length c28] :: Row K54 (.slice A35 y29.length c37) y29 :: Γ))) wd1475 := H1474
                    refine sp_op [(17, .int .i64 i50), (66, .bool (decide (y55.Class < (rd y29 (w64 (i50 - 1))).Class)))] (ac rfl (ac (hE1472 27 (by decide)) an)) ?_
                    refine r_pure (.int .i64 i50) rfl ?_ (wn_t rfl rfl (by decide) rfl hb770)
                    exact r_nil (n_lp ⟨_, rfl, undef, rfl, H1474⟩)
                  · intro η233 wd1480 Δ1481 hE1477 hR1478 H1479
                    have H1479 : Hp w0 ((Δ1481 ++ (Bx b225 54 [.int .i64 y55.Class, .int .i64 y55.Year, .int .i64 y55.Amount] :: Row K54 (.slice A26 o21.f_l.length c28) o21.f_l :: Bx b25 89 [.slice A26 o21.f_l.length c28] :: Row K54 (.slice A35 y29.length c37) y29 :: Γ))) wd1480 := H1479
                    refine sp_op [(66, .bool (decide (y55.Class < (rd y29 (w64 (i50 - 1))).Class))), (70, .int .i64 i50)] (ac (hE1477 27 (by decide)) (ac (hE1477 31 (by decide)) an)) ?_
                    refine r_pure (.int .i64 (w64 (i50 - 1))) rfl ?_ (wn_t rfl rfl (by decide) rfl hb770)
                    exact r_nil (n_lp ⟨_, rfl, undef, rfl, H1479⟩)
                  · intro η233 wd1485 Δ1486 hE1482 hR1483 H1484
                    have H1484 : Hp w0 ((Δ1486 ++ (Bx b225 54 [.int .i64 y55.Class, .int .i64 y55.Year, .int .i64 y55.Amount] :: Row K54 (.slice A26 o21.f_l.length c28) o21.f_l :: Bx b25 89 [.slice A26 o21.f_l.length c28] :: Row K54 (.slice A35 y29.length c37) y29 :: Γ))) wd1485 := H1484
                    refine sp_op [(66, .bool (decide (y55.Class < (rd y29 (w64 (i50 - 1))).Class))), (69, .slice A35 y29.length c37), (71, .int .i64 (w64 (i50 - 1)))] (ac (hE1482 27 (by decide)) (ac (hE1482 30 (by decide)) (ac (hE1482 32 (by decide)) an))) ?_
                    refine r_ix IX51 rfl rfl hA224 h0767 h1768 ?_ (wn_t rfl rfl (by decide) rfl hb770)
                    exact r_nil (n_lp ⟨_, rfl, undef, rfl, H1484⟩)
                  · intro η233 wd1490 Δ1491 hE1487 hR1488 H1489
                    have H1489 : Hp w0 ((Δ1491 ++ (Bx b225 54 [.int .i64 y55.Class, .int .i64 y55.Year, .int .i64 y55.Amount] :: Row K54 (.slice A26 o21.f_l.length c28) o21.f_l :: Bx b25 89 [.slice A26 o21.f_l.length c28] :: Row K54 (.slice A35 y29.length c37) y29 :: Γ))) wd1490 := H1489
                    refine sp_op [(66, .bool (decide (y55.Class < (rd y29 (w64 (i50 - 1))).Class))), (72, .pointer (some ((oA A35).add (Int.toNat (w64 (i50 - 1)) * 3))))] (ac (hE1487 27 (by decide)) (ac (hE1487 33 (by decide)) an)) ?_
                    refine r_fa FA54_0 (((oA A35).add (Int.toNat (w64 (i50 - 1)) * 3)).add 0) rfl rfl ?_ (wn_t rfl rfl (by decide) rfl hb770)
                    exact r_nil (n_lp ⟨_, rfl, undef, rfl, H1489⟩)
                  · intro η233 wd1495 Δ1496 hE1492 hR1493 H1494
                    have H1494 : Hp w0 ((Δ1496 ++ (Bx b225 54 [.int .i64 y55.Class, .int .i64 y55.Year, .int .i64 y55.Amount] :: Row K54 (.slice A26 o21.f_l.length c28) o21.f_l :: Bx b25 89 [.slice A26 o21.f_l.length c28] :: Row K54 (.slice A35 y29.length c37) y29 :: Γ))) wd1495 := H1494
                    refine sp_op [(66, .bool (decide (y55.Class < (rd y29 (w64 (i50 - 1))).Class))), (73, .pointer (some (((oA A35).add (Int.toNat (w64 (i50 - 1)) * 3)).add 0)))] (ac (hE1492 27 (by decide)) (ac (hE1492 34 (by decide)) an)) ?_
                    refine r_ld1 (.int .i64 ((rd y29 (w64 (i50 - 1))).Class)) LD3 rfl (((H1494).tl.g3.rd).cA hA224 hj769 0 _ rfl) ?_ (wn_t rfl rfl (by decide) rfl hb770)
                    exact r_nil (n_lp ⟨_, rfl, undef, rfl, H1494⟩)
                  · intro η233 wd1500 Δ1501 hE1497 hR1498 H1499
                    have H1499 : Hp w0 ((Δ1501 ++ (Bx b225 54 [.int .i64 y55.Class, .int .i64 y55.Year, .int .i64 y55.Amount] :: Row K54 (.slice A26 o21.f_l.length c28) o21.f_l :: Bx b25 89 [.slice A26 o21.f_l.length c28] :: Row K54 (.slice A35 y29.length c37) y29 :: Γ))) wd1500 := H1499
                    refine sp_op [(66, .bool (decide (y55.Class < (rd y29 (w64 (i50 - 1))).Class))), (68, .int .i64 y55.Class), (74, .int .i64 ((rd y29 (w64 (i50 - 1))).Class))] (ac (hE1497 27 (by decide)) (ac (hE1497 29 (by decide)) (ac (hE1497 35 (by decide)) an))) ?_
                    refine r_pure (.bool (y55.Class == (rd y29 (w64 (i50 - 1))).Class)) rfl ?_ (wn_t rfl rfl (by decide) rfl hb770)
                    exact r_nil (n_lp ⟨_, rfl, undef, rfl, H1499⟩)
                  · intro η233 wd1505 Δ1506 hE1502 hR1503 H1504
                    have H1504 : Hp w0 ((Δ1506 ++ (Bx b225 54 [.int .i64 y55.Class, .int .i64 y55.Year, .int .i64 y55.Amount] :: Row K54 (.slice A26 o21.f_l.length c28) o21.f_l :: Bx b25 89 [.slice A26 o21.f_l.length c28] :: Row K54 (.slice A35 y29.length c37) y29 :: Γ))) wd1505 := H1504
                    refine sp_op [(66, .bool (decide (y55.Class < (rd y29 (w64 (i50 - 1))).Class))), (75, .bool (y55.Class == (rd y29 (w64 (i50 - 1))).Class))] (ac (hE1502 27 (by decide)) (ac (hE1502 36 (by decide)) an)) ?_
                    refine r_pure (.bool (y55.Class == (rd y29 (w64 (i50 - 1))).Class)) rfl ?_ (wn_t rfl rfl (by decide) rfl hb770)
                    exact r_nil (n_lp ⟨_, rfl, undef, rfl, H1504⟩)
                  · intro η233 wd1510 Δ1511 hE1507 hR1508 H1509
                    have H1509 : Hp w0 ((Δ1511 ++ (Bx b225 54 [.int .i64 y55.Class, .int .i64 y55.Year, .int .i64 y55.Amount] :: Row K54 (.slice A26 o21.f_l.length c28) o21.f_l :: Bx b25 89 [.slice A26 o21.f_l.length c28] :: Row K54 (.slice A35 y29.length c37) y29 :: Γ))) wd1510 := H1509
                    refine sp_op [(18, .pointer (some ⟨b225, 0, none⟩)), (76, .bool (y55.Class == (rd y29 (w64 (i50 - 1))).Class))] (ac rfl (ac (hE1507 37 (by decide)) an)) ?_
                    refine r_not (wn_f rfl rfl (by decide) rfl hb1039) ?_
                    exact r_nil (n_lp ⟨_, rfl, undef, rfl, H1509⟩)
                  · intro η233 wd1515 Δ1516 hE1512 hR1513 H1514
                    have H1514 : Hp w0 ((Δ1516 ++ (Bx b225 54 [.int .i64 y55.Class, .int .i64 y55.Year, .int .i64 y55.Amount] :: Row K54 (.slice A26 o21.f_l.length c28) o21.f_l :: Bx b25 89 [.slice A26 o21.f_l.length c28] :: Row K54 (.slice A35 y29.length c37) y29 :: Γ))) wd1515 := H1514
                    refine sp_op [(76, .bool (y55.Class == (rd y29 (w64 (i50 - 1))).Class)), (77, undef)] (ac (hE1512 37 (by decide)) (ac (hE1512 38 (by decide)) an)) ?_
                    refine r_not (wn_f rfl rfl (by decide) rfl hb1039) ?_
                    exact r_nil (n_lp ⟨_, rfl, undef, rfl, H1514⟩)
                  · intro η233 wd1520 Δ1521 hE1517 hR1518 H1519
                    have H1519 : Hp w0 ((Δ1521 ++ (Bx b225 54 [.int .i64 y55.Class, .int .i64 y55.Year, .int .i64 y55.Amount] :: Row K54 (.slice A26 o21.f_l.length c28) o21.f_l :: Bx b25 89 [.slice A26 o21.f_l.length c28] :: Row K54 (.slice A35 y29.length c37) y29 :: Γ))) wd1520 := H1519
                    refine sp_op [(14, .slice A35 y29.length c37), (76, .bool (y55.Class == (rd y29 (w64 (i50 - 1))).Class))] (ac rfl (ac (hE1517 37 (by decide)) an)) ?_
                    refine r_not (wn_f rfl rfl (by decide) rfl hb1039) ?_
                    exact r_nil (n_lp ⟨_, rfl, undef, rfl, H1519⟩)
                  · intro η233 wd1525 Δ1526 hE1522 hR1523 H1524
                    have H1524 : Hp w0 ((Δ1526 ++ (Bx b225 54 [.int .i64 y55.Class, .int .i64 y55.Year, .int .i64 y55.Amount] :: Row K54 (.slice A26 o21.f_l.length c28) o21.f_l :: Bx b25 89 [.slice A26 o21.f_l.length c28] :: Row K54 (.slice A35 y29.length c37) y29 :: Γ))) wd1525 := H1524
                    refine sp_op [(17, .int .i64 i50), (76, .bool (y55.Class == (rd y29 (w64 (i50 - 1))).Class))] (ac rfl (ac (hE1522 37 (by decide)) an)) ?_
                    refine r_not (wn_f rfl rfl (by decide) rfl hb1039) ?_
                    exact r_nil (n_lp ⟨_, rfl, undef, rfl, H1524⟩)
                  · intro η233 wd1530 Δ1531 hE1527 hR1528 H1529
                    have H1529 : Hp w0 ((Δ1531 ++ (Bx b225 54 [.int .i64 y55.Class, .int .i64 y55.Year, .int .i64 y55.Amount] :: Row K54 (.slice A26 o21.f_l.length c28) o21.f_l :: Bx b25 89 [.slice A26 o21.f_l.length c28] :: Row K54 (.slice A35 y29.length c37) y29 :: Γ))) wd1530 := H1529
                    refine sp_op [(76, .bool (y55.Class == (rd y29 (w64 (i50 - 1))).Class)), (80, undef)] (ac (hE1527 37 (by decide)) (ac (hE1527 41 (by decide)) an)) ?_
                    refine r_not (wn_f rfl rfl (by decide) rfl hb1039) ?_
                    exact r_nil (n_lp ⟨_, rfl, undef, rfl, H1529⟩)
                  · intro η233 wd1535 Δ1536 hE1532 hR1533 H1534
                    have H1534 : Hp w0 ((Δ1536 ++ (Bx b225 54 [.int .i64 y55.Class, .int .i64 y55.Year, .int .i64 y55.Amount] :: Row K54 (.slice A26 o21.f_l.length c28) o21.f_l :: Bx b25 89 [.slice A26 o21.f_l.length c28] :: Row K54 (.slice A35 y29.length c37) y29 :: Γ))) wd1535 := H1534
                    refine sp_op [(76, .bool (y55.Class == (rd y29 (w64 (i50 - 1))).Class)), (79, undef), (81, undef)] (ac (hE1532 37 (by decide)) (ac (hE1532 40 (by decide)) (ac (hE1532 42 (by decide)) an))) ?_
                    refine r_not (wn_f rfl rfl (by decide) rfl hb1039) ?_
                    exact r_nil (n_lp ⟨_, rfl, undef, rfl, H1534⟩)
                  · intro η233 wd1540 Δ1541 hE1537 hR1538 H1539
                    have H1539 : Hp w0 ((Δ1541 ++ (Bx b225 54 [.int .i64 y55.Class, .int .i64 y55.Year, .int .i64 y55.Amount] :: Row K54 (.slice A26 o21.f_l.length c28) o21.f_l :: Bx b25 89 [.slice A26 o21.f_l.length c28] :: Row K54 (.slice A35 y29.length c37) y29 :: Γ))) wd1540 := H1539
                    refine sp_op [(76, .bool (y55.Class == (rd y29 (w64 (i50 - 1))).Class)), (82, undef)] (ac (hE1537 37 (by decide)) (ac (hE1537 43 (by decide)) an)) ?_
                    refine r_not (wn_f rfl rfl (by decide) rfl hb1039) ?_
                    exact r_nil (n_lp ⟨_, rfl, undef, rfl, H1539⟩)
                  · intro η233 wd1545 Δ1546 hE1542 hR1543 H1544
                    have H1544 : Hp w0 ((Δ1546 ++ (Bx b225 54 [.int .i64 y55.Class, .int .i64 y55.Year, .int .i64 y55.Amount] :: Row K54 (.slice A26 o21.f_l.length c28) o21.f_l :: Bx b25 89 [.slice A26 o21.f_l.length c28] :: Row K54 (.slice A35 y29.length c37) y29 :: Γ))) wd1545 := H1544
                    refine sp_op [(76, .bool (y55.Class == (rd y29 (w64 (i50 - 1))).Class)), (83, undef)] (ac (hE1542 37 (by decide)) (ac (hE1542 44 (by decide)) an)) ?_
                    refine r_not (wn_f rfl rfl (by decide) rfl hb1039) ?_
                    exact r_nil (n_lp ⟨_, rfl, undef, rfl, H1544⟩)
                  · intro η233 wd1550 Δ1551 hE1547 hR1548 H1549
                    have H1549 : Hp w0 ((Δ1551 ++ (Bx b225 54 [.int .i64 y55.Class, .int .i64 y55.Year, .int .i64 y55.Amount] :: Row K54 (.slice A26 o21.f_l.length c28) o21.f_l :: Bx b25 89 [.slice A26 o21.f_l.length c28] :: Row K54 (.slice A35 y29.length c37) y29 :: Γ))) wd1550 := H1549
                    refine sp_op [(76, .bool (y55.Class == (rd y29 (w64 (i50 - 1))).Class)), (78, undef), (84, undef)] (ac (hE1547 37 (by decide)) (ac (hE1547 39 (by decide)) (ac (hE1547 45 (by decide)) an))) ?_
                    refine r_not (wn_f rfl rfl (by decide) rfl hb1039) ?_
                    exact r_nil (n_lp ⟨_, rfl, undef, rfl, H1549⟩)
                  · intro η233 wd1555 Δ1556 hE1552 hR1553 H1554
                    have H1554 : Hp w0 ((Δ1556 ++ (Bx b225 54 [.int .i64 y55.Class, .int .i64 y55.Year, .int .i64 y55.Amount] :: Row K54 (.slice A26 o21.f_l.length c28) o21.f_l :: Bx b25 89 [.slice A26 o21.f_l.length c28] :: Row K54 (.slice A35 y29.length c37) y29 :: Γ))) wd1555 := H1554
                    refine sp_op [(66, .bool (decide (y55.Class < (rd y29 (w64 (i50 - 1))).Class))), (76, .bool (y55.Class == (rd y29 (w64 (i50 - 1))).Class)), (85, undef)] (ac (hE1552 27 (by decide)) (ac (hE1552 37 (by decide)) (ac (hE1552 46 (by decide)) an))) ?_
                    refine r_pick_f (.bool false) hb1039 rfl rfl ?_ (wn_t rfl rfl (by decide) rfl hb770)
                    exact r_nil (n_lp ⟨_, rfl, undef, rfl, H1554⟩)
                  · intro η233 wd1560 Δ1561 hE1557 hR1558 H1559
                    have H1559 : Hp w0 ((Δ1561 ++ (Bx b225 54 [.int .i64 y55.Class, .int .i64 y55.Year, .int .i64 y55.Amount] :: Row K54 (.slice A26 o21.f_l.length c28) o21.f_l :: Bx b25 89 [.slice A26 o21.f_l.length c28] :: Row K54 (.slice A35 y29.length c37) y29 :: Γ))) wd1560 := H1559
                    refine sp_op [(56, .bool (decide (i50 > 0))), (66, .bool (decide (y55.Class < (rd y29 (w64 (i50 - 1))).Class))), (86, .bool false)] (ac (hE1557 17 (by decide)) (ac (hE1557 27 (by decide)) (ac (hE1557 47 (by decide)) an))) ?_
                    refine r_pick_f (.bool false) hb770 rfl rfl ?_ (wn_t rfl rfl (by decide) rfl hb766)
                    exact r_nil (n_lp ⟨_, rfl, undef, rfl, H1559⟩)
                  · intro η233 wd1565 Δ1566 hE1562 hR1563 H1564
                    have H1564 : Hp w0 ((Δ1566 ++ (Bx b225 54 [.int .i64 y55.Class, .int .i64 y55.Year, .int .i64 y55.Amount] :: Row K54 (.slice A26 o21.f_l.length c28) o21.f_l :: Bx b25 89 [.slice A26 o21.f_l.length c28] :: Row K54 (.slice A35 y29.length c37) y29 :: Γ))) wd1565 := H1564
                    refine sp_op [(53, .bool (y494 != y55.Amount)), (56, .bool (decide (i50 > 0))), (87, .bool false)] (ac (hE1562 14 (by decide)) (ac (hE1562 17 (by decide)) (ac (hE1562 48 (by decide)) an))) ?_
                    refine r_pick_t (.bool false) hb766 rfl rfl ?_ (wn_t rfl rfl (by decide) rfl hb500)
                    exact r_nil (n_lp ⟨_, rfl, undef, rfl, H1564⟩)
                  · intro η233 wd1570 Δ1571 hE1567 hR1568 H1569
                    have H1569 : Hp w0 ((Δ1571 ++ (Bx b225 54 [.int .i64 y55.Class, .int .i64 y55.Year, .int .i64 y55.Amount] :: Row K54 (.slice A26 o21.f_l.length c28) o21.f_l :: Bx b25 89 [.slice A26 o21.f_l.length c28] :: Row K54 (.slice A35 y29.length c37) y29 :: Γ))) wd1570 := H1569
                    refine sp_op [(53, .bool (y494 != y55.Amount)), (88, .bool false)] (ac (hE1567 14 (by decide)) (ac (hE1567 49 (by decide)) an)) ?_
                    refine r_pick_f (.bool false) hb500 rfl rfl ?_
                    exact r_nil (n_lp ⟨_, rfl, undef, rfl, H1569⟩)
                  · intro η233 wd1573 hV1574 H1572
                    have H1575 : Hp w0 (Bx b225 54 [.int .i64 y55.Class, .int .i64 y55.Year, .int .i64 y55.Amount] :: Row K54 (.slice A26 o21.f_l.length c28) o21.f_l :: Bx b25 89 [.slice A26 o21.f_l.length c28] :: Row K54 (.slice A35 y29.length c37) y29 :: Γ) wd1573 := H1572
                    refine n_frame ((1, .int .i64 class_) :: (2, .int .i64 year) :: (3, .int .i64 class2) :: (4, .int .i64 year2) :: (5, .int .i64 n_) :: (13, .pointer (some ⟨b25, 0, none⟩)) :: (14, .slice A35 y29.length c37) :: (15, .int .i64 y38) :: (16, .int .i64 (w64 (v45 + y55.Amount))) :: (28, .slice A35 y29.length c37) :: (29, .int .i64 (y29.length : Int)) :: (30, .int .i64 i50) :: (43, .pointer (some ⟨b25, 0, none⟩)) :: (44, .pointer (some ⟨b225, 0, none⟩)) :: (45, .int .i64 y55.Class) :: (46, .pointer (some ⟨b225, 1, none⟩)) :: (47, .int .i64 y55.Year) :: (48, .int .i64 y494) :: (49, .pointer (some ⟨b225, 2, none⟩)) :: (50, .int .i64 y55.Amount) :: (51, .bool (y494 != y55.Amount)) :: (54, .int .i64 i50) :: (55, .bool (decide (i50 > 0))) :: (56, .bool (decide (i50 > 0))) :: (57, .pointer (some ⟨b225, 0, none⟩)) :: (58, .int .i64 y55.Class) :: (59, .slice A35 y29.length c37) :: (60, .int .i64 i50) :: (61, .int .i64 (w64 (i50 - 1))) :: (62, .pointer (some ((oA A35).add (Int.toNat (w64 (i50 - 1)) * 3)))) :: (63, .pointer (some (((oA A35).add (Int.toNat (w64 (i50 - 1)) * 3)).add 0))) :: (64, .int .i64 ((rd y29 (w64 (i50 - 1))).Class)) :: (65, .bool (decide (y55.Class < (rd y29 (w64 (i50 - 1))).Class))) :: (66, .bool (decide (y55.Class < (rd y29 (w64 (i50 - 1))).Class))) :: (67, .pointer (some ⟨b225, 0, none⟩)) :: (68, .int .i64 y55.Class) :: (69, .slice A35 y29.length c37) :: (70, .int .i64 i50) :: (71, .int .i64 (w64 (i50 - 1))) :: (72, .pointer (some ((oA A35).add (Int.toNat (w64 (i50 - 1)) * 3)))) :: (73, .pointer (some (((oA A35).add (Int.toNat (w64 (i50 - 1)) * 3)).add 0))) :: (74, .int .i64 ((rd y29 (w64 (i50 - 1))).Class)) :: (75, .bool (y55.Class == (rd y29 (w64 (i50 - 1))).Class)) :: (76, .bool (y55.Class == (rd y29 (w64 (i50 - 1))).Class)) :: (86, .bool false) :: (87, .bool false) :: (88, .bool false) :: (89, .bool false) :: []) (ac rfl (ac rfl (ac rfl (ac rfl (ac rfl (ac rfl (ac rfl (ac rfl (ac rfl (ac rfl (ac rfl (ac rfl (ac (hV1574 4 rfl) (ac (hV1574 5 rfl) (ac (hV1574 6 rfl) (ac (hV1574 7 rfl) (ac (hV1574 8 rfl) (ac (hV1574 9 rfl) (ac (hV1574 10 rfl) (ac (hV1574 11 rfl) (ac (hV1574 12 rfl) (ac (hV1574 15 rfl) (ac (hV1574 16 rfl) (ac (hV1574 17 rfl) (ac (hV1574 18 rfl) (ac (hV1574 19 rfl) (ac (hV1574 20 rfl) (ac (hV1574 21 rfl) (ac (hV1574 22 rfl) (ac (hV1574 23 rfl) (ac (hV1574 24 rfl) (ac (hV1574 25 rfl) (ac (hV1574 26 rfl) (ac (hV1574 27 rfl) (ac (hV1574 28 rfl) (ac (hV1574 29 rfl) (ac (hV1574 30 rfl) (ac (hV1574 31 rfl) (ac (hV1574 32 rfl) (ac (hV1574 33 rfl) (ac (hV1574 34 rfl) (ac (hV1574 35 rfl) (ac (hV1574 36 rfl) (ac (hV1574 37 rfl) (ac (hV1574 47 rfl) (ac (hV1574 48 rfl) (ac (hV1574 49 rfl) (ac (hV1574 50 rfl) an)))))))))))))))))))))))))))))))))))))))))))))))) ?_
                    refine n_cut ⟨false, upk (ac rfl (ac rfl (ac rfl (ac rfl (ac rfl (ac rfl (ac rfl (ac rfl (ac rfl (ac rfl (ac rfl (ac rfl (ac rfl an))))))))))))), H1575.d.u2.u2.u2, hm⟩
            · refine Flow.run' ([] :: [0] :: [0, 1] :: [0, 1, 2] :: [0, 1, 2, 3] :: [0, 1, 2, 3] :: [0, 1, 2, 3, 5] :: [0, 1, 2, 3] :: [0, 1, 2, 3, 7] :: [0, 1, 2, 3, 4, 5, 6, 7, 8] :: [0, 1, 2, 3] :: [0, 1, 2, 3, 10] :: [0, 1, 2, 3, 4, 5, 6, 7, 8, 9, 10, 11] :: [0, 1, 2, 3, 4, 5, 6, 7, 8, 9, 10, 11, 12] :: [0, 1, 2, 3, 4, 5, 6, 7, 8, 9, 10, 11, 12, 13] :: [0, 1, 2, 3, 4, 5, 6, 7, 8, 9, 10, 11, 12, 13, 14] :: [0, 1, 2, 3, 4, 5, 6, 7, 8, 9, 10, 11, 12, 13, 14, 15] :: [0, 1, 2, 3, 4, 5, 6, 7, 8, 9, 10, 11, 12, 13, 14, 15, 16] :: [0, 1, 2, 3, 4, 5, 6, 7, 8, 9, 10, 11, 12, 13, 14, 15, 16, 17] :: [0, 1, 2, 3, 4, 5, 6, 7, 8, 9, 10, 11, 12, 13, 14, 15, 16, 17, 18] :: [0, 1, 2, 3, 4, 5, 6, 7, 8, 9, 10, 11, 12, 13, 14, 15, 16, 17] :: [0, 1, 2, 3, 4, 5, 6, 7, 8, 9, 10, 11, 12, 13, 14, 15, 16, 17] :: [0, 1, 2, 3, 4, 5, 6, 7, 8, 9, 10, 11, 12, 13, 14, 15, 16, 17, 21] :: [0, 1, 2, 3, 4, 5, 6, 7, 8, 9, 10, 11, 12, 13, 14, 15, 16, 17, 20, 21, 22] :: [0, 1, 2, 3, 4, 5, 6, 7, 8, 9, 10, 11, 12, 13, 14, 15, 16, 17, 20, 21, 22, 23] :: [0, 1, 2, 3, 4, 5, 6, 7, 8, 9, 10, 11, 12, 13, 14, 15, 16, 17, 20, 21, 22, 23, 24] :: [0, 1, 2, 3, 4, 5, 6, 7, 8, 9, 10, 11, 12, 13, 14, 15, 16, 17, 18, 19, 20, 21, 22, 23, 24, 25] :: [0, 1, 2, 3, 4, 5, 6, 7, 8, 9, 10, 11, 12, 13, 14, 15, 16, 17, 18, 19, 20, 21, 22, 23, 24, 25, 26] :: [0, 1, 2, 3, 4, 5, 6, 7, 8, 9, 10, 11, 12, 13, 14, 15, 16, 17, 18, 19, 20, 21, 22, 23, 24, 25, 26, 27] :: [0, 1, 2, 3, 4, 5, 6, 7, 8, 9, 10, 11, 12, 13, 14, 15, 16, 17, 18, 19, 20, 21, 22, 23, 24, 25, 26, 27, 28] :: [0, 1, 2, 3, 4, 5, 6, 7, 8, 9, 10, 11, 12, 13, 14, 15, 16, 17, 18, 19, 20, 21, 22, 23, 24, 25, 26, 27] :: [0, 1, 2, 3, 4, 5, 6, 7, 8, 9, 10, 11, 12, 13, 14, 15, 16, 17, 18, 19, 20, 21, 22, 23, 24, 25, 26, 27] :: [0, 1, 2, 3, 4, 5, 6, 7, 8, 9, 10, 11, 12, 13, 14, 15, 16, 17, 18, 19, 20, 21, 22, 23, 24, 25, 26, 27, 31] :: [0, 1, 2, 3, 4, 5, 6, 7, 8, 9, 10, 11, 12, 13, 14, 15, 16, 17, 18, 19, 20, 21, 22, 23, 24, 25, 26, 27, 30, 31, 32] :: [0, 1, 2, 3, 4, 5, 6, 7, 8, 9, 10, 11, 12, 13, 14, 15, 16, 17, 18, 19, 20, 21, 22, 23, 24, 25, 26, 27, 30, 31, 32, 33] :: [0, 1, 2, 3, 4, 5, 6, 7, 8, 9, 10, 11, 12, 13, 14, 15, 16, 17, 18, 19, 20, 21, 22, 23, 24, 25, 26, 27, 30, 31, 32, 33, 34] :: [0, 1, 2, 3, 4, 5, 6, 7, 8, 9, 10, 11, 12, 13, 14, 15, 16, 17, 18, 19, 20, 21, 22, 23, 24, 25, 26, 27, 28, 29, 30, 31, 32, 33, 34, 35] :: [0, 1, 2, 3, 4, 5, 6, 7, 8, 9, 10, 11, 12, 13, 14, 15, 16, 17, 18, 19, 20, 21, 22, 23, 24, 25, 26, 27, 28, 29, 30, 31, 32, 33, 34, 35, 36] :: [0, 1, 2, 3, 4, 5, 6, 7, 8, 9, 10, 11, 12, 13, 14, 15, 16, 17, 18, 19, 20, 21, 22, 23, 24, 25, 26, 27, 28, 29, 30, 31, 32, 33, 34, 35, 36, 37] :: [0, 1, 2, 3, 4, 5, 6, 7, 8, 9, 10, 11, 12, 13, 14, 15, 16, 17, 18, 19, 20, 21, 22, 23, 24, 25, 26, 27, 28, 29, 30, 31, 32, 33, 34, 35, 36, 37, 38] :: [0, 1, 2, 3, 4, 5, 6, 7, 8, 9, 10, 11, 12, 13, 14, 15, 16, 17, 18, 19, 20, 21, 22, 23, 24, 25, 26, 27, 28, 29, 30, 31, 32, 33, 34, 35, 36, 37] :: [0, 1, 2, 3, 4, 5, 6, 7, 8, 9, 10, 11, 12, 13, 14, 15, 16, 17, 18, 19, 20, 21, 22, 23, 24, 25, 26, 27, 28, 29, 30, 31, 32, 33, 34, 35, 36, 37] :: [0, 1, 2, 3, 4, 5, 6, 7, 8, 9, 10, 11, 12, 13, 14, 15, 16, 17, 18, 19, 20, 21, 22, 23, 24, 25, 26, 27, 28, 29, 30, 31, 32, 33, 34, 35, 36, 37, 41] :: [0, 1, 2, 3, 4, 5, 6, 7, 8, 9, 10, 11, 12, 13, 14, 15, 16, 17, 18, 19, 20, 21, 22, 23, 24, 25, 26, 27, 28, 29, 30, 31, 32, 33, 34, 35, 36, 37, 40, 41, 42] :: [0, 1, 2, 3, 4, 5, 6, 7, 8, 9, 10, 11, 12, 13, 14, 15, 16, 17, 18, 19, 20, 21, 22, 23, 24, 25, 26, 27, 28, 29, 30, 31, 32, 33, 34, 35, 36, 37, 40, 41, 42, 43] :: [0, 1, 2, 3, 4, 5, 6, 7, 8, 9, 10, 11, 12, 13, 14, 15, 16, 17, 18, 19, 20, 21, 22, 23, 24, 25, 26, 27, 28, 29, 30, 31, 32, 33, 34, 35, 36, 37, 40, 41, 42, 43, 44] :: [0, 1, 2, 3, 4, 5, 6, 7, 8, 9, 10, 11, 12, 13, 14, 15, 16, 17, 18, 19, 20, 21, 22, 23, 24, 25, 26, 27, 28, 29, 30, 31, 32, 33, 34, 35, 36, 37, 38, 39, 40, 41, 42, 43, 44, 45] :: [0, 1, 2, 3, 4, 5, 6, 7, 8, 9, 10, 11, 12, 13, 14, 15, 16, 17, 18, 19, 20, 21, 22, 23, 24, 25, 26, 27, 28, 29, 30, 31, 32, 33, 34, 35, 36, 37, 38, 39, 40, 41, 42, 43, 44, 45, 46] :: [0, 1, 2, 3, 4, 5, 6, 7, 8, 9, 10, 11, 12, 13, 14, 15, 16, 17, 18, 19, 20, 21, 22, 23, 24, 25, 26, 27, 28, 29, 30, 31, 32, 33, 34, 35, 36, 37, 38, 39, 40, 41, 42, 43, 44, 45, 46, 47] :: [0, 1, 2, 3, 4, 5, 6, 7, 8, 9, 10, 11, 12, 13, 14, 15, 16, 17, 18, 19, 20, 21, 22, 23, 24, 25, 26, 27, 28, 29, 30, 31, 32, 33, 34, 35, 36, 37, 38, 39, 40, 41, 42, 43, 44, 45, 46, 47, 48] :: [0, 1, 2, 3, 4, 5, 6, 7, 8, 9, 10, 11, 12, 13, 14, 15, 16, 17, 18, 19, 20, 21, 22, 23, 24, 25, 26, 27, 28, 29, 30, 31, 32, 33, 34, 35, 36, 37, 38, 39, 40, 41, 42, 43, 44, 45, 46, 47, 48, 49] :: []) ((39, 0) :: (40, 1) :: (41, 2) :: (42, 3) :: (43, 4) :: (44, 5) :: (45, 6) :: (46, 7) :: (47, 8) :: (48, 9) :: (49, 10) :: (50, 11) :: (51, 12) :: (52, 13) :: (53, 14) :: (54, 15) :: (55, 16) :: (56, 17) :: (57, 18) :: (58, 19) :: (59, 20) :: (60, 21) :: (61, 22) :: (62, 23) :: (63, 24) :: (64, 25) :: (65, 26) :: (66, 27) :: (67, 28) :: (68, 29) :: (69, 30) :: (70, 31) :: (71, 32) :: (72, 33) :: (73, 34) :: (74, 35) :: (75, 36) :: (76, 37) :: (77, 38) :: (78, 39) :: (79, 40) :: (80, 41) :: (81, 42) :: (82, 43) :: (83, 44) :: (84, 45) :: (85, 46) :: (86, 47) :: (87, 48) :: (88, 49) :: (89, 50) :: []) ((fun η233 v => v.1 = .pointer (some ⟨b225, 2, none⟩)) :: (fun η233 v => v.1 = .int .i64 y55.Amount) :: (fun η233 v => v.1 = .bool (y55.Amount == 0)) :: (fun η233 v => v.1 = .bool (y55.Amount == 0)) :: (fun η233 v => v.1 = .pointer (some ⟨b25, 0, none⟩)) :: (fun η233 v => v.1 = .pointer (some ⟨b225, 0, none⟩)) :: (fun η233 v => v.1 = .int .i64 y55.Class) :: (fun η233 v => v.1 = .pointer (some ⟨b225, 1, none⟩)) :: (fun η233 v => v.1 = .int .i64 y55.Year) :: (fun η233 v => v.1 = .int .i64 y494) :: (fun η233 v => v.1 = .pointer (some ⟨b225, 2, none⟩)) :: (fun η233 v => v.1 = .int .i64 y55.Amount) :: (fun η233 v => v.1 = .bool (y494 != y55.Amount)) :: (fun η233 v => v.1 = .bool (y494 != y55.Amount)) :: (fun η233 v => v.1 = .bool (y494 != y55.Amount)) :: (fun η233 v => v.1 = .int .i64 i50) :: (fun η233 v => v.1 = .bool (decide (i50 > 0))) :: (fun η233 v => v.1 = .bool (decide (i50 > 0))) :: (fun η233 v => v.1 = undef) :: (fun η233 v => v.1 = undef) :: (fun η233 v => v.1 = undef) :: (fun η233 v => v.1 = undef) :: (fun η233 v => v.1 = undef) :: (fun η233 v => v.1 = undef) :: (fun η233 v => v.1 = undef) :: (fun η233 v => v.1 = undef) :: (fun η233 v => v.1 = undef) :: (fun η233 v => v.1 = undef) :: (fun η233 v => v.1 = undef) :: (fun η233 v => v.1 = undef) :: (fun η233 v => v.1 = undef) :: (fun η233 v => v.1 = undef) :: (fun η233 v => v.1 = undef) :: (fun η233 v => v.1 = undef) :: (fun η233 v => v.1 = undef) :: (fun η233 v => v.1 = undef) :: (fun η233 v => v.1 = undef) :: (fun η233 v => v.1 = undef) :: (fun η233 v => v.1 = undef) :: (fun η233 v => v.1 = undef) :: (fun η233 v => v.1 = undef) :: (fun η233 v => v.1 = undef) :: (fun η233 v => v.1 = undef) :: (fun η233 v => v.1 = undef) :: (fun η233 v => v.1 = undef) :: (fun η233 v => v.1 = undef) :: (fun η233 v => v.1 = undef) :: (fun η233 v => v.1 = undef) :: (fun η233 v => v.1 = undef) :: (fun η233 v => v.1 = .bool false) :: (fun η233 v => v.1 = .bool false) :: []) [] rfl (by kernel_rfl) (by kernel_rfl) H228 ⟨?_, ?_, ?_, ?_, ?_, ?_, ?_, ?_, ?_, ?_, ?_, ?_, ?_, ?_, ?_, ?_, ?_, ?_, ?_, ?_, ?_, ?_, ?_, ?_, ?_, ?_, ?_, ?_, ?_, ?_, ?_, ?_, ?_, ?_, ?_, ?_, ?_, ?_, ?_, ?_, ?_, ?_, ?_, ?_, ?_, ?_, ?_, ?_, ?_, ?_, ?_, trivial⟩ ?_
              · intro η233 wd1579 Δ1580 hE1576 hR1577 H1578
                have H1578 : Hp w0 ((Δ1580 ++ (Bx b225 54 [.int .i64 y55.Class, .int .i64 y55.Year, .int .i64 y55.Amount] :: Row K54 (.slice A26 o21.f_l.length c28) o21.f_l :: Bx b25 89 [.slice A26 o21.f_l.length c28] :: Row K54 (.slice A35 y29.length c37) y29 :: Γ))) wd1579 := H1578
                refine sp_op [(18, .pointer (some ⟨b225, 0, none⟩))] (ac rfl an) ?_
                refine r_fa FA54_2 ⟨b225, 2, none⟩ rfl rfl ?_
                exact r_nil (n_lp ⟨_, rfl, undef, rfl, H1578⟩)
              · intro η233 wd1584 Δ1585 hE1581 hR1582 H1583
                have H1583 : Hp w0 ((Δ1585 ++ (Bx b225 54 [.int .i64 y55.Class, .int .i64 y55.Year, .int .i64 y55.Amount] :: Row K54 (.slice A26 o21.f_l.length c28) o21.f_l :: Bx b25 89 [.slice A26 o21.f_l.length c28] :: Row K54 (.slice A35 y29.length c37) y29 :: Γ))) wd1584 := H1583
                refine sp_op [(39, .pointer (some ⟨b225, 2, none⟩))] (ac (hE1581 0 (by decide)) an) ?_
                refine r_ld1 (.int .i64 y55.Amount) LD3 rfl (((H1583).tl.g0).cell _ rfl) ?_
                exact r_nil (n_lp ⟨_, rfl, undef, rfl, H1583⟩)
              · intro η233 wd1589 Δ1590 hE1586 hR1587 H1588
                have H1588 : Hp w0 ((Δ1590 ++ (Bx b225 54 [.int .i64 y55.Class, .int .i64 y55.Year, .int .i64 y55.Amount] :: Row K54 (.slice A26 o21.f_l.length c28) o21.f_l :: Bx b25 89 [.slice A26 o21.f_l.length c28] :: Row K54 (.slice A35 y29.length c37) y29 :: Γ))) wd1589 := H1588
                refine sp_op [(40, .int .i64 y55.Amount)] (ac (hE1586 1 (by decide)) an) ?_
                refine r_pure (.bool (y55.Amount == 0)) rfl ?_
                exact r_nil (n_lp ⟨_, rfl, undef, rfl, H1588⟩)
              · intro η233 wd1594 Δ1595 hE1591 hR1592 H1593
                have H1593 : Hp w0 ((Δ1595 ++ (Bx b225 54 [.int .i64 y55.Class, .int .i64 y55.Year, .int .i64 y55.Amount] :: Row K54 (.slice A26 o21.f_l.length c28) o21.f_l :: Bx b25 89 [.slice A26 o21.f_l.length c28] :: Row K54 (.slice A35 y29.length c37) y29 :: Γ))) wd1594 := H1593
                refine sp_op [(41, .bool (y55.Amount == 0))] (ac (hE1591 2 (by decide)) an) ?_
                refine r_pure (.bool (y55.Amount == 0)) rfl ?_
                exact r_nil (n_lp ⟨_, rfl, undef, rfl, H1593⟩)
              · intro η233 wd1599 Δ1600 hE1596 hR1597 H1598
                have H1598 : Hp w0 ((Δ1600 ++ (Bx b225 54 [.int .i64 y55.Class, .int .i64 y55.Year, .int .i64 y55.Amount] :: Row K54 (.slice A26 o21.f_l.length c28) o21.f_l :: Bx b25 89 [.slice A26 o21.f_l.length c28] :: Row K54 (.slice A35 y29.length c37) y29 :: Γ))) wd1599 := H1598
                refine sp_op [(13, .pointer (some ⟨b25, 0, none⟩)), (42, .bool (y55.Amount == 0))] (ac rfl (ac (hE1596 3 (by decide)) an)) ?_
                refine r_pure (.pointer (some ⟨b25, 0, none⟩)) rfl ?_ (wn_t rfl rfl (by decide) rfl hb234)
                exact r_nil (n_lp ⟨_, rfl, undef, rfl, H1598⟩)
              · intro η233 wd1604 Δ1605 hE1601 hR1602 H1603
                have H1603 : Hp w0 ((Δ1605 ++ (Bx b225 54 [.int .i64 y55.Class, .int .i64 y55.Year, .int .i64 y55.Amount] :: Row K54 (.slice A26 o21.f_l.length c28) o21.f_l :: Bx b25 89 [.slice A26 o21.f_l.length c28] :: Row K54 (.slice A35 y29.length c37) y29 :: Γ))) wd1604 := H1603
                refine sp_op [(18, .pointer (some ⟨b225, 0, none⟩)), (42, .bool (y55.Amount == 0))] (ac rfl (ac (hE1601 3 (by decide)) an)) ?_
                refine r_fa FA54_0 ⟨b225, 0, none⟩ rfl rfl ?_ (wn_t rfl rfl (by decide) rfl hb234)
                exact r_nil (n_lp ⟨_, rfl, undef, rfl, H1603⟩)
              · intro η233 wd1609 Δ1610 hE1606 hR1607 H1608
                have H1608 : Hp w0 ((Δ1610 ++ (Bx b225 54 [.int .i64 y55.Class, .int .i64 y55.Year, .int .i64 y55.Amount] :: Row K54 (.slice A26 o21.f_l.length c28) o21.f_l :: Bx b25 89 [.slice A26 o21.f_l.length c28] :: Row K54 (.slice A35 y29.length c37) y29 :: Γ))) wd1609 := H1608
                refine sp_op [(42, .bool (y55.Amount == 0)), (44, .pointer (some ⟨b225, 0, none⟩))] (ac (hE1606 3 (by decide)) (ac (hE1606 5 (by decide)) an)) ?_
                refine r_ld1 (.int .i64 y55.Class) LD3 rfl (((H1608).tl.g0).cell _ rfl) ?_ (wn_t rfl rfl (by decide) rfl hb234)
                exact r_nil (n_lp ⟨_, rfl, undef, rfl, H1608⟩)
              · intro η233 wd1614 Δ1615 hE1611 hR1612 H1613
                have H1613 : Hp w0 ((Δ1615 ++ (Bx b225 54 [.int .i64 y55.Class, .int .i64 y55.Year, .int .i64 y55.Amount] :: Row K54 (.slice A26 o21.f_l.length c28) o21.f_l :: Bx b25 89 [.slice A26 o21.f_l.length c28] :: Row K54 (.slice A35 y29.length c37) y29 :: Γ))) wd1614 := H1613
                refine sp_op [(18, .pointer (some ⟨b225, 0, none⟩)), (42, .bool (y55.Amount == 0))] (ac rfl (ac (hE1611 3 (by decide)) an)) ?_
                refine r_fa FA54_1 ⟨b225, 1, none⟩ rfl rfl ?_ (wn_t rfl rfl (by decide) rfl hb234)
                exact r_nil (n_lp ⟨_, rfl, undef, rfl, H1613⟩)
              · intro η233 wd1619 Δ1620 hE1616 hR1617 H1618
                have H1618 : Hp w0 ((Δ1620 ++ (Bx b225 54 [.int .i64 y55.Class, .int .i64 y55.Year, .int .i64 y55.Amount] :: Row K54 (.slice A26 o21.f_l.length c28) o21.f_l :: Bx b25 89 [.slice A26 o21.f_l.length c28] :: Row K54 (.slice A35 y29.length c37) y29 :: Γ))) wd1619 := H1618
                refine sp_op [(42, .bool (y55.Amount == 0)), (46, .pointer (some ⟨b225, 1, none⟩))] (ac (hE1616 3 (by decide)) (ac (hE1616 7 (by decide)) an)) ?_
                refine r_ld1 (.int .i64 y55.Year) LD3 rfl (((H1618).tl.g0).cell _ rfl) ?_ (wn_t rfl rfl (by decide) rfl hb234)
                exact r_nil (n_lp ⟨_, rfl, undef, rfl, H1618⟩)
              · intro η233 wd1624 Δ1625 hE1621 hR1622 H1623
                have H1623 : Hp w0 ((Δ1625 ++ (Bx b225 54 [.int .i64 y55.Class, .int .i64 y55.Year, .int .i64 y55.Amount] :: Row K54 (.slice A26 o21.f_l.length c28) o21.f_l :: Bx b25 89 [.slice A26 o21.f_l.length c28] :: Row K54 (.slice A35 y29.length c37) y29 :: Γ))) wd1624 := H1623
                refine sp_op [(42, .bool (y55.Amount == 0)), (43, .pointer (some ⟨b25, 0, none⟩)), (45, .int .i64 y55.Class), (47, .int .i64 y55.Year)] (ac (hE1621 3 (by decide)) (ac (hE1621 4 (by decide)) (ac (hE1621 6 (by decide)) (ac (hE1621 8 (by decide)) an)))) ?_
                refine r_callf Try.call30 (bucket_Register_Get_ok b25 (⟨o21.f_l⟩ : bucket_Register) A26 o21.f_l.length c28 rfl ((((H1623)).tl.g1).cap) (fun _ H => ((H).tl.g1.rd)) (fun _ H => ((H).tl.g2)) y55.Class y55.Year y494 H1623 hy495) ?_ (wn_t rfl rfl (by decide) rfl hb234)
                rintro e1629 wd1628 ⟨rfl, H1631⟩
                refine ⟨_, rfl, ?_⟩
                exact r_nil (n_lp ⟨_, rfl, undef, rfl, H1631⟩)
              · intro η233 wd1635 Δ1636 hE1632 hR1633 H1634
                have H1634 : Hp w0 ((Δ1636 ++ (Bx b225 54 [.int .i64 y55.Class, .int .i64 y55.Year, .int .i64 y55.Amount] :: Row K54 (.slice A26 o21.f_l.length c28) o21.f_l :: Bx b25 89 [.slice A26 o21.f_l.length c28] :: Row K54 (.slice A35 y29.length c37) y29 :: Γ))) wd1635 := H1634
                refine sp_op [(18, .pointer (some ⟨b225, 0, none⟩)), (42, .bool (y55.Amount == 0))] (ac rfl (ac (hE1632 3 (by decide)) an)) ?_
                refine r_fa FA54_2 ⟨b225, 2, none⟩ rfl rfl ?_ (wn_t rfl rfl (by decide) rfl hb234)
                exact r_nil (n_lp ⟨_, rfl, undef, rfl, H1634⟩)
              · intro η233 wd1640 Δ1641 hE1637 hR1638 H1639
                have H1639 : Hp w0 ((Δ1641 ++ (Bx b225 54 [.int .i64 y55.Class, .int .i64 y55.Year, .int .i64 y55.Amount] :: Row K54 (.slice A26 o21.f_l.length c28) o21.f_l :: Bx b25 89 [.slice A26 o21.f_l.length c28] :: Row K54 (.slice A35 y29.length c37) y29 :: Γ))) wd1640 := H1639
                refine sp_op [(42, .bool (y55.Amount == 0)), (49, .pointer (some ⟨b225, 2, none⟩))] (ac (hE1637 3 (by decide)) (ac (hE1637 10 (by decide)) an)) ?_
                refine r_ld1 (.int .i64 y55.Amount) LD3 rfl (((H1639).tl.g0).cell _ rfl) ?_ (wn_t rfl rfl (by decide) rfl hb234)
                exact r_nil (n_lp ⟨_, rfl, undef, rfl, H1639⟩)
              · intro η233 wd1645 Δ1646 hE1642 hR1643 H1644
                have H1644 : Hp w0 ((Δ1646 ++ (Bx b225 54 [.int .i64 y55.Class, .int .i64 y55.Year, .int .i64 y55.Amount] :: Row K54 (.slice A26 o21.f_l.length c28) o21.f_l :: Bx b25 89 [.slice A26 o21.f_l.length c28] :: Row K54 (.slice A35 y29.length c37) y29 :: Γ))) wd1645 := H1644
                refine sp_op [(42, .bool (y55.Amount == 0)), (48, .int .i64 y494), (50, .int .i64 y55.Amount)] (ac (hE1642 3 (by decide)) (ac (hE1642 9 (by decide)) (ac (hE1642 11 (by decide)) an))) ?_
                refine r_pure (.bool (y494 != y55.Amount)) rfl ?_ (wn_t rfl rfl (by decide) rfl hb234)
                exact r_nil (n_lp ⟨_, rfl, undef, rfl, H1644⟩)
              · intro η233 wd1650 Δ1651 hE1647 hR1648 H1649
                have H1649 : Hp w0 ((Δ1651 ++ (Bx b225 54 [.int .i64 y55.Class, .int .i64 y55.Year, .int .i64 y55.Amount] :: Row K54 (.slice A26 o21.f_l.length c28) o21.f_l :: Bx b25 89 [.slice A26 o21.f_l.length c28] :: Row K54 (.slice A35 y29.length c37) y29 :: Γ))) wd1650 := H1649
                refine sp_op [(42, .bool (y55.Amount == 0)), (51, .bool (y494 != y55.Amount))] (ac (hE1647 3 (by decide)) (ac (hE1647 12 (by decide)) an)) ?_
                refine r_pick_f (.bool (y494 != y55.Amount)) hb234 rfl rfl ?_
                exact r_nil (n_lp ⟨_, rfl, undef, rfl, H1649⟩)
              · intro η233 wd1655 Δ1656 hE1652 hR1653 H1654
                have H1654 : Hp w0 ((Δ1656 ++ (Bx b225 54 [.int .i64 y55.Class, .int .i64 y55.Year, .int .i64 y55.Amount] :: Row K54 (.slice A26 o21.f_l.length c28) o21.f_l :: Bx b25 89 [.slice A26 o21.f_l.length c28] :: Row K54 (.slice A35 y29.length c37) y29 :: Γ))) wd1655 := H1654
                refine sp_op [(52, .bool (y494 != y55.Amount))] (ac (hE1652 13 (by decide)) an) ?_
                refine r_pure (.bool (y494 != y55.Amount)) rfl ?_
                exact r_nil (n_lp ⟨_, rfl, undef, rfl, H1654⟩)
              · intro η233 wd1660 Δ1661 hE1657 hR1658 H1659
                have H1659 : Hp w0 ((Δ1661 ++ (Bx b225 54 [.int .i64 y55.Class, .int .i64 y55.Year, .int .i64 y55.Amount] :: Row K54 (.slice A26 o21.f_l.length c28) o21.f_l :: Bx b25 89 [.slice A26 o21.f_l.length c28] :: Row K54 (.slice A35 y29.length c37) y29 :: Γ))) wd1660 := H1659
                refine sp_op [(17, .int .i64 i50), (53, .bool (y494 != y55.Amount))] (ac rfl (ac (hE1657 14 (by decide)) an)) ?_
                refine r_pure (.int .i64 i50) rfl ?_ (wn_t rfl rfl (by decide) rfl hb500)
                exact r_nil (n_lp ⟨_, rfl, undef, rfl, H1659⟩)
              · intro η233 wd1665 Δ1666 hE1662 hR1663 H1664
                have H1664 : Hp w0 ((Δ1666 ++ (Bx b225 54 [.int .i64 y55.Class, .int .i64 y55.Year, .int .i64 y55.Amount] :: Row K54 (.slice A26 o21.f_l.length c28) o21.f_l :: Bx b25 89 [.slice A26 o21.f_l.length c28] :: Row K54 (.slice A35 y29.length c37) y29 :: Γ))) wd1665 := H1664
                refine sp_op [(53, .bool (y494 != y55.Amount)), (54, .int .i64 i50)] (ac (hE1662 14 (by decide)) (ac (hE1662 15 (by decide)) an)) ?_
                refine r_pure (.bool (decide (i50 > 0))) rfl ?_ (wn_t rfl rfl (by decide) rfl hb500)
                exact r_nil (n_lp ⟨_, rfl, undef, rfl, H1664⟩)
              · intro η233 wd1670 Δ1671 hE1667 hR1668 H1669
                have H1669 : Hp w0 ((Δ1671 ++ (Bx b225 54 [.int .i64 y55.Class, .int .i64 y55.Year, .int .i64 y55.Amount] :: Row K54 (.slice A26 o21.f_l.length c28) o21.f_l :: Bx b25 89 [.slice A26 o21.f_l.length c28] :: Row K54 (.slice A35 y29.length c37) y29 :: Γ))) wd1670 := H1669
                refine sp_op [(53, .bool (y494 != y55.Amount)), (55, .bool (decide (i50 > 0)))] (ac (hE1667 14 (by decide)) (ac (hE1667 16 (by decide)) an)) ?_
                refine r_pure (.bool (decide (i50 > 0))) rfl ?_ (wn_t rfl rfl (by decide) rfl hb500)
                exact r_nil (n_lp ⟨_, rfl, undef, rfl, H1669⟩)
              · intro η233 wd1675 Δ1676 hE1672 hR1673 H1674
                have H1674 : Hp w0 ((Δ1676 ++ (Bx b225 54 [.int .i64 y55.Class, .int .i64 y55.Year, .int .i64 y55.Amount] :: Row K54 (.slice A26 o21.f_l.length c28) o21.f_l :: Bx b25 89 [.slice A26 o21.f_l.length c28] :: Row K54 (.slice A35 y29.length c37) y29 :: Γ))) wd1675 := H1674
                refine sp_op [(18, .pointer (some ⟨b225, 0, none⟩)), (56, .bool (decide (i50 > 0)))] (ac rfl (ac (hE1672 17 (by decide)) an)) ?_
                refine r_not (wn_f rfl rfl (by decide) rfl hb766) ?_
                exact r_nil (n_lp ⟨_, rfl, undef, rfl, H1674⟩)
              · intro η233 wd1680 Δ1681 hE1677 hR1678 H1679
                have H1679 : Hp w0 ((Δ1681 ++ (Bx b225 54 [.int .i64 y55.Class, .int .i64 y55.Year, .int .i64 y55.Amount] :: Row K54 (.slice A26 o21.f_l.length c28) o21.f_l :: Bx b25 89 [.slice A26 o21.f_l.length c28] :: Row K54 (.slice A35 y29.length c37) y29 :: Γ))) wd1680 := H1679
                refine sp_op [(56, .bool (decide (i50 > 0))), (57, undef)] (ac (hE1677 17 (by decide)) (ac (hE1677 18 (by decide)) an)) ?_
                refine r_not (wn_f rfl rfl (by decide) rfl hb766) ?_
                exact r_nil (n_lp ⟨_, rfl, undef, rfl, H1679⟩)
              · intro η233 wd1685 Δ1686 hE1682 hR1683 H1684
                have H1684 : Hp w0 ((Δ1686 ++ (Bx b225 54 [.int .i64 y55.Class, .int .i64 y55.Year, .int .i64 y55.Amount] :: Row K54 (.slice A26 o21.f_l.length c28) o21.f_l :: Bx b25 89 [.slice A26 o21.f_l.length c28] :: Row K54 (.slice A35 y29.length c37) y29 :: Γ))) wd1685 := H1684
                refine sp_op [(14, .slice A35 y29.length c37), (56, .bool (decide (i50 > 0)))] (ac rfl (ac (hE1682 17 (by decide)) an)) ?_
                refine r_not (wn_f rfl rfl (by decide) rfl hb766) ?_
                exact r_nil (n_lp ⟨_, rfl, undef, rfl, H1684⟩)
              · intro η233 wd1690 Δ1691 hE1687 hR1688 H1689
                have H1689 : Hp w0 ((Δ1691 ++ (Bx b225 54 [.int .i64 y55.Class, .int .i64 y55.Year, .int .i64 y55.Amount] :: Row K54 (.slice A26 o21.f_l.length c28) o21.f_l :: Bx b25 89 [.slice A26 o21.f_l.length c28] :: Row K54 (.slice A35 y29.length c37) y29 :: Γ))) wd1690 := H1689
                refine sp_op [(17, .int .i64 i50), (56, .bool (decide (i50 > 0)))] (ac rfl (ac (hE1687 17 (by decide)) an)) ?_
                refine r_not (wn_f rfl rfl (by decide) rfl hb766) ?_
                exact r_nil (n_lp ⟨_, rfl, undef, rfl, H1689⟩)
              · intro η233 wd1695 Δ1696 hE1692 hR1693 H1694
                have H1694 : Hp w0 ((Δ1696 ++ (Bx b225 54 [.int .i64 y55.Class, .int .i64 y55.Year, .int .i64 y55.Amount] :: Row K54 (.slice A26 o21.f_l.length c28) o21.f_l :: Bx b25 89 [.slice A26 o21.f_l.length c28] :: Row K54 (.slice A35 y29.length c37) y29 :: Γ))) wd1695 := H1694
                refine sp_op [(56, .bool (decide (i50 > 0))), (60, undef)] (ac (hE1692 17 (by decide)) (ac (hE1692 21 (by decide)) an)) ?_
                refine r_not (wn_f rfl rfl (by decide) rfl hb766) ?_
                exact r_nil (n_lp ⟨_, rfl, undef, rfl, H1694⟩)
              · intro η233 wd1700 Δ1701 hE1697 hR1698 H1699
                have H1699 : Hp w0 ((Δ1701 ++ (Bx b225 54 [.int .i64 y55.Class, .int .i64 y55.Year, .int .i64 y55.Amount] :: Row K54 (.slice A26 o21.f_l.length c28) o21.f_l :: Bx b25 89 [.slice A26 o21.f_l.length c28] :: Row K54 (.slice A35 y29.length c37) y29 :: Γ))) wd1700 := H1699
                refine sp_op [(56, .bool (decide (i50 > 0))), (59, undef), (61, undef)] (ac (hE1697 17 (by decide)) (ac (hE1697 20 (by decide)) (ac (hE1697 22 (by decide)) an))) ?_
                refine r_not (wn_f rfl rfl (by decide) rfl hb766) ?_
                exact r_nil (n_lp ⟨_, rfl, undef, rfl, H1699⟩)
              · intro η233 wd1705 Δ1706 hE1702 hR1703 H1704
                have H1704 : Hp w0 ((Δ1706 ++ (Bx b225 54 [.int .i64 y55.Class, .int .i64 y55.Year, .int .i64 y55.Amount] :: Row K54 (.slice A26 o21.f_l.length c28) o21.f_l :: Bx b25 89 [.slice A26 o21.f_l.length c28] :: Row K54 (.slice A35 y29.length c37) y29 :: Γ))) wd1705 := H1704
                refine sp_op [(56, .bool (decide (i50 > 0))), (62, undef)] (ac (hE1702 17 (by decide)) (ac (hE1702 23 (by decide)) an)) ?_
                refine r_not (wn_f rfl rfl (by decide) rfl hb766) ?_
                exact r_nil (n_lp ⟨_, rfl, undef, rfl, H1704⟩)
              · intro η233 wd1710 Δ1711 hE1707 hR1708 H1709
                have H1709 : Hp w0 ((Δ1711 ++ (Bx b225 54 [.int .i64 y55.Class, .int .i64 y55.Year, .int .i64 y55.Amount] :: Row K54 (.slice A26 o21.f_l.length c28) o21.f_l :: Bx b25 89 [.slice A26 o21.f_l.length c28] :: Row K54 (.slice A35 y29.length c37) y29 :: Γ))) wd1710 := H1709
                refine sp_op [(56, .bool (decide (i50 > 0))), (63, undef)] (ac (hE1707 17 (by decide)) (ac (hE1707 24 (by decide)) an)) ?_
                refine r_not (wn_f rfl rfl (by decide) rfl hb766) ?_
                exact r_nil (n_lp ⟨_, rfl, undef, rfl, H1709⟩)
              · intro η233 wd1715 Δ1716 hE1712 hR1713 H1714
                have H1714 : Hp w0 ((Δ1716 ++ (Bx b225 54 [.int .i64 y55.Class, .int .i64 y55.Year, .int .i64 y55.Amount] :: Row K54 (.slice A26 o21.f_l.length c28) o21.f_l :: Bx b25 89 [.slice A26 o21.f_l.length c28] :: Row K54 (.slice A35 y29.length c37) y29 :: Γ))) wd1715 := H1714
                refine sp_op [(56, .bool (decide (i50 > 0))), (58, undef), (64, undef)] (ac (hE1712 17 (by decide)) (ac (hE1712 19 (by decide)) (ac (hE1712 25 (by decide)) an))) ?_
                refine r_not (wn_f rfl rfl (by decide) rfl hb766) ?_
                exact r_nil (n_lp ⟨_, rfl, undef, rfl, H1714⟩)
              · intro η233 wd1720 Δ1721 hE1717 hR1718 H1719
                have H1719 : Hp w0 ((Δ1721 ++ (Bx b225 54 [.int .i64 y55.Class, .int .i64 y55.Year, .int .i64 y55.Amount] :: Row K54 (.slice A26 o21.f_l.length c28) o21.f_l :: Bx b25 89 [.slice A26 o21.f_l.length c28] :: Row K54 (.slice A35 y29.length c37) y29 :: Γ))) wd1720 := H1719
                refine sp_op [(56, .bool (decide (i50 > 0))), (65, undef)] (ac (hE1717 17 (by decide)) (ac (hE1717 26 (by decide)) an)) ?_
                refine r_not (wn_f rfl rfl (by decide) rfl hb766) ?_
                exact r_nil (n_lp ⟨_, rfl, undef, rfl, H1719⟩)
              · intro η233 wd1725 Δ1726 hE1722 hR1723 H1724
                have H1724 : Hp w0 ((Δ1726 ++ (Bx b225 54 [.int .i64 y55.Class, .int .i64 y55.Year, .int .i64 y55.Amount] :: Row K54 (.slice A26 o21.f_l.length c28) o21.f_l :: Bx b25 89 [.slice A26 o21.f_l.length c28] :: Row K54 (.slice A35 y29.length c37) y29 :: Γ))) wd1725 := H1724
                refine sp_op [(18, .pointer (some ⟨b225, 0, none⟩)), (66, undef)] (ac rfl (ac (hE1722 27 (by decide)) an)) ?_
                refine r_not (wn_u rfl rfl (by decide) rfl rfl) ?_
                exact r_nil (n_lp ⟨_, rfl, undef, rfl, H1724⟩)
              · intro η233 wd1730 Δ1731 hE1727 hR1728 H1729
                have H1729 : Hp w0 ((Δ1731 ++ (Bx b225 54 [.int .i64 y55.Class, .int .i64 y55.Year, .int .i64 y55.Amount] :: Row K54 (.slice A26 o21.f_l.length c28) o21.f_l :: Bx b25 89 [.slice A26 o21.f_l.length c28] :: Row K54 (.slice A35 y29.length c37) y29 :: Γ))) wd1730 := H1729
                refine sp_op [(66, undef), (67, undef)] (ac (hE1727 27 (by decide)) (ac (hE1727 28 (by decide)) an)) ?_
                refine r_not (wn_u rfl rfl (by decide) rfl rfl) ?_
                exact r_nil (n_lp ⟨_, rfl, undef, rfl, H1729⟩)
              · intro η233 wd1735 Δ1736 hE1732 hR1733 H1734
                have H1734 : Hp w0 ((Δ1736 ++ (Bx b225 54 [.int .i64 y55.Class, .int .i64 y55.Year, .int .i64 y55.Amount] :: Row K54 (.slice A26 o21.f_l.length c28) o21.f_l :: Bx b25 89 [.slice A26 o21.f_l.length c28] :: Row K54 (.slice A35 y29.length c37) y29 :: Γ))) wd1735 := H1734
                refine sp_op [(14, .slice A35 y29.length c37), (66, undef)] (ac rfl (ac (hE1732 27 (by decide)) an)) ?_
                refine r_not (wn_u rfl rfl (by decide) rfl rfl) ?_
                exact r_nil (n_lp ⟨_, rfl, undef, rfl, H1734⟩)
              · intro η233 wd1740 Δ1741 hE1737 hR1738 H1739
                have H1739 : Hp w0 ((Δ1741 ++ (Bx b225 54 [.int .i64 y55.Class, .int .i64 y55.Year, .int .i64 y55.Amount] :: Row K54 (.slice A26 o21.f_l.length c28) o21.f_l :: Bx b25 89 [.slice A26 o21.f_l.length c28] :: Row K54 (.slice A35 y29.length c37) y29 :: Γ))) wd1740 := H1739
                refine sp_op [(17, .int .i64 i50), (66, undef)] (ac rfl (ac (hE1737 27 (by decide)) an)) ?_
                refine r_not (wn_u rfl rfl (by decide) rfl rfl) ?_
                exact r_nil (n_lp ⟨_, rfl, undef, rfl, H1739⟩)
              · intro η233 wd1745 Δ1746 hE1742 hR1743 H1744
                have H1744 : Hp w0 ((Δ1746 ++ (Bx b225 54 [.int .i64 y55.Class, .int .i64 y55.Year, .int .i64 y55.Amount] :: Row K54 (.slice A26 o21.f_l.length c28) o21.f_l :: Bx b25 89 [.slice A26 o21.f_l.length c28] :: Row K54 (.slice A35 y29.length c37) y29 :: Γ))) wd1745 := H1744
                refine sp_op [(66, undef), (70, undef)] (ac (hE1742 27 (by decide)) (ac (hE1742 31 (by decide)) an)) ?_
                refine r_not (wn_u rfl rfl (by decide) rfl rfl) ?_
                exact r_nil (n_lp ⟨_, rfl, undef, rfl, H1744⟩)
              · intro η233 wd1750 Δ1751 hE1747 hR1748 H1749
                have H1749 : Hp w0 ((Δ1751 ++ (Bx b225 54 [.int .i64 y55.Class, .int .i64 y55.Year, .int .i64 y55.Amount] :: Row K54 (.slice A26 o21.f_l.length c28) o21.f_l :: Bx b25 89 [.slice A26 o21.f_l.length c28] :: Row K54 (.slice A35 y29.length c37) y29 :: Γ))) wd1750 := H1749
                refine sp_op [(66, undef), (69, undef), (71, undef)] (ac (hE1747 27 (by decide)) (ac (hE1747 30 (by decide)) (ac (hE1747 32 (by decide)) an))) ?_
                refine r_not (wn_u rfl rfl (by decide) rfl rfl) ?_
                exact r_nil (n_lp ⟨_, rfl, undef, rfl, H1749⟩)
              · intro η233 wd1755 Δ1756 hE1752 hR1753 H1754
                have H1754 : Hp w0 ((Δ1756 ++ (Bx b225 54 [.int .i64 y55.Class, .int .i64 y55.Year, .int .i64 y55.Amount] :: Row K54 (.slice A26 o21.f_l.length c28) o21.f_l :: Bx b25 89 [.slice A26 o21.f_l.length c28] :: Row K54 (.slice A35 y29.length c37) y29 :: Γ))) wd1755 := H1754
                refine sp_op [(66, undef), (72, undef)] (ac (hE1752 27 (by decide)) (ac (hE1752 33 (by decide)) an)) ?_
                refine r_not (wn_u rfl rfl (by decide) rfl rfl) ?_
                exact r_nil (n_lp ⟨_, rfl, undef, rfl, H1754⟩)
              · intro η233 wd1760 Δ1761 hE1757 hR1758 H1759
                have H1759 : Hp w0 ((Δ1761 ++ (Bx b225 54 [.int .i64 y55.Class, .int .i64 y55.Year, .int .i64 y55.Amount] :: Row K54 (.slice A26 o21.f_l.length c28) o21.f_l :: Bx b25 89 [.slice A26 o21.f_l.length c28] :: Row K54 (.slice A35 y29.length c37) y29 :: Γ))) wd1760 := H1759
                refine sp_op [(66, undef), (73, undef)] (ac (hE1757 27 (by decide)) (ac (hE1757 34 (by decide)) an)) ?_
                refine r_not (wn_u rfl rfl (by decide) rfl rfl) ?_
                exact r_nil (n_lp ⟨_, rfl, undef, rfl, H1759⟩)
              · intro η233 wd1765 Δ1766 hE1762 hR1763 H1764
                have H1764 : Hp w0 ((Δ1766 ++ (Bx b225 54 [.int .i64 y55.Class, .int .i64 y55.Year, .int .i64 y55.Amount] :: Row K54 (.slice A26 o21.f_l.length c28) o21.f_l :: Bx b25 89 [.slice A26 o21.f_l.length c28] :: Row K54 (.slice A35 y29.length c37) y29 :: Γ))) wd1765 := H1764
                refine sp_op [(66, undef), (68, undef), (74, undef)] (ac (hE1762 27 (by decide)) (ac (hE1762 29 (by decide)) (ac (hE1762 35 (by decide)) an))) ?_
                refine r_not (wn_u rfl rfl (by decide) rfl rfl) ?_
                exact r_nil (n_lp ⟨_, rfl, undef, rfl, H1764⟩)
              · intro η233 wd1770 Δ1771 hE1767 hR1768 H1769
                have H1769 : Hp w0 ((Δ1771 ++ (Bx b225 54 [.int .i64 y55.Class, .int .i64 y55.Year, .int .i64 y55.Amount] :: Row K54 (.slice A26 o21.f_l.length c28) o21.f_l :: Bx b25 89 [.slice A26 o21.f_l.length c28] :: Row K54 (.slice A35 y29.length c37) y29 :: Γ))) wd1770 := H1769
                refine sp_op [(66, undef), (75, undef)] (ac (hE1767 27 (by decide)) (ac (hE1767 36 (by decide)) an)) ?_
                refine r_not (wn_u rfl rfl (by decide) rfl rfl) ?_
                exact r_nil (n_lp ⟨_, rfl, undef, rfl, H1769⟩)
              · intro η233 wd1775 Δ1776 hE1772 hR1773 H1774
                have H1774 : Hp w0 ((Δ1776 ++ (Bx b225 54 [.int .i64 y55.Class, .int .i64 y55.Year, .int .i64 y55.Amount] :: Row K54 (.slice A26 o21.f_l.length c28) o21.f_l :: Bx b25 89 [.slice A26 o21.f_l.length c28] :: Row K54 (.slice A35 y29.length c37) y29 :: Γ))) wd1775 := H1774
                refine sp_op [(18, .pointer (some ⟨b225, 0, none⟩)), (76, undef)] (ac rfl (ac (hE1772 37 (by decide)) an)) ?_
                refine r_not (wn_u rfl rfl (by decide) rfl rfl) ?_
                exact r_nil (n_lp ⟨_, rfl, undef, rfl, H1774⟩)
              · intro η233 wd1780 Δ1781 hE1777 hR1778 H1779
                have H1779 : Hp w0 ((Δ1781 ++ (Bx b225 54 [.int .i64 y55.Class, .int .i64 y55.Year, .int .i64 y55.Amount] :: Row K54 (.slice A26 o21.f_l.length c28) o21.f_l :: Bx b25 89 [.slice A26 o21.f_l.length c28] :: Row K54 (.slice A35 y29.length c37) y29 :: Γ))) wd1780 := H1779
                refine sp_op [(76, undef), (77, undef)] (ac (hE1777 37 (by decide)) (ac (hE1777 38 (by decide)) an)) ?_
                refine r_not (wn_u rfl rfl (by decide) rfl rfl) ?_
                exact r_nil (n_lp ⟨_, rfl, undef, rfl, H1779⟩)
              · intro η233 wd1785 Δ1786 hE1782 hR1783 H1784
                have H1784 : Hp w0 ((Δ1786 ++ (Bx b225 54 [.int .i64 y55.Class, .int .i64 y55.Year, .int .i64 y55.Amount] :: Row K54 (.slice A26 o21.f_l.length c28) o21.f_l :: Bx b25 89 [.slice A26 o21.f_l.length c28] :: Row K54 (.slice A35 y29.length c37) y29 :: Γ))) wd1785 := H1784
                refine sp_op [(14, .slice A35 y29.length c37), (76, undef)] (ac rfl (ac (hE1782 37 (by decide)) an)) ?_
                refine r_not (wn_u rfl rfl (by decide) rfl rfl) ?_
                exact r_nil (n_lp ⟨_, rfl, undef, rfl, H1784⟩)
              · intro η233 wd1790 Δ1791 hE1787 hR1788 H1789
                have H1789 : Hp w0 ((Δ1791 ++ (Bx b225 54 [.int .i64 y55.Class, .int .i64 y55.Year, .int .i64 y55.Amount] :: Row K54 (.slice A26 o21.f_l.length c28) o21.f_l :: Bx b25 89 [.slice A26 o21.f_l.length c28] :: Row K54 (.slice A35 y29.length c37) y29 :: Γ))) wd1790 := H1789
                refine sp_op [(17, .int .i64 i50), (76, undef)] (ac rfl (ac (hE1787 37 (by decide)) an)) ?_
                refine r_not (wn_u rfl rfl (by decide) rfl rfl) ?_
                exact r_nil (n_lp ⟨_, rfl, undef, rfl, H1789⟩)
              · intro η233 wd1795 Δ1796 hE1792 hR1793 H1794
                have H1794 : Hp w0 ((Δ1796 ++ (Bx b225 54 [.int .i64 y55.Class, .int .i64 y55.Year, .int .i64 y55.Amount] :: Row K54 (.slice A26 o21.f_l.length c28) o21.f_l :: Bx b25 89 [.slice A26 o21.f_l.length c28] :: Row K54 (.slice A35 y29.length c37) y29 :: Γ))) wd1795 := H1794
                refine sp_op [(76, undef), (80, undef)] (ac (hE1792 37 (by decide)) (ac (hE1792 41 (by decide)) an)) ?_
                refine r_not (wn_u rfl rfl (by decide) rfl rfl) ?_
                exact r_nil (n_lp ⟨_, rfl, undef, rfl, H1794⟩)
              · intro η233 wd1800 Δ1801 hE1797 hR1798 H1799
                have H1799 : Hp w0 ((Δ1801 ++ (Bx b225 54 [.int .i64 y55.Class, .int .i64 y55.Year, .int .i64 y55.Amount] :: Row K54 (.slice A26 o21.f_l.length c28) o21.f_l :: Bx b25 89 [.slice A26 o21.f_l.length c28] :: Row K54 (.slice A35 y29.length c37) y29 :: Γ))) wd1800 := H1799
                refine sp_op [(76, undef), (79, undef), (81, undef)] (ac (hE1797 37 (by decide)) (ac (hE1797 40 (by decide)) (ac (hE1797 42 (by decide)) an))) ?_
                refine r_not (wn_u rfl rfl (by decide) rfl rfl) ?_
                exact r_nil (n_lp ⟨_, rfl, undef, rfl, H1799⟩)
              · intro η233 wd1805 Δ1806 hE1802 hR1803 H1804
                have H1804 : Hp w0 ((Δ1806 ++ (Bx b225 54 [.int .i64 y55.Class, .int .i64 y55.Year, .int .i64 y55.Amount] :: Row K54 (.slice A26 o21.f_l.length c28) o21.f_l :: Bx b25 89 [.slice A26 o21.f_l.length c28] :: Row K54 (.slice A35 y29.length c37) y29 :: Γ))) wd1805 := H1804
                refine sp_op [(76, undef), (82, undef)] (ac (hE1802 37 (by decide)) (ac (hE1802 43 (by decide)) an)) ?_
                refine r_not (wn_u rfl rfl (by decide) rfl rfl) ?_
                exact r_nil (n_lp ⟨_, rfl, undef, rfl, H1804⟩)
              · intro η233 wd1810 Δ1811 hE1807 hR1808 H1809
                have H1809 : Hp w0 ((Δ1811 ++ (Bx b225 54 [.int .i64 y55.Class, .int .i64 y55.Year, .int .i64 y55.Amount] :: Row K54 (.slice A26 o21.f_l.length c28) o21.f_l :: Bx b25 89 [.slice A26 o21.f_l.length c28] :: Row K54 (.slice A35 y29.length c37) y29 :: Γ))) wd1810 := H1809
                refine sp_op [(76, undef), (83, undef)] (ac (hE1807 37 (by decide)) (ac (hE1807 44 (by decide)) an)) ?_
                refine r_not (wn_u rfl rfl (by decide) rfl rfl) ?_
                exact r_nil (n_lp ⟨_, rfl, undef, rfl, H1809⟩)
              · intro η233 wd1815 Δ1816 hE1812 hR1813 H1814
                have H1814 : Hp w0 ((Δ1816 ++ (Bx b225 54 [.int .i64 y55.Class, .int .i64 y55.Year, .int .i64 y55.Amount] :: Row K54 (.slice A26 o21.f_l.length c28) o21.f_l :: Bx b25 89 [.slice A26 o21.f_l.length c28] :: Row K54 (.slice A35 y29.length c37) y29 :: Γ))) wd1815 := H1814
                refine sp_op [(76, undef), (78, undef), (84, undef)] (ac (hE1812 37 (by decide)) (ac (hE1812 39 (by decide)) (ac (hE1812 45 (by decide)) an))) ?_
                refine r_not (wn_u rfl rfl (by decide) rfl rfl) ?_
                exact r_nil (n_lp ⟨_, rfl, undef, rfl, H1814⟩)
              · intro η233 wd1820 Δ1821 hE1817 hR1818 H1819
                have H1819 : Hp w0 ((Δ1821 ++ (Bx b225 54 [.int .i64 y55.Class, .int .i64 y55.Year, .int .i64 y55.Amount] :: Row K54 (.slice A26 o21.f_l.length c28) o21.f_l :: Bx b25 89 [.slice A26 o21.f_l.length c28] :: Row K54 (.slice A35 y29.length c37) y29 :: Γ))) wd1820 := H1819
                refine sp_op [(66, undef), (76, undef), (85, undef)] (ac (hE1817 27 (by decide)) (ac (hE1817 37 (by decide)) (ac (hE1817 46 (by decide)) an))) ?_
                refine r_not (wn_u rfl rfl (by decide) rfl rfl) ?_
                exact r_nil (n_lp ⟨_, rfl, undef, rfl, H1819⟩)
              · intro η233 wd1825 Δ1826 hE1822 hR1823 H1824
                have H1824 : Hp w0 ((Δ1826 ++ (Bx b225 54 [.int .i64 y55.Class, .int .i64 y55.Year, .int .i64 y55.Amount] :: Row K54 (.slice A26 o21.f_l.length c28) o21.f_l :: Bx b25 89 [.slice A26 o21.f_l.length c28] :: Row K54 (.slice A35 y29.length c37) y29 :: Γ))) wd1825 := H1824
                refine sp_op [(56, .bool (decide (i50 > 0))), (66, undef), (86, undef)] (ac (hE1822 17 (by decide)) (ac (hE1822 27 (by decide)) (ac (hE1822 47 (by decide)) an))) ?_
                refine r_not (wn_f rfl rfl (by decide) rfl hb766) ?_
                exact r_nil (n_lp ⟨_, rfl, undef, rfl, H1824⟩)
              · intro η233 wd1830 Δ1831 hE1827 hR1828 H1829
                have H1829 : Hp w0 ((Δ1831 ++ (Bx b225 54 [.int .i64 y55.Class, .int .i64 y55.Year, .int .i64 y55.Amount] :: Row K54 (.slice A26 o21.f_l.length c28) o21.f_l :: Bx b25 89 [.slice A26 o21.f_l.length c28] :: Row K54 (.slice A35 y29.length c37) y29 :: Γ))) wd1830 := H1829
                refine sp_op [(53, .bool (y494 != y55.Amount)), (56, .bool (decide (i50 > 0))), (87, undef)] (ac (hE1827 14 (by decide)) (ac (hE1827 17 (by decide)) (ac (hE1827 48 (by decide)) an))) ?_
                refine r_pick_f (.bool false) hb766 rfl rfl ?_ (wn_t rfl rfl (by decide) rfl hb500)
                exact r_nil (n_lp ⟨_, rfl, undef, rfl, H1829⟩)
              · intro η233 wd1835 Δ1836 hE1832 hR1833 H1834
                have H1834 : Hp w0 ((Δ1836 ++ (Bx b225 54 [.int .i64 y55.Class, .int .i64 y55.Year, .int .i64 y55.Amount] :: Row K54 (.slice A26 o21.f_l.length c28) o21.f_l :: Bx b25 89 [.slice A26 o21.f_l.length c28] :: Row K54 (.slice A35 y29.length c37) y29 :: Γ))) wd1835 := H1834
                refine sp_op [(53, .bool (y494 != y55.Amount)), (88, .bool false)] (ac (hE1832 14 (by decide)) (ac (hE1832 49 (by decide)) an)) ?_
                refine r_pick_f (.bool false) hb500 rfl rfl ?_
                exact r_nil (n_lp ⟨_, rfl, undef, rfl, H1834⟩)
              · intro η233 wd1838 hV1839 H1837
                have H1840 : Hp w0 (Bx b225 54 [.int .i64 y55.Class, .int .i64 y55.Year, .int .i64 y55.Amount] :: Row K54 (.slice A26 o21.f_l.length c28) o21.f_l :: Bx b25 89 [.slice A26 o21.f_l.length c28] :: Row K54 (.slice A35 y29.length c37) y29 :: Γ) wd1838 := H1837
                refine n_frame ((1, .int .i64 class_) :: (2, .int .i64 year) :: (3, .int .i64 class2) :: (4, .int .i64 year2) :: (5, .int .i64 n_) :: (13, .pointer (some ⟨b25, 0, none⟩)) :: (14, .slice A35 y29.length c37) :: (15, .int .i64 y38) :: (16, .int .i64 (w64 (v45 + y55.Amount))) :: (28, .slice A35 y29.length c37) :: (29, .int .i64 (y29.length : Int)) :: (30, .int .i64 i50) :: (43, .pointer (some ⟨b25, 0, none⟩)) :: (44, .pointer (some ⟨b225, 0, none⟩)) :: (45, .int .i64 y55.Class) :: (46, .pointer (some ⟨b225, 1, none⟩)) :: (47, .int .i64 y55.Year) :: (48, .int .i64 y494) :: (49, .pointer (some ⟨b225, 2, none⟩)) :: (50, .int .i64 y55.Amount) :: (51, .bool (y494 != y55.Amount)) :: (54, .int .i64 i50) :: (55, .bool (decide (i50 > 0))) :: (56, .bool (decide (i50 > 0))) :: (88, .bool false) :: (89, .bool false) :: []) (ac rfl (ac rfl (ac rfl (ac rfl (ac rfl (ac rfl (ac rfl (ac rfl (ac rfl (ac rfl (ac rfl (ac rfl (ac (hV1839 4 rfl) (ac (hV1839 5 rfl) (ac (hV1839 6 rfl) (ac (hV1839 7 rfl) (ac (hV1839 8 rfl) (ac (hV1839 9 rfl) (ac (hV1839 10 rfl) (ac (hV1839 11 rfl) (ac (hV1839 12 rfl) (ac (hV1839 15 rfl) (ac (hV1839 16 rfl) (ac (hV1839 17 rfl) (ac (hV1839 49 rfl) (ac (hV1839 50 rfl) an)))))))))))))))))))))))))) ?_
                refine n_cut ⟨false, upk (ac rfl (ac rfl (ac rfl (ac rfl (ac rfl (ac rfl (ac rfl (ac rfl (ac rfl (ac rfl (ac rfl (ac rfl (ac rfl an))))))))))))), H1840.d.u2.u2.u2, hm⟩
      · rintro ρ w ⟨q230, ⟨base, rfl⟩, H231, hm⟩
        unfold scutagelaw10_BucketSums.j6 at hm
        rcases ite_some hm with ⟨hb232, hm⟩ | ⟨hb232, hm⟩
        · refine st_condt hb232 rfl ?_
          refine st_seq ?_
          refine st_region ?_
          refine r_pure (.bool false) rfl ?_
          refine r_seq ?_
          have hq_ := Option.some.inj hm
          subst hq_
          have hq_ := Option.some.inj (show some (false : Bool) = some r0_ from hm47)
          subst hq_
          refine st_ret1 rfl rfl (Nat.le_of_ble_eq_true rfl) rfl ?_
          exact ⟨rfl, H231.d.d.d⟩
        · refine st_condf hb232 rfl ?_
          refine st_skip ?_
          refine n_bl ?_
          refine n_sq ?_
          refine st_region ?_
          refine r_pure (.int .i64 (w64 (i50 + 1))) rfl ?_
          refine r_pure (.int .i64 (w64 (i50 + 1))) rfl ?_
          refine r_nil ?_
          refine n_round (IH58 _ _ rfl _ _ _ ⟨i50 + 1, w64 (v45 + y55.Amount), dn51 ++ [y55], rfl, range_more hxs52, range_len hi53, upk (ac rfl (ac rfl (ac rfl (ac rfl (ac rfl (ac rfl (ac rfl (ac rfl (ac rfl (ac rfl (ac rfl (ac hnx64 an)))))))))))), H231.u2.u2.u2⟩ hm)


end Go.Proofs.Ytcmhekibcbpajaa
