/- The Go functions come to their models: printed by gen.py. -/
import Derived.Test.YtcmhekibcbpajaaFX1
set_option linter.unusedVariables false
set_option linter.unusedSimpArgs false
set_option maxRecDepth 100000
namespace Go.Proofs.Ytcmhekibcbpajaa
open Go Go.RowKit
attribute [local irreducible] W R N L Hp Row SlR Bx

set_option maxHeartbeats 2000000 in
theorem scutagelaw15_CurrentTells_ok {w0 w : World} {Γ : List (World → Prop)} (l_ : List Int) (A1 : Option Addr) (n6 c2 : Nat) (hn5 : n6 = l_.length) (hc3 : l_.length ≤ c2) (hv4 : ∀ u, Hp w0 Γ u → SlR K3 A1 l_ u) (book : Int) (perm : Int) (moved : Int) (cap : Int) (life : Int) (year : Int) (r_ : Int) (how : Int) (r0_ : Bool) (H : Hp w0 (Γ) w) (hm : scutagelaw15_CurrentTells l_ book perm moved cap life year r_ how = some r0_) : Calls Try.prog 7 #[.slice A1 n6 c2, .int .i64 book, .int .i64 perm, .int .i64 moved, .int .i64 cap, .int .i64 life, .int .i64 year, .int .i64 r_, .int .i64 how] w (fun e w => e = .returned (.bool r0_) ∧ Hp w0 (Γ) w) := by
  subst hn5
  unfold scutagelaw15_CurrentTells at hm
  refine st_enter Try.func7 rfl Try.ntmps7 (Nat.le_of_ble_eq_true rfl) ?_
  refine st_seq ?_
  refine st_region ?_
  refine r_pure (.bool false) rfl ?_
  refine r_seq ?_
  refine st_seq ?_
  refine st_region ?_
  refine r_pure (.slice A1 l_.length c2) rfl ?_
  obtain ⟨y7, hy8, hm⟩ := bind_some hm
  refine r_callf Try.call38 (scutageplay_Losses_ok l_ A1 l_.length c2 rfl hc3 (fun _ H => (hv4 _ H)) y7 H hy8) ?_
  rintro e10 wd9 ⟨b13, A14, n15, c16, rfl, H12⟩
  obtain rfl := (H12.g1).leneq
  refine ⟨_, rfl, ?_⟩
  refine r_pure (.pointer (some ⟨b13, 0, none⟩)) rfl ?_
  refine r_seq ?_
  refine st_seq ?_
  refine st_region ?_
  refine r_pure (.pointer (some ⟨b13, 0, none⟩)) rfl ?_
  obtain ⟨y17, hy18, hm⟩ := bind_some hm
  refine r_callf Try.call39 (scutagelaw13_Of_ok b13 (⟨y7.V⟩ : scutageref09_Losses) A14 y7.V.length c16 rfl (((H12).g1).cap) (fun _ H => (H.g1.rd)) (fun _ H => (H.g0)) y17 H12 hy18) ?_
  rintro e20 wd19 (⟨hn24, rfl, H22⟩ | ⟨o21, hn24, b25, A26, n27, c28, rfl, H23⟩)
  · subst hn24
    have hm : some false = some r0_ := hm
    refine ⟨_, rfl, ?_⟩
    refine r_pure (.pointer none) rfl ?_
    refine r_seq ?_
    refine st_seq ?_
    refine st_seq ?_
    refine st_region ?_
    refine r_pure (.pointer none) rfl ?_
    refine r_eqn Try.underlying23 rfl rfl ?_
    refine r_seq ?_
    refine st_condt rfl rfl ?_
    refine st_seq ?_
    refine st_region ?_
    refine r_pure (.bool false) rfl ?_
    refine r_seq ?_
    have hq_ := Option.some.inj hm
    subst hq_
    refine st_ret1 rfl rfl (Nat.le_of_ble_eq_true rfl) rfl ?_
    exact ⟨rfl, H22.d.d⟩
  · subst hn24
    obtain rfl := (H23.g1).leneq
    have hm : ((scutageplay_Amount book).bind fun y29 => ((scutageplay_Amount perm).bind fun y35 => ((scutageplay_Amount moved).bind fun y41 => (if (Int.tmod how 7 != 6) = true then ((scutageplay_Rate cap).bind fun y1309 => ((scutagekeep_Within life 6).bind fun y1315 => ((scutagekeep_Within year 10).bind fun y1321 => ((scutageplay_Rate r_).bind fun y1327 => scutagelaw15_CurrentTells.j1 o21 y29 y35 y41 y7 y1309 y1315 y1321 y1327)))) else scutagelaw15_CurrentTells.j1 o21 y29 y35 y41 y7 cap life year r_)))) = some r0_ := hm
    refine ⟨_, rfl, ?_⟩
    refine r_pure (.pointer (some ⟨b25, 0, none⟩)) rfl ?_
    refine r_seq ?_
    refine st_seq ?_
    refine st_seq ?_
    refine st_region ?_
    refine r_pure (.pointer (some ⟨b25, 0, none⟩)) rfl ?_
    refine r_eqn Try.underlying23 rfl rfl ?_
    refine r_seq ?_
    refine st_condf rfl rfl ?_
    refine st_skip ?_
    refine n_sq ?_
    refine st_seq ?_
    refine st_region ?_
    refine r_pure (.int .i64 book) rfl ?_
    obtain ⟨y29, hy30, hm⟩ := bind_some hm
    refine r_callf Try.call10 (scutageplay_Amount_ok book y29 H23 hy30) ?_
    rintro e32 wd31 ⟨rfl, H34⟩
    refine ⟨_, rfl, ?_⟩
    refine r_pure (.int .i64 perm) rfl ?_
    obtain ⟨y35, hy36, hm⟩ := bind_some hm
    refine r_callf Try.call10 (scutageplay_Amount_ok perm y35 H34 hy36) ?_
    rintro e38 wd37 ⟨rfl, H40⟩
    refine ⟨_, rfl, ?_⟩
    refine r_pure (.int .i64 moved) rfl ?_
    obtain ⟨y41, hy42, hm⟩ := bind_some hm
    refine r_callf Try.call10 (scutageplay_Amount_ok moved y41 H40 hy42) ?_
    rintro e44 wd43 ⟨rfl, H46⟩
    refine ⟨_, rfl, ?_⟩
    refine r_pure (.int .i64 y29) rfl ?_
    refine r_pure (.int .i64 y35) rfl ?_
    refine r_pure (.int .i64 y41) rfl ?_
    refine r_seq ?_
    refine st_cut (fun ρ w => ∃ v47 : Int, ∃ v48 : Int, ∃ v49 : Int, ∃ v50 : Int, (∃ base, ρ = updl base [(1, .int .i64 y29), (2, .int .i64 y35), (3, .int .i64 y41), (4, .int .i64 v47), (5, .int .i64 v48), (6, .int .i64 v49), (7, .int .i64 v50), (19, .pointer (some ⟨b13, 0, none⟩)), (20, .pointer (some ⟨b25, 0, none⟩))]) ∧ Hp w0 (Row K38 (.slice A14 y7.V.length c16) y7.V :: Bx b13 28 [.slice A14 y7.V.length c16] :: Row K38 (.slice A26 o21.f_l.length c28) o21.f_l :: Bx b25 75 [.slice A26 o21.f_l.length c28] :: Γ) w ∧ scutagelaw15_CurrentTells.j1 o21 y29 y35 y41 y7 v47 v48 v49 v50 = some r0_) ?_ ?_
    · refine st_seq ?_
      refine st_region ?_
      refine r_pure (.int .i64 how) rfl ?_
      refine r_rem (by decide) rfl rfl ?_
      refine r_pure (.bool (Int.tmod how 7 != 6)) rfl ?_
      refine r_seq ?_
      rcases ite_some hm with ⟨hb1308, hm⟩ | ⟨hb1308, hm⟩
      · refine st_condt hb1308 rfl ?_
        refine st_region ?_
        refine r_pure (.int .i64 cap) rfl ?_
        obtain ⟨y1309, hy1310, hm⟩ := bind_some hm
        refine r_callf Try.call40 (scutageplay_Rate_ok cap y1309 H46 hy1310) ?_
        rintro e1312 wd1311 ⟨rfl, H1314⟩
        refine ⟨_, rfl, ?_⟩
        refine r_pure (.int .i64 life) rfl ?_
        obtain ⟨y1315, hy1316, hm⟩ := bind_some hm
        refine r_callf Try.call9 (scutagekeep_Within_ok life 6 y1315 H1314 hy1316) ?_
        rintro e1318 wd1317 ⟨rfl, H1320⟩
        refine ⟨_, rfl, ?_⟩
        refine r_pure (.int .i64 year) rfl ?_
        obtain ⟨y1321, hy1322, hm⟩ := bind_some hm
        refine r_callf Try.call9 (scutagekeep_Within_ok year 10 y1321 H1320 hy1322) ?_
        rintro e1324 wd1323 ⟨rfl, H1326⟩
        refine ⟨_, rfl, ?_⟩
        refine r_pure (.int .i64 r_) rfl ?_
        obtain ⟨y1327, hy1328, hm⟩ := bind_some hm
        refine r_callf Try.call40 (scutageplay_Rate_ok r_ y1327 H1326 hy1328) ?_
        rintro e1330 wd1329 ⟨rfl, H1332⟩
        refine ⟨_, rfl, ?_⟩
        refine r_pure (.int .i64 y1309) rfl ?_
        refine r_pure (.int .i64 y1315) rfl ?_
        refine r_pure (.int .i64 y1321) rfl ?_
        refine r_pure (.int .i64 y1327) rfl ?_
        refine r_nil ?_
        refine n_cut ⟨y1309, y1315, y1321, y1327, upk (ac rfl (ac rfl (ac rfl (ac rfl (ac rfl (ac rfl (ac rfl (ac rfl (ac rfl an))))))))), H1332.u1.u2.u3, hm⟩
      · refine st_condf hb1308 rfl ?_
        refine st_skip ?_
        refine n_cut ⟨cap, life, year, r_, upk (ac rfl (ac rfl (ac rfl (ac rfl (ac rfl (ac rfl (ac rfl (ac rfl (ac rfl an))))))))), H46.u1.u2.u3, hm⟩
    · rintro ρ w ⟨v47, v48, v49, v50, ⟨base, rfl⟩, H51, hm⟩
      unfold scutagelaw15_CurrentTells.j1 at hm
      refine st_seq ?_
      refine st_region ?_
      refine r_pure (.pointer (some ⟨b25, 0, none⟩)) rfl ?_
      refine r_pure (.int .i64 y29) rfl ?_
      refine r_pure (.int .i64 y35) rfl ?_
      refine r_pure (.int .i64 y41) rfl ?_
      refine r_pure (.int .i64 v47) rfl ?_
      refine r_pure (.int .i64 v48) rfl ?_
      refine r_pure (.int .i64 v49) rfl ?_
      refine r_pure (.int .i64 v50) rfl ?_
      obtain ⟨⟨y52, y53, y54⟩, hy55, hm⟩ := bind_some hm
      refine r_callf Try.call35 (current_Tax_ok b25 (⟨o21.f_l⟩ : vintage_Losses) A26 o21.f_l.length c28 rfl (((H51).g2).cap) (fun _ H => (H.g2.rd)) (fun _ H => (H.g3)) y29 y35 y41 v47 v48 v49 v50 y52 y53 y54 H51 hy55) ?_
      rintro e57 wd56 (⟨hn61, A62, n63, c64, rfl, H59⟩ | ⟨o58, hn61, A65, n66, c67, b68, A69, n70, c71, rfl, H60⟩)
      · subst hn61
        obtain rfl := (H59.g0).leneq
        have hm : ((scutageref09_Tax (⟨y7.V⟩ : scutageref09_Losses) y29 y35 y41 v47 v48 v49 v50).bind fun (y77, y78, y79) => match y78 with | none => (if (y54 != y79) = true then scutagelaw15_CurrentTells.j2 o21 y7 true else ((scutagelaw15_Same y52 y77).bind fun y415 => (if (!y415) = true then scutagelaw15_CurrentTells.j2 o21 y7 true else scutagelaw15_CurrentTells.j2 o21 y7 (!(false == (y54 == 0)))))) | some o83 => (if (y54 != y79) = true then scutagelaw15_CurrentTells.j4 o21 y7 true else ((scutagelaw15_Same y52 y77).bind fun y740 => (if (!y740) = true then scutagelaw15_CurrentTells.j4 o21 y7 true else scutagelaw15_CurrentTells.j4 o21 y7 (!(false == (y54 == 0))))))) = some r0_ := hm
        refine ⟨_, rfl, ?_⟩
        refine r_pure (.tuple #[.agg #[.int .i64 y52.Income, .int .i64 y52.Expired, .int .i64 y52.Used, .int .i64 y52.New, .int .i64 y52.Taxable, .int .i64 y52.Tax, .slice A62 y52.Vector.length c64], .pointer none, .int .i64 y54]) rfl ?_
        refine r_pure (.agg #[.int .i64 y52.Income, .int .i64 y52.Expired, .int .i64 y52.Used, .int .i64 y52.New, .int .i64 y52.Taxable, .int .i64 y52.Tax, .slice A62 y52.Vector.length c64]) rfl ?_
        refine r_pure (.pointer none) rfl ?_
        refine r_pure (.int .i64 y54) rfl ?_
        refine r_alloc [.int .i64 0, .int .i64 0, .int .i64 0, .int .i64 0, .int .i64 0, .int .i64 0, .slice none 0 0] Try.zeroValue59 H59 rfl ?_
        intro b72 wd74 H73
        refine r_stA [.int .i64 y52.Income, .int .i64 y52.Expired, .int .i64 y52.Used, .int .i64 y52.New, .int .i64 y52.Taxable, .int .i64 y52.Tax, .slice A62 y52.Vector.length c64] LD59 rfl rfl rfl rfl H73 (Nat.le_of_ble_eq_true rfl) rfl ?_
        intro wd76 H75
        refine r_pure (.pointer none) rfl ?_
        refine r_pure (.int .i64 y54) rfl ?_
        refine r_seq ?_
        refine st_seq ?_
        refine st_region ?_
        refine r_pure (.pointer (some ⟨b13, 0, none⟩)) rfl ?_
        refine r_pure (.int .i64 y29) rfl ?_
        refine r_pure (.int .i64 y35) rfl ?_
        refine r_pure (.int .i64 y41) rfl ?_
        refine r_pure (.int .i64 v47) rfl ?_
        refine r_pure (.int .i64 v48) rfl ?_
        refine r_pure (.int .i64 v49) rfl ?_
        refine r_pure (.int .i64 v50) rfl ?_
        obtain ⟨⟨y77, y78, y79⟩, hy80, hm⟩ := bind_some hm
        refine r_callf Try.call41 (scutageref09_Tax_ok b13 (⟨y7.V⟩ : scutageref09_Losses) A14 y7.V.length c16 rfl (((H75).g2).cap) (fun _ H => (H.g2.rd)) (fun _ H => (H.g3)) y29 y35 y41 v47 v48 v49 v50 y77 y78 y79 H75 hy80) ?_
        rintro e82 wd81 (⟨hn86, A87, n88, c89, rfl, H84⟩ | ⟨o83, hn86, A90, n91, c92, b93, A94, n95, c96, rfl, H85⟩)
        · subst hn86
          obtain rfl := (H84.g0).leneq
          have hm : (if (y54 != y79) = true then scutagelaw15_CurrentTells.j2 o21 y7 true else ((scutagelaw15_Same y52 y77).bind fun y415 => (if (!y415) = true then scutagelaw15_CurrentTells.j2 o21 y7 true else scutagelaw15_CurrentTells.j2 o21 y7 (!(false == (y54 == 0)))))) = some r0_ := hm
          refine ⟨_, rfl, ?_⟩
          refine r_pure (.tuple #[.agg #[.int .i64 y77.Income, .int .i64 y77.Expired, .int .i64 y77.Used, .int .i64 y77.New, .int .i64 y77.Taxable, .int .i64 y77.Tax, .slice A87 y77.Vector.length c89], .pointer none, .int .i64 y79]) rfl ?_
          refine r_pure (.agg #[.int .i64 y77.Income, .int .i64 y77.Expired, .int .i64 y77.Used, .int .i64 y77.New, .int .i64 y77.Taxable, .int .i64 y77.Tax, .slice A87 y77.Vector.length c89]) rfl ?_
          refine r_pure (.pointer none) rfl ?_
          refine r_pure (.int .i64 y79) rfl ?_
          refine r_alloc [.int .i64 0, .int .i64 0, .int .i64 0, .int .i64 0, .int .i64 0, .int .i64 0, .slice none 0 0] Try.zeroValue69 H84 rfl ?_
          intro b97 wd99 H98
          refine r_stA [.int .i64 y77.Income, .int .i64 y77.Expired, .int .i64 y77.Used, .int .i64 y77.New, .int .i64 y77.Taxable, .int .i64 y77.Tax, .slice A87 y77.Vector.length c89] LD69 rfl rfl rfl rfl H98 (Nat.le_of_ble_eq_true rfl) rfl ?_
          intro wd101 H100
          refine r_pure (.pointer none) rfl ?_
          refine r_pure (.int .i64 y79) rfl ?_
          refine r_seq ?_
          refine st_seq ?_
          refine st_cut (fun ρ w => ∃ q102 : Bool, (∃ base, ρ = updl base [(19, .pointer (some ⟨b13, 0, none⟩)), (20, .pointer (some ⟨b25, 0, none⟩)), (22, .pointer none), (25, .pointer none), (91, .bool q102)]) ∧ Hp w0 (Row K38 (.slice A14 y7.V.length c16) y7.V :: Bx b13 28 [.slice A14 y7.V.length c16] :: Row K38 (.slice A26 o21.f_l.length c28) o21.f_l :: Bx b25 75 [.slice A26 o21.f_l.length c28] :: Γ) w ∧ scutagelaw15_CurrentTells.j2 o21 y7 q102 = some r0_) ?_ ?_
          · refine st_region ?_
            refine r_pure (.int .i64 y54) rfl ?_
            refine r_pure (.int .i64 y79) rfl ?_
            refine r_pure (.bool (y54 != y79)) rfl ?_
            refine r_pure (.bool (y54 != y79)) rfl ?_
            rcases ite_some hm with ⟨hb414, hm⟩ | ⟨hb414, hm⟩
            · refine r_not (wn_f rfl rfl (by decide) rfl hb414) ?_
              refine r_not (wn_f rfl rfl (by decide) rfl hb414) ?_
              refine r_not (wn_f rfl rfl (by decide) rfl hb414) ?_
              refine r_not (wn_f rfl rfl (by decide) rfl hb414) ?_
              refine r_pick_t (.bool true) hb414 rfl rfl ?_
              refine r_pure (.bool true) rfl ?_
              refine r_not (wn_f rfl rfl (by decide) rfl rfl) ?_
              refine r_not (wn_f rfl rfl (by decide) rfl rfl) ?_
              refine r_not (wn_f rfl rfl (by decide) rfl rfl) ?_
              refine r_not (wn_f rfl rfl (by decide) rfl rfl) ?_
              refine r_not (wn_f rfl rfl (by decide) rfl rfl) ?_
              refine r_pick_t (.bool true) rfl rfl rfl ?_
              refine r_nil ?_
              refine n_cut ⟨true, upk (ac rfl (ac rfl (ac rfl (ac rfl (ac rfl an))))), H100.d.d.d.d.u3.u3.u3.u3, hm⟩
            · refine r_ldA [.int .i64 y52.Income, .int .i64 y52.Expired, .int .i64 y52.Used, .int .i64 y52.New, .int .i64 y52.Taxable, .int .i64 y52.Tax, .slice A62 y52.Vector.length c64] LD59 rfl rfl ((H100.g2).cells rfl) ?_ (wn_t rfl rfl (by decide) rfl hb414)
              refine r_ldA [.int .i64 y77.Income, .int .i64 y77.Expired, .int .i64 y77.Used, .int .i64 y77.New, .int .i64 y77.Taxable, .int .i64 y77.Tax, .slice A87 y77.Vector.length c89] LD69 rfl rfl ((H100.g0).cells rfl) ?_ (wn_t rfl rfl (by decide) rfl hb414)
              obtain ⟨y415, hy416, hm⟩ := bind_some hm
              refine r_callf Try.call42 (scutagelaw15_Same_ok y52 A62 y52.Vector.length c64 rfl (((H100).g3).cap) (fun _ H => (H.g3.rd)) y77 A87 y77.Vector.length c89 rfl (((H100).g1).cap) (fun _ H => (H.g1.rd)) y415 H100 hy416) ?_ (wn_t rfl rfl (by decide) rfl hb414)
              rintro e418 wd417 ⟨rfl, H420⟩
              refine ⟨_, rfl, ?_⟩
              refine r_pure (.bool (!y415)) rfl ?_ (wn_t rfl rfl (by decide) rfl hb414)
              refine r_pick_f (.bool (!y415)) hb414 rfl rfl ?_
              refine r_pure (.bool (!y415)) rfl ?_
              rcases ite_some hm with ⟨hb421, hm⟩ | ⟨hb421, hm⟩
              · refine r_not (wn_f rfl rfl (by decide) rfl hb421) ?_
                refine r_not (wn_f rfl rfl (by decide) rfl hb421) ?_
                refine r_not (wn_f rfl rfl (by decide) rfl hb421) ?_
                refine r_not (wn_f rfl rfl (by decide) rfl hb421) ?_
                refine r_not (wn_f rfl rfl (by decide) rfl hb421) ?_
                refine r_pick_t (.bool true) hb421 rfl rfl ?_
                refine r_nil ?_
                refine n_cut ⟨true, upk (ac rfl (ac rfl (ac rfl (ac rfl (ac rfl an))))), H420.d.d.d.d.u3.u3.u3.u3, hm⟩
              · refine r_pure (.pointer none) rfl ?_ (wn_t rfl rfl (by decide) rfl hb421)
                refine r_nen Try.underlying23 rfl rfl ?_ (wn_t rfl rfl (by decide) rfl hb421)
                refine r_pure (.int .i64 y54) rfl ?_ (wn_t rfl rfl (by decide) rfl hb421)
                refine r_pure (.bool (y54 == 0)) rfl ?_ (wn_t rfl rfl (by decide) rfl hb421)
                refine r_neb Try.underlying4 rfl rfl ?_ (wn_t rfl rfl (by decide) rfl hb421)
                refine r_pick_f (.bool (!(false == (y54 == 0)))) hb421 rfl rfl ?_
                refine r_nil ?_
                refine n_cut ⟨!(false == (y54 == 0)), upk (ac rfl (ac rfl (ac rfl (ac rfl (ac rfl an))))), H420.d.d.d.d.u3.u3.u3.u3, hm⟩
          · rintro ρ w ⟨q102, ⟨base, rfl⟩, H103, hm⟩
            unfold scutagelaw15_CurrentTells.j2 at hm
            rcases ite_some hm with ⟨hb104, hm⟩ | ⟨hb104, hm⟩
            · refine st_condt hb104 rfl ?_
              refine st_seq ?_
              refine st_region ?_
              refine r_pure (.bool false) rfl ?_
              refine r_seq ?_
              have hq_ := Option.some.inj hm
              subst hq_
              refine st_ret1 rfl rfl (Nat.le_of_ble_eq_true rfl) rfl ?_
              exact ⟨rfl, H103.d.d.d.d⟩
            · refine st_condf hb104 rfl ?_
              refine st_skip ?_
              refine n_sq ?_
              refine st_cut (fun ρ w => ∃ q105 : Bool, (∃ base, ρ = updl base [(18, .bool q105)]) ∧ Hp w0 (Γ) w ∧ scutagelaw15_CurrentTells.j3 q105 = some r0_) ?_ ?_
              · obtain ⟨y108, hy109, hm⟩ := bind_some hm
                obtain ⟨y117, hy118, hm⟩ := bind_some hm
                rcases ite_some hm with ⟨hb123, hm⟩ | ⟨hb123, hm⟩
                · obtain ⟨y124, hy125, hm⟩ := bind_some hm
                  refine Flow.run' [[], [0], [0, 1], [0, 1, 2], [0, 1, 2, 3], [0, 1, 2], [0, 1, 2, 5], [0, 1, 2, 5, 6], [0, 1, 2, 5, 6, 7], [0, 1, 2, 3, 4, 5, 6, 7, 8], [0, 1, 2, 3, 4, 5, 6, 7, 8, 9], [0, 1, 2, 3, 4, 5, 6, 7, 8, 9, 10], [0, 1, 2, 3, 4, 5, 6, 7, 8, 9, 10, 11], [0, 1, 2, 3, 4, 5, 6, 7, 8, 9, 10, 11, 12], [0, 1, 2, 3, 4, 5, 6, 7, 8, 9, 10, 11], [0, 1, 2, 3, 4, 5, 6, 7, 8, 9, 10, 11, 14], [0, 1, 2, 3, 4, 5, 6, 7, 8, 9, 10, 11, 14, 15], [0, 1, 2, 3, 4, 5, 6, 7, 8, 9, 10, 11, 14, 15, 16], [0, 1, 2, 3, 4, 5, 6, 7, 8, 9, 10, 11, 12, 13, 14, 15, 16, 17], [0, 1, 2, 3, 4, 5, 6, 7, 8, 9, 10, 11, 12, 13, 14, 15, 16, 17, 18], [0, 1, 2, 3, 4, 5, 6, 7, 8, 9, 10, 11, 12, 13, 14, 15, 16, 17, 18, 19], [0, 1, 2, 3, 4, 5, 6, 7, 8, 9, 10, 11, 12, 13, 14, 15, 16, 17, 18, 19, 20], [0, 1, 2, 3, 4, 5, 6, 7, 8, 9, 10, 11, 12, 13, 14, 15, 16, 17, 18, 19, 20, 21], [0, 1, 2, 3, 4, 5, 6, 7, 8, 9, 10, 11, 12, 13, 14, 15, 16, 17, 18, 19, 20, 21, 22]] [(92, 0), (93, 1), (94, 2), (95, 3), (96, 4), (97, 5), (98, 6), (99, 7), (100, 8), (101, 9), (102, 10), (103, 11), (104, 12), (105, 13), (106, 14), (107, 15), (108, 16), (109, 17), (110, 18), (111, 19), (112, 20), (113, 21), (114, 22), (18, 23)] [(fun η107 v => v.1 = .pointer none), (fun η107 v => v.1 = .bool true), (fun η107 v => v.1 = .bool true), (fun η107 v => v.1 = undef), (fun η107 v => v.1 = undef), (fun η107 v => v.1 = undef), (fun η107 v => v.1 = undef), (fun η107 v => v.1 = undef), (fun η107 v => v.1 = undef), (fun η107 v => v.1 = undef), (fun η107 v => v.1 = .bool true), (fun η107 v => v.1 = .bool true), (fun η107 v => v.1 = .pointer (some ⟨b25, 0, none⟩)), (fun η107 v => v.1 = .slice (vA (v.1)) y108.length (vC (v.1))), (fun η107 v => v.1 = .pointer (some ⟨b13, 0, none⟩)), (fun η107 v => v.1 = .pointer (some ⟨b13, 0, none⟩)), (fun η107 v => v.1 = .pointer (some ⟨b13, 0, none⟩)), (fun η107 v => v.1 = .slice A14 y7.V.length c16), (fun η107 v => v.1 = .bool y117), (fun η107 v => v.1 = .bool y117), (fun η107 v => v.1 = .bool y117), (fun η107 v => v.1 = .bool y124), (fun η107 v => v.1 = .bool y124), (fun η107 v => v.1 = .bool y124)] [⟨(some 13), none, fun η107 => Row K38 (.slice (vA ((η107 13).1)) y108.length (vC ((η107 13).1))) y108⟩] rfl (by kernel_rfl) (by kernel_rfl) H103 ⟨?_, ?_, ?_, ?_, ?_, ?_, ?_, ?_, ?_, ?_, ?_, ?_, ?_, ?_, ?_, ?_, ?_, ?_, ?_, ?_, ?_, ?_, ?_, ?_, trivial⟩ ?_
                  · intro η107 wd133 Δ134 hE130 hR131 H132
                    have H132 : Hp w0 ((Δ134 ++ (Row K38 (.slice A14 y7.V.length c16) y7.V :: Bx b13 28 [.slice A14 y7.V.length c16] :: Row K38 (.slice A26 o21.f_l.length c28) o21.f_l :: Bx b25 75 [.slice A26 o21.f_l.length c28] :: Γ))) wd133 := H132
                    refine sp_op [(22, .pointer none)] (ac rfl an) ?_
                    refine r_pure (.pointer none) rfl ?_
                    exact r_nil (n_lp ⟨_, rfl, undef, rfl, H132⟩)
                  · intro η107 wd138 Δ139 hE135 hR136 H137
                    have H137 : Hp w0 ((Δ139 ++ (Row K38 (.slice A14 y7.V.length c16) y7.V :: Bx b13 28 [.slice A14 y7.V.length c16] :: Row K38 (.slice A26 o21.f_l.length c28) o21.f_l :: Bx b25 75 [.slice A26 o21.f_l.length c28] :: Γ))) wd138 := H137
                    refine sp_op [(92, .pointer none)] (ac (hE135 0 (by decide)) an) ?_
                    refine r_eqn Try.underlying23 rfl rfl ?_
                    exact r_nil (n_lp ⟨_, rfl, undef, rfl, H137⟩)
                  · intro η107 wd143 Δ144 hE140 hR141 H142
                    have H142 : Hp w0 ((Δ144 ++ (Row K38 (.slice A14 y7.V.length c16) y7.V :: Bx b13 28 [.slice A14 y7.V.length c16] :: Row K38 (.slice A26 o21.f_l.length c28) o21.f_l :: Bx b25 75 [.slice A26 o21.f_l.length c28] :: Γ))) wd143 := H142
                    refine sp_op [(93, .bool true)] (ac (hE140 1 (by decide)) an) ?_
                    refine r_pure (.bool true) rfl ?_
                    exact r_nil (n_lp ⟨_, rfl, undef, rfl, H142⟩)
                  · intro η107 wd148 Δ149 hE145 hR146 H147
                    have H147 : Hp w0 ((Δ149 ++ (Row K38 (.slice A14 y7.V.length c16) y7.V :: Bx b13 28 [.slice A14 y7.V.length c16] :: Row K38 (.slice A26 o21.f_l.length c28) o21.f_l :: Bx b25 75 [.slice A26 o21.f_l.length c28] :: Γ))) wd148 := H147
                    refine sp_op [(22, .pointer none), (94, .bool true)] (ac rfl (ac (hE145 2 (by decide)) an)) ?_
                    refine r_not (wn_f rfl rfl (by decide) rfl rfl) ?_
                    exact r_nil (n_lp ⟨_, rfl, undef, rfl, H147⟩)
                  · intro η107 wd153 Δ154 hE150 hR151 H152
                    have H152 : Hp w0 ((Δ154 ++ (Row K38 (.slice A14 y7.V.length c16) y7.V :: Bx b13 28 [.slice A14 y7.V.length c16] :: Row K38 (.slice A26 o21.f_l.length c28) o21.f_l :: Bx b25 75 [.slice A26 o21.f_l.length c28] :: Γ))) wd153 := H152
                    refine sp_op [(94, .bool true), (95, undef)] (ac (hE150 2 (by decide)) (ac (hE150 3 (by decide)) an)) ?_
                    refine r_not (wn_f rfl rfl (by decide) rfl rfl) ?_
                    exact r_nil (n_lp ⟨_, rfl, undef, rfl, H152⟩)
                  · intro η107 wd158 Δ159 hE155 hR156 H157
                    have H157 : Hp w0 ((Δ159 ++ (Row K38 (.slice A14 y7.V.length c16) y7.V :: Bx b13 28 [.slice A14 y7.V.length c16] :: Row K38 (.slice A26 o21.f_l.length c28) o21.f_l :: Bx b25 75 [.slice A26 o21.f_l.length c28] :: Γ))) wd158 := H157
                    refine sp_op [(25, .pointer none), (94, .bool true)] (ac rfl (ac (hE155 2 (by decide)) an)) ?_
                    refine r_not (wn_f rfl rfl (by decide) rfl rfl) ?_
                    exact r_nil (n_lp ⟨_, rfl, undef, rfl, H157⟩)
                  · intro η107 wd163 Δ164 hE160 hR161 H162
                    have H162 : Hp w0 ((Δ164 ++ (Row K38 (.slice A14 y7.V.length c16) y7.V :: Bx b13 28 [.slice A14 y7.V.length c16] :: Row K38 (.slice A26 o21.f_l.length c28) o21.f_l :: Bx b25 75 [.slice A26 o21.f_l.length c28] :: Γ))) wd163 := H162
                    refine sp_op [(94, .bool true), (97, undef)] (ac (hE160 2 (by decide)) (ac (hE160 5 (by decide)) an)) ?_
                    refine r_not (wn_f rfl rfl (by decide) rfl rfl) ?_
                    exact r_nil (n_lp ⟨_, rfl, undef, rfl, H162⟩)
                  · intro η107 wd168 Δ169 hE165 hR166 H167
                    have H167 : Hp w0 ((Δ169 ++ (Row K38 (.slice A14 y7.V.length c16) y7.V :: Bx b13 28 [.slice A14 y7.V.length c16] :: Row K38 (.slice A26 o21.f_l.length c28) o21.f_l :: Bx b25 75 [.slice A26 o21.f_l.length c28] :: Γ))) wd168 := H167
                    refine sp_op [(94, .bool true), (98, undef)] (ac (hE165 2 (by decide)) (ac (hE165 6 (by decide)) an)) ?_
                    refine r_not (wn_f rfl rfl (by decide) rfl rfl) ?_
                    exact r_nil (n_lp ⟨_, rfl, undef, rfl, H167⟩)
                  · intro η107 wd173 Δ174 hE170 hR171 H172
                    have H172 : Hp w0 ((Δ174 ++ (Row K38 (.slice A14 y7.V.length c16) y7.V :: Bx b13 28 [.slice A14 y7.V.length c16] :: Row K38 (.slice A26 o21.f_l.length c28) o21.f_l :: Bx b25 75 [.slice A26 o21.f_l.length c28] :: Γ))) wd173 := H172
                    refine sp_op [(94, .bool true), (99, undef)] (ac (hE170 2 (by decide)) (ac (hE170 7 (by decide)) an)) ?_
                    refine r_not (wn_f rfl rfl (by decide) rfl rfl) ?_
                    exact r_nil (n_lp ⟨_, rfl, undef, rfl, H172⟩)
                  · intro η107 wd178 Δ179 hE175 hR176 H177
                    have H177 : Hp w0 ((Δ179 ++ (Row K38 (.slice A14 y7.V.length c16) y7.V :: Bx b13 28 [.slice A14 y7.V.length c16] :: Row K38 (.slice A26 o21.f_l.length c28) o21.f_l :: Bx b25 75 [.slice A26 o21.f_l.length c28] :: Γ))) wd178 := H177
                    refine sp_op [(94, .bool true), (96, undef), (100, undef)] (ac (hE175 2 (by decide)) (ac (hE175 4 (by decide)) (ac (hE175 8 (by decide)) an))) ?_
                    refine r_not (wn_f rfl rfl (by decide) rfl rfl) ?_
                    exact r_nil (n_lp ⟨_, rfl, undef, rfl, H177⟩)
                  · intro η107 wd183 Δ184 hE180 hR181 H182
                    have H182 : Hp w0 ((Δ184 ++ (Row K38 (.slice A14 y7.V.length c16) y7.V :: Bx b13 28 [.slice A14 y7.V.length c16] :: Row K38 (.slice A26 o21.f_l.length c28) o21.f_l :: Bx b25 75 [.slice A26 o21.f_l.length c28] :: Γ))) wd183 := H182
                    refine sp_op [(94, .bool true), (101, undef)] (ac (hE180 2 (by decide)) (ac (hE180 9 (by decide)) an)) ?_
                    refine r_pick_t (.bool true) rfl rfl rfl ?_
                    exact r_nil (n_lp ⟨_, rfl, undef, rfl, H182⟩)
                  · intro η107 wd188 Δ189 hE185 hR186 H187
                    have H187 : Hp w0 ((Δ189 ++ (Row K38 (.slice A14 y7.V.length c16) y7.V :: Bx b13 28 [.slice A14 y7.V.length c16] :: Row K38 (.slice A26 o21.f_l.length c28) o21.f_l :: Bx b25 75 [.slice A26 o21.f_l.length c28] :: Γ))) wd188 := H187
                    refine sp_op [(102, .bool true)] (ac (hE185 10 (by decide)) an) ?_
                    refine r_pure (.bool true) rfl ?_
                    exact r_nil (n_lp ⟨_, rfl, undef, rfl, H187⟩)
                  · intro η107 wd193 Δ194 hE190 hR191 H192
                    have H192 : Hp w0 ((Δ194 ++ (Row K38 (.slice A14 y7.V.length c16) y7.V :: Bx b13 28 [.slice A14 y7.V.length c16] :: Row K38 (.slice A26 o21.f_l.length c28) o21.f_l :: Bx b25 75 [.slice A26 o21.f_l.length c28] :: Γ))) wd193 := H192
                    refine sp_op [(20, .pointer (some ⟨b25, 0, none⟩)), (103, .bool true)] (ac rfl (ac (hE190 11 (by decide)) an)) ?_
                    refine r_pure (.pointer (some ⟨b25, 0, none⟩)) rfl ?_ (wn_t rfl rfl (by decide) rfl rfl)
                    exact r_nil (n_lp ⟨_, rfl, undef, rfl, H192⟩)
                  · intro η107 wd198 Δ199 hE195 hR196 H197
                    have H197 : Hp w0 ((Δ199 ++ (Row K38 (.slice A14 y7.V.length c16) y7.V :: Bx b13 28 [.slice A14 y7.V.length c16] :: Row K38 (.slice A26 o21.f_l.length c28) o21.f_l :: Bx b25 75 [.slice A26 o21.f_l.length c28] :: Γ))) wd198 := H197
                    refine sp_op [(103, .bool true), (104, .pointer (some ⟨b25, 0, none⟩))] (ac (hE195 11 (by decide)) (ac (hE195 12 (by decide)) an)) ?_
                    refine r_callf Try.call22 (vintage_Losses_Rows_ok b25 (⟨o21.f_l⟩ : vintage_Losses) A26 o21.f_l.length c28 rfl ((((H197)).tl.g2).cap) (fun _ H => ((H).tl.g2.rd)) (fun _ H => ((H).tl.g3)) y108 H197 hy109) ?_ (wn_t rfl rfl (by decide) rfl rfl)
                    rintro e203 wd202 ⟨A206, n207, c208, rfl, H205⟩
                    obtain rfl := (H205.g0).leneq
                    refine ⟨_, rfl, ?_⟩
                    exact r_nil (n_lp ⟨_, rfl, (.tuple #[.slice A206 y108.length c208]), rfl, H205⟩)
                  · intro η107 wd212 Δ213 hE209 hR210 H211
                    have H211 : Hp w0 ((Δ213 ++ (Row K38 (.slice A14 y7.V.length c16) y7.V :: Bx b13 28 [.slice A14 y7.V.length c16] :: Row K38 (.slice A26 o21.f_l.length c28) o21.f_l :: Bx b25 75 [.slice A26 o21.f_l.length c28] :: Γ))) wd212 := H211
                    refine sp_op [(19, .pointer (some ⟨b13, 0, none⟩)), (103, .bool true)] (ac rfl (ac (hE209 11 (by decide)) an)) ?_
                    refine r_pure (.pointer (some ⟨b13, 0, none⟩)) rfl ?_ (wn_t rfl rfl (by decide) rfl rfl)
                    exact r_nil (n_lp ⟨_, rfl, undef, rfl, H211⟩)
                  · intro η107 wd217 Δ218 hE214 hR215 H216
                    have H216 : Hp w0 ((Δ218 ++ (Row K38 (.slice A14 y7.V.length c16) y7.V :: Bx b13 28 [.slice A14 y7.V.length c16] :: Row K38 (.slice A26 o21.f_l.length c28) o21.f_l :: Bx b25 75 [.slice A26 o21.f_l.length c28] :: Γ))) wd217 := H216
                    refine sp_op [(103, .bool true), (106, .pointer (some ⟨b13, 0, none⟩))] (ac (hE214 11 (by decide)) (ac (hE214 14 (by decide)) an)) ?_
                    refine r_pure (.pointer (some ⟨b13, 0, none⟩)) rfl ?_ (wn_t rfl rfl (by decide) rfl rfl)
                    exact r_nil (n_lp ⟨_, rfl, undef, rfl, H216⟩)
                  · intro η107 wd222 Δ223 hE219 hR220 H221
                    have H221 : Hp w0 ((Δ223 ++ (Row K38 (.slice A14 y7.V.length c16) y7.V :: Bx b13 28 [.slice A14 y7.V.length c16] :: Row K38 (.slice A26 o21.f_l.length c28) o21.f_l :: Bx b25 75 [.slice A26 o21.f_l.length c28] :: Γ))) wd222 := H221
                    refine sp_op [(103, .bool true), (107, .pointer (some ⟨b13, 0, none⟩))] (ac (hE219 11 (by decide)) (ac (hE219 15 (by decide)) an)) ?_
                    refine r_fa FA28_0 ⟨b13, 0, none⟩ rfl rfl ?_ (wn_t rfl rfl (by decide) rfl rfl)
                    exact r_nil (n_lp ⟨_, rfl, undef, rfl, H221⟩)
                  · intro η107 wd227 Δ228 hE224 hR225 H226
                    have H226 : Hp w0 ((Δ228 ++ (Row K38 (.slice A14 y7.V.length c16) y7.V :: Bx b13 28 [.slice A14 y7.V.length c16] :: Row K38 (.slice A26 o21.f_l.length c28) o21.f_l :: Bx b25 75 [.slice A26 o21.f_l.length c28] :: Γ))) wd227 := H226
                    refine sp_op [(103, .bool true), (108, .pointer (some ⟨b13, 0, none⟩))] (ac (hE224 11 (by decide)) (ac (hE224 16 (by decide)) an)) ?_
                    refine r_ld1 (.slice A14 y7.V.length c16) LD26 rfl (((H226).tl.g1).cell _ rfl) ?_ (wn_t rfl rfl (by decide) rfl rfl)
                    exact r_nil (n_lp ⟨_, rfl, undef, rfl, H226⟩)
                  · intro η107 wd232 Δ233 hE229 hR230 H231
                    have H231 : Hp w0 ((Δ233 ++ (Row K38 (.slice A14 y7.V.length c16) y7.V :: Bx b13 28 [.slice A14 y7.V.length c16] :: Row K38 (.slice A26 o21.f_l.length c28) o21.f_l :: Bx b25 75 [.slice A26 o21.f_l.length c28] :: Γ))) wd232 := H231
                    refine sp_op [(103, .bool true), (105, .slice (vA ((η107 13).1)) y108.length (vC ((η107 13).1))), (109, .slice A14 y7.V.length c16)] (ac (hE229 11 (by decide)) (ac (hE229 13 (by decide)) (ac (hE229 17 (by decide)) an))) ?_
                    refine r_callf Try.call21 (scutagekeep_Same_api_Vintage_ok y108 (vA ((η107 13).1)) y108.length (vC ((η107 13).1)) rfl (((show (Row K38 (.slice (vA ((η107 13).1)) y108.length (vC ((η107 13).1))) y108) _ from ((H231)).memr (hR230 _ (List.mem_of_getElem? (i := 0) rfl) rfl))).cap) (fun _ H => ((show (Row K38 (.slice (vA ((η107 13).1)) y108.length (vC ((η107 13).1))) y108) _ from (H).memr (hR230 _ (List.mem_of_getElem? (i := 0) rfl) rfl)).rd)) y7.V A14 y7.V.length c16 rfl ((((H231)).tl.g0).cap) (fun _ H => ((H).tl.g0.rd)) y117 H231 hy118) ?_ (wn_t rfl rfl (by decide) rfl rfl)
                    rintro e237 wd236 ⟨rfl, H239⟩
                    refine ⟨_, rfl, ?_⟩
                    exact r_nil (n_lp ⟨_, rfl, undef, rfl, H239⟩)
                  · intro η107 wd243 Δ244 hE240 hR241 H242
                    have H242 : Hp w0 ((Δ244 ++ (Row K38 (.slice A14 y7.V.length c16) y7.V :: Bx b13 28 [.slice A14 y7.V.length c16] :: Row K38 (.slice A26 o21.f_l.length c28) o21.f_l :: Bx b25 75 [.slice A26 o21.f_l.length c28] :: Γ))) wd243 := H242
                    refine sp_op [(103, .bool true), (110, .bool y117)] (ac (hE240 11 (by decide)) (ac (hE240 18 (by decide)) an)) ?_
                    refine r_pick_t (.bool y117) rfl rfl rfl ?_
                    exact r_nil (n_lp ⟨_, rfl, undef, rfl, H242⟩)
                  · intro η107 wd248 Δ249 hE245 hR246 H247
                    have H247 : Hp w0 ((Δ249 ++ (Row K38 (.slice A14 y7.V.length c16) y7.V :: Bx b13 28 [.slice A14 y7.V.length c16] :: Row K38 (.slice A26 o21.f_l.length c28) o21.f_l :: Bx b25 75 [.slice A26 o21.f_l.length c28] :: Γ))) wd248 := H247
                    refine sp_op [(111, .bool y117)] (ac (hE245 19 (by decide)) an) ?_
                    refine r_pure (.bool y117) rfl ?_
                    exact r_nil (n_lp ⟨_, rfl, undef, rfl, H247⟩)
                  · intro η107 wd253 Δ254 hE250 hR251 H252
                    have H252 : Hp w0 ((Δ254 ++ (Row K38 (.slice A14 y7.V.length c16) y7.V :: Bx b13 28 [.slice A14 y7.V.length c16] :: Row K38 (.slice A26 o21.f_l.length c28) o21.f_l :: Bx b25 75 [.slice A26 o21.f_l.length c28] :: Γ))) wd253 := H252
                    refine sp_op [(112, .bool y117)] (ac (hE250 20 (by decide)) an) ?_
                    refine r_callf Try.call36 (scutagelaw15_wakes_ok  y124 H252 hy125) ?_ (wn_t rfl rfl (by decide) rfl hb123)
                    rintro e258 wd257 ⟨rfl, H260⟩
                    refine ⟨_, rfl, ?_⟩
                    exact r_nil (n_lp ⟨_, rfl, undef, rfl, H260⟩)
                  · intro η107 wd264 Δ265 hE261 hR262 H263
                    have H263 : Hp w0 ((Δ265 ++ (Row K38 (.slice A14 y7.V.length c16) y7.V :: Bx b13 28 [.slice A14 y7.V.length c16] :: Row K38 (.slice A26 o21.f_l.length c28) o21.f_l :: Bx b25 75 [.slice A26 o21.f_l.length c28] :: Γ))) wd264 := H263
                    refine sp_op [(112, .bool y117), (113, .bool y124)] (ac (hE261 20 (by decide)) (ac (hE261 21 (by decide)) an)) ?_
                    refine r_pick_t (.bool y124) hb123 rfl rfl ?_
                    exact r_nil (n_lp ⟨_, rfl, undef, rfl, H263⟩)
                  · intro η107 wd269 Δ270 hE266 hR267 H268
                    have H268 : Hp w0 ((Δ270 ++ (Row K38 (.slice A14 y7.V.length c16) y7.V :: Bx b13 28 [.slice A14 y7.V.length c16] :: Row K38 (.slice A26 o21.f_l.length c28) o21.f_l :: Bx b25 75 [.slice A26 o21.f_l.length c28] :: Γ))) wd269 := H268
                    refine sp_op [(114, .bool y124)] (ac (hE266 22 (by decide)) an) ?_
                    refine r_pure (.bool y124) rfl ?_
                    exact r_nil (n_lp ⟨_, rfl, undef, rfl, H268⟩)
                  · intro η107 wd272 hV273 H271
                    have H274 : Hp w0 (Row K38 (.slice (vA ((η107 13).1)) y108.length (vC ((η107 13).1))) y108 :: Row K38 (.slice A14 y7.V.length c16) y7.V :: Bx b13 28 [.slice A14 y7.V.length c16] :: Row K38 (.slice A26 o21.f_l.length c28) o21.f_l :: Bx b25 75 [.slice A26 o21.f_l.length c28] :: Γ) wd272 := H271
                    refine n_frame [(18, .bool y124)] (ac (hV273 23 rfl) an) ?_
                    refine n_cut ⟨y124, upk (ac rfl an), H274.d.d.d.d.d, hm⟩
                · refine Flow.run' [[], [0], [0, 1], [0, 1, 2], [0, 1, 2, 3], [0, 1, 2], [0, 1, 2, 5], [0, 1, 2, 5, 6], [0, 1, 2, 5, 6, 7], [0, 1, 2, 3, 4, 5, 6, 7, 8], [0, 1, 2, 3, 4, 5, 6, 7, 8, 9], [0, 1, 2, 3, 4, 5, 6, 7, 8, 9, 10], [0, 1, 2, 3, 4, 5, 6, 7, 8, 9, 10, 11], [0, 1, 2, 3, 4, 5, 6, 7, 8, 9, 10, 11, 12], [0, 1, 2, 3, 4, 5, 6, 7, 8, 9, 10, 11], [0, 1, 2, 3, 4, 5, 6, 7, 8, 9, 10, 11, 14], [0, 1, 2, 3, 4, 5, 6, 7, 8, 9, 10, 11, 14, 15], [0, 1, 2, 3, 4, 5, 6, 7, 8, 9, 10, 11, 14, 15, 16], [0, 1, 2, 3, 4, 5, 6, 7, 8, 9, 10, 11, 12, 13, 14, 15, 16, 17], [0, 1, 2, 3, 4, 5, 6, 7, 8, 9, 10, 11, 12, 13, 14, 15, 16, 17, 18], [0, 1, 2, 3, 4, 5, 6, 7, 8, 9, 10, 11, 12, 13, 14, 15, 16, 17, 18, 19], [0, 1, 2, 3, 4, 5, 6, 7, 8, 9, 10, 11, 12, 13, 14, 15, 16, 17, 18, 19, 20], [0, 1, 2, 3, 4, 5, 6, 7, 8, 9, 10, 11, 12, 13, 14, 15, 16, 17, 18, 19, 20, 21], [0, 1, 2, 3, 4, 5, 6, 7, 8, 9, 10, 11, 12, 13, 14, 15, 16, 17, 18, 19, 20, 21, 22]] [(92, 0), (93, 1), (94, 2), (95, 3), (96, 4), (97, 5), (98, 6), (99, 7), (100, 8), (101, 9), (102, 10), (103, 11), (104, 12), (105, 13), (106, 14), (107, 15), (108, 16), (109, 17), (110, 18), (111, 19), (112, 20), (113, 21), (114, 22), (18, 23)] [(fun η107 v => v.1 = .pointer none), (fun η107 v => v.1 = .bool true), (fun η107 v => v.1 = .bool true), (fun η107 v => v.1 = undef), (fun η107 v => v.1 = undef), (fun η107 v => v.1 = undef), (fun η107 v => v.1 = undef), (fun η107 v => v.1 = undef), (fun η107 v => v.1 = undef), (fun η107 v => v.1 = undef), (fun η107 v => v.1 = .bool true), (fun η107 v => v.1 = .bool true), (fun η107 v => v.1 = .pointer (some ⟨b25, 0, none⟩)), (fun η107 v => v.1 = .slice (vA (v.1)) y108.length (vC (v.1))), (fun η107 v => v.1 = .pointer (some ⟨b13, 0, none⟩)), (fun η107 v => v.1 = .pointer (some ⟨b13, 0, none⟩)), (fun η107 v => v.1 = .pointer (some ⟨b13, 0, none⟩)), (fun η107 v => v.1 = .slice A14 y7.V.length c16), (fun η107 v => v.1 = .bool y117), (fun η107 v => v.1 = .bool y117), (fun η107 v => v.1 = .bool y117), (fun η107 v => v.1 = undef), (fun η107 v => v.1 = .bool false), (fun η107 v => v.1 = .bool false)] [⟨(some 13), none, fun η107 => Row K38 (.slice (vA ((η107 13).1)) y108.length (vC ((η107 13).1))) y108⟩] rfl (by kernel_rfl) (by kernel_rfl) H103 ⟨?_, ?_, ?_, ?_, ?_, ?_, ?_, ?_, ?_, ?_, ?_, ?_, ?_, ?_, ?_, ?_, ?_, ?_, ?_, ?_, ?_, ?_, ?_, ?_, trivial⟩ ?_
                  · intro η107 wd278 Δ279 hE275 hR276 H277
                    have H277 : Hp w0 ((Δ279 ++ (Row K38 (.slice A14 y7.V.length c16) y7.V :: Bx b13 28 [.slice A14 y7.V.length c16] :: Row K38 (.slice A26 o21.f_l.length c28) o21.f_l :: Bx b25 75 [.slice A26 o21.f_l.length c28] :: Γ))) wd278 := H277
                    refine sp_op [(22, .pointer none)] (ac rfl an) ?_
                    refine r_pure (.pointer none) rfl ?_
                    exact r_nil (n_lp ⟨_, rfl, undef, rfl, H277⟩)
                  · intro η107 wd283 Δ284 hE280 hR281 H282
                    have H282 : Hp w0 ((Δ284 ++ (Row K38 (.slice A14 y7.V.length c16) y7.V :: Bx b13 28 [.slice A14 y7.V.length c16] :: Row K38 (.slice A26 o21.f_l.length c28) o21.f_l :: Bx b25 75 [.slice A26 o21.f_l.length c28] :: Γ))) wd283 := H282
                    refine sp_op [(92, .pointer none)] (ac (hE280 0 (by decide)) an) ?_
                    refine r_eqn Try.underlying23 rfl rfl ?_
                    exact r_nil (n_lp ⟨_, rfl, undef, rfl, H282⟩)
                  · intro η107 wd288 Δ289 hE285 hR286 H287
                    have H287 : Hp w0 ((Δ289 ++ (Row K38 (.slice A14 y7.V.length c16) y7.V :: Bx b13 28 [.slice A14 y7.V.length c16] :: Row K38 (.slice A26 o21.f_l.length c28) o21.f_l :: Bx b25 75 [.slice A26 o21.f_l.length c28] :: Γ))) wd288 := H287
                    refine sp_op [(93, .bool true)] (ac (hE285 1 (by decide)) an) ?_
                    refine r_pure (.bool true) rfl ?_
                    exact r_nil (n_lp ⟨_, rfl, undef, rfl, H287⟩)
                  · intro η107 wd293 Δ294 hE290 hR291 H292
                    have H292 : Hp w0 ((Δ294 ++ (Row K38 (.slice A14 y7.V.length c16) y7.V :: Bx b13 28 [.slice A14 y7.V.length c16] :: Row K38 (.slice A26 o21.f_l.length c28) o21.f_l :: Bx b25 75 [.slice A26 o21.f_l.length c28] :: Γ))) wd293 := H292
                    refine sp_op [(22, .pointer none), (94, .bool true)] (ac rfl (ac (hE290 2 (by decide)) an)) ?_
                    refine r_not (wn_f rfl rfl (by decide) rfl rfl) ?_
                    exact r_nil (n_lp ⟨_, rfl, undef, rfl, H292⟩)
                  · intro η107 wd298 Δ299 hE295 hR296 H297
                    have H297 : Hp w0 ((Δ299 ++ (Row K38 (.slice A14 y7.V.length c16) y7.V :: Bx b13 28 [.slice A14 y7.V.length c16] :: Row K38 (.slice A26 o21.f_l.length c28) o21.f_l :: Bx b25 75 [.slice A26 o21.f_l.length c28] :: Γ))) wd298 := H297
                    refine sp_op [(94, .bool true), (95, undef)] (ac (hE295 2 (by decide)) (ac (hE295 3 (by decide)) an)) ?_
                    refine r_not (wn_f rfl rfl (by decide) rfl rfl) ?_
                    exact r_nil (n_lp ⟨_, rfl, undef, rfl, H297⟩)
                  · intro η107 wd303 Δ304 hE300 hR301 H302
                    have H302 : Hp w0 ((Δ304 ++ (Row K38 (.slice A14 y7.V.length c16) y7.V :: Bx b13 28 [.slice A14 y7.V.length c16] :: Row K38 (.slice A26 o21.f_l.length c28) o21.f_l :: Bx b25 75 [.slice A26 o21.f_l.length c28] :: Γ))) wd303 := H302
                    refine sp_op [(25, .pointer none), (94, .bool true)] (ac rfl (ac (hE300 2 (by decide)) an)) ?_
                    refine r_not (wn_f rfl rfl (by decide) rfl rfl) ?_
                    exact r_nil (n_lp ⟨_, rfl, undef, rfl, H302⟩)
                  · intro η107 wd308 Δ309 hE305 hR306 H307
                    have H307 : Hp w0 ((Δ309 ++ (Row K38 (.slice A14 y7.V.length c16) y7.V :: Bx b13 28 [.slice A14 y7.V.length c16] :: Row K38 (.slice A26 o21.f_l.length c28) o21.f_l :: Bx b25 75 [.slice A26 o21.f_l.length c28] :: Γ))) wd308 := H307
                    refine sp_op [(94, .bool true), (97, undef)] (ac (hE305 2 (by decide)) (ac (hE305 5 (by decide)) an)) ?_
                    refine r_not (wn_f rfl rfl (by decide) rfl rfl) ?_
                    exact r_nil (n_lp ⟨_, rfl, undef, rfl, H307⟩)
                  · intro η107 wd313 Δ314 hE310 hR311 H312
                    have H312 : Hp w0 ((Δ314 ++ (Row K38 (.slice A14 y7.V.length c16) y7.V :: Bx b13 28 [.slice A14 y7.V.length c16] :: Row K38 (.slice A26 o21.f_l.length c28) o21.f_l :: Bx b25 75 [.slice A26 o21.f_l.length c28] :: Γ))) wd313 := H312
                    refine sp_op [(94, .bool true), (98, undef)] (ac (hE310 2 (by decide)) (ac (hE310 6 (by decide)) an)) ?_
                    refine r_not (wn_f rfl rfl (by decide) rfl rfl) ?_
                    exact r_nil (n_lp ⟨_, rfl, undef, rfl, H312⟩)
                  · intro η107 wd318 Δ319 hE315 hR316 H317
                    have H317 : Hp w0 ((Δ319 ++ (Row K38 (.slice A14 y7.V.length c16) y7.V :: Bx b13 28 [.slice A14 y7.V.length c16] :: Row K38 (.slice A26 o21.f_l.length c28) o21.f_l :: Bx b25 75 [.slice A26 o21.f_l.length c28] :: Γ))) wd318 := H317
                    refine sp_op [(94, .bool true), (99, undef)] (ac (hE315 2 (by decide)) (ac (hE315 7 (by decide)) an)) ?_
                    refine r_not (wn_f rfl rfl (by decide) rfl rfl) ?_
                    exact r_nil (n_lp ⟨_, rfl, undef, rfl, H317⟩)
                  · intro η107 wd323 Δ324 hE320 hR321 H322
                    have H322 : Hp w0 ((Δ324 ++ (Row K38 (.slice A14 y7.V.length c16) y7.V :: Bx b13 28 [.slice A14 y7.V.length c16] :: Row K38 (.slice A26 o21.f_l.length c28) o21.f_l :: Bx b25 75 [.slice A26 o21.f_l.length c28] :: Γ))) wd323 := H322
                    refine sp_op [(94, .bool true), (96, undef), (100, undef)] (ac (hE320 2 (by decide)) (ac (hE320 4 (by decide)) (ac (hE320 8 (by decide)) an))) ?_
                    refine r_not (wn_f rfl rfl (by decide) rfl rfl) ?_
                    exact r_nil (n_lp ⟨_, rfl, undef, rfl, H322⟩)
                  · intro η107 wd328 Δ329 hE325 hR326 H327
                    have H327 : Hp w0 ((Δ329 ++ (Row K38 (.slice A14 y7.V.length c16) y7.V :: Bx b13 28 [.slice A14 y7.V.length c16] :: Row K38 (.slice A26 o21.f_l.length c28) o21.f_l :: Bx b25 75 [.slice A26 o21.f_l.length c28] :: Γ))) wd328 := H327
                    refine sp_op [(94, .bool true), (101, undef)] (ac (hE325 2 (by decide)) (ac (hE325 9 (by decide)) an)) ?_
                    refine r_pick_t (.bool true) rfl rfl rfl ?_
                    exact r_nil (n_lp ⟨_, rfl, undef, rfl, H327⟩)
                  · intro η107 wd333 Δ334 hE330 hR331 H332
                    have H332 : Hp w0 ((Δ334 ++ (Row K38 (.slice A14 y7.V.length c16) y7.V :: Bx b13 28 [.slice A14 y7.V.length c16] :: Row K38 (.slice A26 o21.f_l.length c28) o21.f_l :: Bx b25 75 [.slice A26 o21.f_l.length c28] :: Γ))) wd333 := H332
                    refine sp_op [(102, .bool true)] (ac (hE330 10 (by decide)) an) ?_
                    refine r_pure (.bool true) rfl ?_
                    exact r_nil (n_lp ⟨_, rfl, undef, rfl, H332⟩)
                  · intro η107 wd338 Δ339 hE335 hR336 H337
                    have H337 : Hp w0 ((Δ339 ++ (Row K38 (.slice A14 y7.V.length c16) y7.V :: Bx b13 28 [.slice A14 y7.V.length c16] :: Row K38 (.slice A26 o21.f_l.length c28) o21.f_l :: Bx b25 75 [.slice A26 o21.f_l.length c28] :: Γ))) wd338 := H337
                    refine sp_op [(20, .pointer (some ⟨b25, 0, none⟩)), (103, .bool true)] (ac rfl (ac (hE335 11 (by decide)) an)) ?_
                    refine r_pure (.pointer (some ⟨b25, 0, none⟩)) rfl ?_ (wn_t rfl rfl (by decide) rfl rfl)
                    exact r_nil (n_lp ⟨_, rfl, undef, rfl, H337⟩)
                  · intro η107 wd343 Δ344 hE340 hR341 H342
                    have H342 : Hp w0 ((Δ344 ++ (Row K38 (.slice A14 y7.V.length c16) y7.V :: Bx b13 28 [.slice A14 y7.V.length c16] :: Row K38 (.slice A26 o21.f_l.length c28) o21.f_l :: Bx b25 75 [.slice A26 o21.f_l.length c28] :: Γ))) wd343 := H342
                    refine sp_op [(103, .bool true), (104, .pointer (some ⟨b25, 0, none⟩))] (ac (hE340 11 (by decide)) (ac (hE340 12 (by decide)) an)) ?_
                    refine r_callf Try.call22 (vintage_Losses_Rows_ok b25 (⟨o21.f_l⟩ : vintage_Losses) A26 o21.f_l.length c28 rfl ((((H342)).tl.g2).cap) (fun _ H => ((H).tl.g2.rd)) (fun _ H => ((H).tl.g3)) y108 H342 hy109) ?_ (wn_t rfl rfl (by decide) rfl rfl)
                    rintro e348 wd347 ⟨A351, n352, c353, rfl, H350⟩
                    obtain rfl := (H350.g0).leneq
                    refine ⟨_, rfl, ?_⟩
                    exact r_nil (n_lp ⟨_, rfl, (.tuple #[.slice A351 y108.length c353]), rfl, H350⟩)
                  · intro η107 wd357 Δ358 hE354 hR355 H356
                    have H356 : Hp w0 ((Δ358 ++ (Row K38 (.slice A14 y7.V.length c16) y7.V :: Bx b13 28 [.slice A14 y7.V.length c16] :: Row K38 (.slice A26 o21.f_l.length c28) o21.f_l :: Bx b25 75 [.slice A26 o21.f_l.length c28] :: Γ))) wd357 := H356
                    refine sp_op [(19, .pointer (some ⟨b13, 0, none⟩)), (103, .bool true)] (ac rfl (ac (hE354 11 (by decide)) an)) ?_
                    refine r_pure (.pointer (some ⟨b13, 0, none⟩)) rfl ?_ (wn_t rfl rfl (by decide) rfl rfl)
                    exact r_nil (n_lp ⟨_, rfl, undef, rfl, H356⟩)
                  · intro η107 wd362 Δ363 hE359 hR360 H361
                    have H361 : Hp w0 ((Δ363 ++ (Row K38 (.slice A14 y7.V.length c16) y7.V :: Bx b13 28 [.slice A14 y7.V.length c16] :: Row K38 (.slice A26 o21.f_l.length c28) o21.f_l :: Bx b25 75 [.slice A26 o21.f_l.length c28] :: Γ))) wd362 := H361
                    refine sp_op [(103, .bool true), (106, .pointer (some ⟨b13, 0, none⟩))] (ac (hE359 11 (by decide)) (ac (hE359 14 (by decide)) an)) ?_
                    refine r_pure (.pointer (some ⟨b13, 0, none⟩)) rfl ?_ (wn_t rfl rfl (by decide) rfl rfl)
                    exact r_nil (n_lp ⟨_, rfl, undef, rfl, H361⟩)
                  · intro η107 wd367 Δ368 hE364 hR365 H366
                    have H366 : Hp w0 ((Δ368 ++ (Row K38 (.slice A14 y7.V.length c16) y7.V :: Bx b13 28 [.slice A14 y7.V.length c16] :: Row K38 (.slice A26 o21.f_l.length c28) o21.f_l :: Bx b25 75 [.slice A26 o21.f_l.length c28] :: Γ))) wd367 := H366
                    refine sp_op [(103, .bool true), (107, .pointer (some ⟨b13, 0, none⟩))] (ac (hE364 11 (by decide)) (ac (hE364 15 (by decide)) an)) ?_
                    refine r_fa FA28_0 ⟨b13, 0, none⟩ rfl rfl ?_ (wn_t rfl rfl (by decide) rfl rfl)
                    exact r_nil (n_lp ⟨_, rfl, undef, rfl, H366⟩)
                  · intro η107 wd372 Δ373 hE369 hR370 H371
                    have H371 : Hp w0 ((Δ373 ++ (Row K38 (.slice A14 y7.V.length c16) y7.V :: Bx b13 28 [.slice A14 y7.V.length c16] :: Row K38 (.slice A26 o21.f_l.length c28) o21.f_l :: Bx b25 75 [.slice A26 o21.f_l.length c28] :: Γ))) wd372 := H371
                    refine sp_op [(103, .bool true), (108, .pointer (some ⟨b13, 0, none⟩))] (ac (hE369 11 (by decide)) (ac (hE369 16 (by decide)) an)) ?_
                    refine r_ld1 (.slice A14 y7.V.length c16) LD26 rfl (((H371).tl.g1).cell _ rfl) ?_ (wn_t rfl rfl (by decide) rfl rfl)
                    exact r_nil (n_lp ⟨_, rfl, undef, rfl, H371⟩)
                  · intro η107 wd377 Δ378 hE374 hR375 H376
                    have H376 : Hp w0 ((Δ378 ++ (Row K38 (.slice A14 y7.V.length c16) y7.V :: Bx b13 28 [.slice A14 y7.V.length c16] :: Row K38 (.slice A26 o21.f_l.length c28) o21.f_l :: Bx b25 75 [.slice A26 o21.f_l.length c28] :: Γ))) wd377 := H376
                    refine sp_op [(103, .bool true), (105, .slice (vA ((η107 13).1)) y108.length (vC ((η107 13).1))), (109, .slice A14 y7.V.length c16)] (ac (hE374 11 (by decide)) (ac (hE374 13 (by decide)) (ac (hE374 17 (by decide)) an))) ?_
                    refine r_callf Try.call21 (scutagekeep_Same_api_Vintage_ok y108 (vA ((η107 13).1)) y108.length (vC ((η107 13).1)) rfl (((show (Row K38 (.slice (vA ((η107 13).1)) y108.length (vC ((η107 13).1))) y108) _ from ((H376)).memr (hR375 _ (List.mem_of_getElem? (i := 0) rfl) rfl))).cap) (fun _ H => ((show (Row K38 (.slice (vA ((η107 13).1)) y108.length (vC ((η107 13).1))) y108) _ from (H).memr (hR375 _ (List.mem_of_getElem? (i := 0) rfl) rfl)).rd)) y7.V A14 y7.V.length c16 rfl ((((H376)).tl.g0).cap) (fun _ H => ((H).tl.g0.rd)) y117 H376 hy118) ?_ (wn_t rfl rfl (by decide) rfl rfl)
                    rintro e382 wd381 ⟨rfl, H384⟩
                    refine ⟨_, rfl, ?_⟩
                    exact r_nil (n_lp ⟨_, rfl, undef, rfl, H384⟩)
                  · intro η107 wd388 Δ389 hE385 hR386 H387
                    have H387 : Hp w0 ((Δ389 ++ (Row K38 (.slice A14 y7.V.length c16) y7.V :: Bx b13 28 [.slice A14 y7.V.length c16] :: Row K38 (.slice A26 o21.f_l.length c28) o21.f_l :: Bx b25 75 [.slice A26 o21.f_l.length c28] :: Γ))) wd388 := H387
                    refine sp_op [(103, .bool true), (110, .bool y117)] (ac (hE385 11 (by decide)) (ac (hE385 18 (by decide)) an)) ?_
                    refine r_pick_t (.bool y117) rfl rfl rfl ?_
                    exact r_nil (n_lp ⟨_, rfl, undef, rfl, H387⟩)
                  · intro η107 wd393 Δ394 hE390 hR391 H392
                    have H392 : Hp w0 ((Δ394 ++ (Row K38 (.slice A14 y7.V.length c16) y7.V :: Bx b13 28 [.slice A14 y7.V.length c16] :: Row K38 (.slice A26 o21.f_l.length c28) o21.f_l :: Bx b25 75 [.slice A26 o21.f_l.length c28] :: Γ))) wd393 := H392
                    refine sp_op [(111, .bool y117)] (ac (hE390 19 (by decide)) an) ?_
                    refine r_pure (.bool y117) rfl ?_
                    exact r_nil (n_lp ⟨_, rfl, undef, rfl, H392⟩)
                  · intro η107 wd398 Δ399 hE395 hR396 H397
                    have H397 : Hp w0 ((Δ399 ++ (Row K38 (.slice A14 y7.V.length c16) y7.V :: Bx b13 28 [.slice A14 y7.V.length c16] :: Row K38 (.slice A26 o21.f_l.length c28) o21.f_l :: Bx b25 75 [.slice A26 o21.f_l.length c28] :: Γ))) wd398 := H397
                    refine sp_op [(112, .bool y117)] (ac (hE395 20 (by decide)) an) ?_
                    refine r_not (wn_f rfl rfl (by decide) rfl hb123) ?_
                    exact r_nil (n_lp ⟨_, rfl, undef, rfl, H397⟩)
                  · intro η107 wd403 Δ404 hE400 hR401 H402
                    have H402 : Hp w0 ((Δ404 ++ (Row K38 (.slice A14 y7.V.length c16) y7.V :: Bx b13 28 [.slice A14 y7.V.length c16] :: Row K38 (.slice A26 o21.f_l.length c28) o21.f_l :: Bx b25 75 [.slice A26 o21.f_l.length c28] :: Γ))) wd403 := H402
                    refine sp_op [(112, .bool y117), (113, undef)] (ac (hE400 20 (by decide)) (ac (hE400 21 (by decide)) an)) ?_
                    refine r_pick_f (.bool false) hb123 rfl rfl ?_
                    exact r_nil (n_lp ⟨_, rfl, undef, rfl, H402⟩)
                  · intro η107 wd408 Δ409 hE405 hR406 H407
                    have H407 : Hp w0 ((Δ409 ++ (Row K38 (.slice A14 y7.V.length c16) y7.V :: Bx b13 28 [.slice A14 y7.V.length c16] :: Row K38 (.slice A26 o21.f_l.length c28) o21.f_l :: Bx b25 75 [.slice A26 o21.f_l.length c28] :: Γ))) wd408 := H407
                    refine sp_op [(114, .bool false)] (ac (hE405 22 (by decide)) an) ?_
                    refine r_pure (.bool false) rfl ?_
                    exact r_nil (n_lp ⟨_, rfl, undef, rfl, H407⟩)
                  · intro η107 wd411 hV412 H410
                    have H413 : Hp w0 (Row K38 (.slice (vA ((η107 13).1)) y108.length (vC ((η107 13).1))) y108 :: Row K38 (.slice A14 y7.V.length c16) y7.V :: Bx b13 28 [.slice A14 y7.V.length c16] :: Row K38 (.slice A26 o21.f_l.length c28) o21.f_l :: Bx b25 75 [.slice A26 o21.f_l.length c28] :: Γ) wd411 := H410
                    refine n_frame [(18, .bool false)] (ac (hV412 23 rfl) an) ?_
                    refine n_cut ⟨false, upk (ac rfl an), H413.d.d.d.d.d, hm⟩
              · rintro ρ w ⟨q105, ⟨base, rfl⟩, H106, hm⟩
                unfold scutagelaw15_CurrentTells.j3 at hm
                have hq_ := Option.some.inj hm
                subst hq_
                refine st_ret1 rfl rfl (Nat.le_of_ble_eq_true rfl) rfl ?_
                exact ⟨rfl, H106⟩
        · subst hn86
          obtain rfl := (H85.g0).leneq
          obtain rfl := (H85.g2).leneq
          have hm : (if (y54 != y79) = true then scutagelaw15_CurrentTells.j4 o21 y7 true else ((scutagelaw15_Same y52 y77).bind fun y740 => (if (!y740) = true then scutagelaw15_CurrentTells.j4 o21 y7 true else scutagelaw15_CurrentTells.j4 o21 y7 (!(false == (y54 == 0)))))) = some r0_ := hm
          refine ⟨_, rfl, ?_⟩
          refine r_pure (.tuple #[.agg #[.int .i64 y77.Income, .int .i64 y77.Expired, .int .i64 y77.Used, .int .i64 y77.New, .int .i64 y77.Taxable, .int .i64 y77.Tax, .slice A90 y77.Vector.length c92], .pointer (some ⟨b93, 0, none⟩), .int .i64 y79]) rfl ?_
          refine r_pure (.agg #[.int .i64 y77.Income, .int .i64 y77.Expired, .int .i64 y77.Used, .int .i64 y77.New, .int .i64 y77.Taxable, .int .i64 y77.Tax, .slice A90 y77.Vector.length c92]) rfl ?_
          refine r_pure (.pointer (some ⟨b93, 0, none⟩)) rfl ?_
          refine r_pure (.int .i64 y79) rfl ?_
          refine r_alloc [.int .i64 0, .int .i64 0, .int .i64 0, .int .i64 0, .int .i64 0, .int .i64 0, .slice none 0 0] Try.zeroValue69 H85 rfl ?_
          intro b422 wd424 H423
          refine r_stA [.int .i64 y77.Income, .int .i64 y77.Expired, .int .i64 y77.Used, .int .i64 y77.New, .int .i64 y77.Taxable, .int .i64 y77.Tax, .slice A90 y77.Vector.length c92] LD69 rfl rfl rfl rfl H423 (Nat.le_of_ble_eq_true rfl) rfl ?_
          intro wd426 H425
          refine r_pure (.pointer (some ⟨b93, 0, none⟩)) rfl ?_
          refine r_pure (.int .i64 y79) rfl ?_
          refine r_seq ?_
          refine st_seq ?_
          refine st_cut (fun ρ w => ∃ q427 : Bool, (∃ base, ρ = updl base [(19, .pointer (some ⟨b13, 0, none⟩)), (20, .pointer (some ⟨b25, 0, none⟩)), (22, .pointer none), (25, .pointer (some ⟨b93, 0, none⟩)), (91, .bool q427)]) ∧ Hp w0 (Row K38 (.slice A14 y7.V.length c16) y7.V :: Bx b13 28 [.slice A14 y7.V.length c16] :: Row K38 (.slice A26 o21.f_l.length c28) o21.f_l :: Bx b25 75 [.slice A26 o21.f_l.length c28] :: Row K38 (.slice A94 o83.V.length c96) o83.V :: Bx b93 28 [.slice A94 o83.V.length c96] :: Γ) w ∧ scutagelaw15_CurrentTells.j4 o21 y7 q427 = some r0_) ?_ ?_
          · refine st_region ?_
            refine r_pure (.int .i64 y54) rfl ?_
            refine r_pure (.int .i64 y79) rfl ?_
            refine r_pure (.bool (y54 != y79)) rfl ?_
            refine r_pure (.bool (y54 != y79)) rfl ?_
            rcases ite_some hm with ⟨hb739, hm⟩ | ⟨hb739, hm⟩
            · refine r_not (wn_f rfl rfl (by decide) rfl hb739) ?_
              refine r_not (wn_f rfl rfl (by decide) rfl hb739) ?_
              refine r_not (wn_f rfl rfl (by decide) rfl hb739) ?_
              refine r_not (wn_f rfl rfl (by decide) rfl hb739) ?_
              refine r_pick_t (.bool true) hb739 rfl rfl ?_
              refine r_pure (.bool true) rfl ?_
              refine r_not (wn_f rfl rfl (by decide) rfl rfl) ?_
              refine r_not (wn_f rfl rfl (by decide) rfl rfl) ?_
              refine r_not (wn_f rfl rfl (by decide) rfl rfl) ?_
              refine r_not (wn_f rfl rfl (by decide) rfl rfl) ?_
              refine r_not (wn_f rfl rfl (by decide) rfl rfl) ?_
              refine r_pick_t (.bool true) rfl rfl rfl ?_
              refine r_nil ?_
              refine n_cut ⟨true, upk (ac rfl (ac rfl (ac rfl (ac rfl (ac rfl an))))), H425.d.d.u2.d.u2.d.u1.u5.u5.u5.u5, hm⟩
            · refine r_ldA [.int .i64 y52.Income, .int .i64 y52.Expired, .int .i64 y52.Used, .int .i64 y52.New, .int .i64 y52.Taxable, .int .i64 y52.Tax, .slice A62 y52.Vector.length c64] LD59 rfl rfl ((H425.g4).cells rfl) ?_ (wn_t rfl rfl (by decide) rfl hb739)
              refine r_ldA [.int .i64 y77.Income, .int .i64 y77.Expired, .int .i64 y77.Used, .int .i64 y77.New, .int .i64 y77.Taxable, .int .i64 y77.Tax, .slice A90 y77.Vector.length c92] LD69 rfl rfl ((H425.g0).cells rfl) ?_ (wn_t rfl rfl (by decide) rfl hb739)
              obtain ⟨y740, hy741, hm⟩ := bind_some hm
              refine r_callf Try.call42 (scutagelaw15_Same_ok y52 A62 y52.Vector.length c64 rfl (((H425).g5).cap) (fun _ H => (H.g5.rd)) y77 A90 y77.Vector.length c92 rfl (((H425).g1).cap) (fun _ H => (H.g1.rd)) y740 H425 hy741) ?_ (wn_t rfl rfl (by decide) rfl hb739)
              rintro e743 wd742 ⟨rfl, H745⟩
              refine ⟨_, rfl, ?_⟩
              refine r_pure (.bool (!y740)) rfl ?_ (wn_t rfl rfl (by decide) rfl hb739)
              refine r_pick_f (.bool (!y740)) hb739 rfl rfl ?_
              refine r_pure (.bool (!y740)) rfl ?_
              rcases ite_some hm with ⟨hb746, hm⟩ | ⟨hb746, hm⟩
              · refine r_not (wn_f rfl rfl (by decide) rfl hb746) ?_
                refine r_not (wn_f rfl rfl (by decide) rfl hb746) ?_
                refine r_not (wn_f rfl rfl (by decide) rfl hb746) ?_
                refine r_not (wn_f rfl rfl (by decide) rfl hb746) ?_
                refine r_not (wn_f rfl rfl (by decide) rfl hb746) ?_
                refine r_pick_t (.bool true) hb746 rfl rfl ?_
                refine r_nil ?_
                refine n_cut ⟨true, upk (ac rfl (ac rfl (ac rfl (ac rfl (ac rfl an))))), H745.d.d.u2.d.u2.d.u1.u5.u5.u5.u5, hm⟩
              · refine r_pure (.pointer none) rfl ?_ (wn_t rfl rfl (by decide) rfl hb746)
                refine r_nen Try.underlying23 rfl rfl ?_ (wn_t rfl rfl (by decide) rfl hb746)
                refine r_pure (.int .i64 y54) rfl ?_ (wn_t rfl rfl (by decide) rfl hb746)
                refine r_pure (.bool (y54 == 0)) rfl ?_ (wn_t rfl rfl (by decide) rfl hb746)
                refine r_neb Try.underlying4 rfl rfl ?_ (wn_t rfl rfl (by decide) rfl hb746)
                refine r_pick_f (.bool (!(false == (y54 == 0)))) hb746 rfl rfl ?_
                refine r_nil ?_
                refine n_cut ⟨!(false == (y54 == 0)), upk (ac rfl (ac rfl (ac rfl (ac rfl (ac rfl an))))), H745.d.d.u2.d.u2.d.u1.u5.u5.u5.u5, hm⟩
          · rintro ρ w ⟨q427, ⟨base, rfl⟩, H428, hm⟩
            unfold scutagelaw15_CurrentTells.j4 at hm
            rcases ite_some hm with ⟨hb429, hm⟩ | ⟨hb429, hm⟩
            · refine st_condt hb429 rfl ?_
              refine st_seq ?_
              refine st_region ?_
              refine r_pure (.bool false) rfl ?_
              refine r_seq ?_
              have hq_ := Option.some.inj hm
              subst hq_
              refine st_ret1 rfl rfl (Nat.le_of_ble_eq_true rfl) rfl ?_
              exact ⟨rfl, H428.d.d.d.d.d.d⟩
            · refine st_condf hb429 rfl ?_
              refine st_skip ?_
              refine n_sq ?_
              refine st_cut (fun ρ w => ∃ q430 : Bool, (∃ base, ρ = updl base [(18, .bool q430)]) ∧ Hp w0 (Γ) w ∧ scutagelaw15_CurrentTells.j5 q430 = some r0_) ?_ ?_
              · obtain ⟨y433, hy434, hm⟩ := bind_some hm
                obtain ⟨y442, hy443, hm⟩ := bind_some hm
                rcases ite_some hm with ⟨hb448, hm⟩ | ⟨hb448, hm⟩
                · obtain ⟨y449, hy450, hm⟩ := bind_some hm
                  refine Flow.run' [[], [0], [0, 1], [0, 1, 2], [0, 1, 2, 3], [0, 1, 2], [0, 1, 2, 5], [0, 1, 2, 5, 6], [0, 1, 2, 5, 6, 7], [0, 1, 2, 3, 4, 5, 6, 7, 8], [0, 1, 2, 3, 4, 5, 6, 7, 8, 9], [0, 1, 2, 3, 4, 5, 6, 7, 8, 9, 10], [0, 1, 2, 3, 4, 5, 6, 7, 8, 9, 10, 11], [0, 1, 2, 3, 4, 5, 6, 7, 8, 9, 10, 11, 12], [0, 1, 2, 3, 4, 5, 6, 7, 8, 9, 10, 11], [0, 1, 2, 3, 4, 5, 6, 7, 8, 9, 10, 11, 14], [0, 1, 2, 3, 4, 5, 6, 7, 8, 9, 10, 11, 14, 15], [0, 1, 2, 3, 4, 5, 6, 7, 8, 9, 10, 11, 14, 15, 16], [0, 1, 2, 3, 4, 5, 6, 7, 8, 9, 10, 11, 12, 13, 14, 15, 16, 17], [0, 1, 2, 3, 4, 5, 6, 7, 8, 9, 10, 11, 12, 13, 14, 15, 16, 17, 18], [0, 1, 2, 3, 4, 5, 6, 7, 8, 9, 10, 11, 12, 13, 14, 15, 16, 17, 18, 19], [0, 1, 2, 3, 4, 5, 6, 7, 8, 9, 10, 11, 12, 13, 14, 15, 16, 17, 18, 19, 20], [0, 1, 2, 3, 4, 5, 6, 7, 8, 9, 10, 11, 12, 13, 14, 15, 16, 17, 18, 19, 20, 21], [0, 1, 2, 3, 4, 5, 6, 7, 8, 9, 10, 11, 12, 13, 14, 15, 16, 17, 18, 19, 20, 21, 22]] [(92, 0), (93, 1), (94, 2), (95, 3), (96, 4), (97, 5), (98, 6), (99, 7), (100, 8), (101, 9), (102, 10), (103, 11), (104, 12), (105, 13), (106, 14), (107, 15), (108, 16), (109, 17), (110, 18), (111, 19), (112, 20), (113, 21), (114, 22), (18, 23)] [(fun η432 v => v.1 = .pointer none), (fun η432 v => v.1 = .bool true), (fun η432 v => v.1 = .bool true), (fun η432 v => v.1 = undef), (fun η432 v => v.1 = undef), (fun η432 v => v.1 = undef), (fun η432 v => v.1 = undef), (fun η432 v => v.1 = undef), (fun η432 v => v.1 = undef), (fun η432 v => v.1 = undef), (fun η432 v => v.1 = .bool true), (fun η432 v => v.1 = .bool true), (fun η432 v => v.1 = .pointer (some ⟨b25, 0, none⟩)), (fun η432 v => v.1 = .slice (vA (v.1)) y433.length (vC (v.1))), (fun η432 v => v.1 = .pointer (some ⟨b13, 0, none⟩)), (fun η432 v => v.1 = .pointer (some ⟨b13, 0, none⟩)), (fun η432 v => v.1 = .pointer (some ⟨b13, 0, none⟩)), (fun η432 v => v.1 = .slice A14 y7.V.length c16), (fun η432 v => v.1 = .bool y442), (fun η432 v => v.1 = .bool y442), (fun η432 v => v.1 = .bool y442), (fun η432 v => v.1 = .bool y449), (fun η432 v => v.1 = .bool y449), (fun η432 v => v.1 = .bool y449)] [⟨(some 13), none, fun η432 => Row K38 (.slice (vA ((η432 13).1)) y433.length (vC ((η432 13).1))) y433⟩] rfl (by kernel_rfl) (by kernel_rfl) H428 ⟨?_, ?_, ?_, ?_, ?_, ?_, ?_, ?_, ?_, ?_, ?_, ?_, ?_, ?_, ?_, ?_, ?_, ?_, ?_, ?_, ?_, ?_, ?_, ?_, trivial⟩ ?_
                  · intro η432 wd458 Δ459 hE455 hR456 H457
                    have H457 : Hp w0 ((Δ459 ++ (Row K38 (.slice A14 y7.V.length c16) y7.V :: Bx b13 28 [.slice A14 y7.V.length c16] :: Row K38 (.slice A26 o21.f_l.length c28) o21.f_l :: Bx b25 75 [.slice A26 o21.f_l.length c28] :: Row K38 (.slice A94 o83.V.length c96) o83.V :: Bx b93 28 [.slice A94 o83.V.length c96] :: Γ))) wd458 := H457
                    refine sp_op [(22, .pointer none)] (ac rfl an) ?_
                    refine r_pure (.pointer none) rfl ?_
                    exact r_nil (n_lp ⟨_, rfl, undef, rfl, H457⟩)
                  · intro η432 wd463 Δ464 hE460 hR461 H462
                    have H462 : Hp w0 ((Δ464 ++ (Row K38 (.slice A14 y7.V.length c16) y7.V :: Bx b13 28 [.slice A14 y7.V.length c16] :: Row K38 (.slice A26 o21.f_l.length c28) o21.f_l :: Bx b25 75 [.slice A26 o21.f_l.length c28] :: Row K38 (.slice A94 o83.V.length c96) o83.V :: Bx b93 28 [.slice A94 o83.V.length c96] :: Γ))) wd463 := H462
                    refine sp_op [(92, .pointer none)] (ac (hE460 0 (by decide)) an) ?_
                    refine r_eqn Try.underlying23 rfl rfl ?_
                    exact r_nil (n_lp ⟨_, rfl, undef, rfl, H462⟩)
                  · intro η432 wd468 Δ469 hE465 hR466 H467
                    have H467 : Hp w0 ((Δ469 ++ (Row K38 (.slice A14 y7.V.length c16) y7.V :: Bx b13 28 [.slice A14 y7.V.length c16] :: Row K38 (.slice A26 o21.f_l.length c28) o21.f_l :: Bx b25 75 [.slice A26 o21.f_l.length c28] :: Row K38 (.slice A94 o83.V.length c96) o83.V :: Bx b93 28 [.slice A94 o83.V.length c96] :: Γ))) wd468 := H467
                    refine sp_op [(93, .bool true)] (ac (hE465 1 (by decide)) an) ?_
                    refine r_pure (.bool true) rfl ?_
                    exact r_nil (n_lp ⟨_, rfl, undef, rfl, H467⟩)
                  · intro η432 wd473 Δ474 hE470 hR471 H472
                    have H472 : Hp w0 ((Δ474 ++ (Row K38 (.slice A14 y7.V.length c16) y7.V :: Bx b13 28 [.slice A14 y7.V.length c16] :: Row K38 (.slice A26 o21.f_l.length c28) o21.f_l :: Bx b25 75 [.slice A26 o21.f_l.length c28] :: Row K38 (.slice A94 o83.V.length c96) o83.V :: Bx b93 28 [.slice A94 o83.V.length c96] :: Γ))) wd473 := H472
                    refine sp_op [(22, .pointer none), (94, .bool true)] (ac rfl (ac (hE470 2 (by decide)) an)) ?_
                    refine r_not (wn_f rfl rfl (by decide) rfl rfl) ?_
                    exact r_nil (n_lp ⟨_, rfl, undef, rfl, H472⟩)
                  · intro η432 wd478 Δ479 hE475 hR476 H477
                    have H477 : Hp w0 ((Δ479 ++ (Row K38 (.slice A14 y7.V.length c16) y7.V :: Bx b13 28 [.slice A14 y7.V.length c16] :: Row K38 (.slice A26 o21.f_l.length c28) o21.f_l :: Bx b25 75 [.slice A26 o21.f_l.length c28] :: Row K38 (.slice A94 o83.V.length c96) o83.V :: Bx b93 28 [.slice A94 o83.V.length c96] :: Γ))) wd478 := H477
                    refine sp_op [(94, .bool true), (95, undef)] (ac (hE475 2 (by decide)) (ac (hE475 3 (by decide)) an)) ?_
                    refine r_not (wn_f rfl rfl (by decide) rfl rfl) ?_
                    exact r_nil (n_lp ⟨_, rfl, undef, rfl, H477⟩)
                  · intro η432 wd483 Δ484 hE480 hR481 H482
                    have H482 : Hp w0 ((Δ484 ++ (Row K38 (.slice A14 y7.V.length c16) y7.V :: Bx b13 28 [.slice A14 y7.V.length c16] :: Row K38 (.slice A26 o21.f_l.length c28) o21.f_l :: Bx b25 75 [.slice A26 o21.f_l.length c28] :: Row K38 (.slice A94 o83.V.length c96) o83.V :: Bx b93 28 [.slice A94 o83.V.length c96] :: Γ))) wd483 := H482
                    refine sp_op [(25, .pointer (some ⟨b93, 0, none⟩)), (94, .bool true)] (ac rfl (ac (hE480 2 (by decide)) an)) ?_
                    refine r_not (wn_f rfl rfl (by decide) rfl rfl) ?_
                    exact r_nil (n_lp ⟨_, rfl, undef, rfl, H482⟩)
                  · intro η432 wd488 Δ489 hE485 hR486 H487
                    have H487 : Hp w0 ((Δ489 ++ (Row K38 (.slice A14 y7.V.length c16) y7.V :: Bx b13 28 [.slice A14 y7.V.length c16] :: Row K38 (.slice A26 o21.f_l.length c28) o21.f_l :: Bx b25 75 [.slice A26 o21.f_l.length c28] :: Row K38 (.slice A94 o83.V.length c96) o83.V :: Bx b93 28 [.slice A94 o83.V.length c96] :: Γ))) wd488 := H487
                    refine sp_op [(94, .bool true), (97, undef)] (ac (hE485 2 (by decide)) (ac (hE485 5 (by decide)) an)) ?_
                    refine r_not (wn_f rfl rfl (by decide) rfl rfl) ?_
                    exact r_nil (n_lp ⟨_, rfl, undef, rfl, H487⟩)
                  · intro η432 wd493 Δ494 hE490 hR491 H492
                    have H492 : Hp w0 ((Δ494 ++ (Row K38 (.slice A14 y7.V.length c16) y7.V :: Bx b13 28 [.slice A14 y7.V.length c16] :: Row K38 (.slice A26 o21.f_l.length c28) o21.f_l :: Bx b25 75 [.slice A26 o21.f_l.length c28] :: Row K38 (.slice A94 o83.V.length c96) o83.V :: Bx b93 28 [.slice A94 o83.V.length c96] :: Γ))) wd493 := H492
                    refine sp_op [(94, .bool true), (98, undef)] (ac (hE490 2 (by decide)) (ac (hE490 6 (by decide)) an)) ?_
                    refine r_not (wn_f rfl rfl (by decide) rfl rfl) ?_
                    exact r_nil (n_lp ⟨_, rfl, undef, rfl, H492⟩)
                  · intro η432 wd498 Δ499 hE495 hR496 H497
                    have H497 : Hp w0 ((Δ499 ++ (Row K38 (.slice A14 y7.V.length c16) y7.V :: Bx b13 28 [.slice A14 y7.V.length c16] :: Row K38 (.slice A26 o21.f_l.length c28) o21.f_l :: Bx b25 75 [.slice A26 o21.f_l.length c28] :: Row K38 (.slice A94 o83.V.length c96) o83.V :: Bx b93 28 [.slice A94 o83.V.length c96] :: Γ))) wd498 := H497
                    refine sp_op [(94, .bool true), (99, undef)] (ac (hE495 2 (by decide)) (ac (hE495 7 (by decide)) an)) ?_
                    refine r_not (wn_f rfl rfl (by decide) rfl rfl) ?_
                    exact r_nil (n_lp ⟨_, rfl, undef, rfl, H497⟩)
                  · intro η432 wd503 Δ504 hE500 hR501 H502
                    have H502 : Hp w0 ((Δ504 ++ (Row K38 (.slice A14 y7.V.length c16) y7.V :: Bx b13 28 [.slice A14 y7.V.length c16] :: Row K38 (.slice A26 o21.f_l.length c28) o21.f_l :: Bx b25 75 [.slice A26 o21.f_l.length c28] :: Row K38 (.slice A94 o83.V.length c96) o83.V :: Bx b93 28 [.slice A94 o83.V.length c96] :: Γ))) wd503 := H502
                    refine sp_op [(94, .bool true), (96, undef), (100, undef)] (ac (hE500 2 (by decide)) (ac (hE500 4 (by decide)) (ac (hE500 8 (by decide)) an))) ?_
                    refine r_not (wn_f rfl rfl (by decide) rfl rfl) ?_
                    exact r_nil (n_lp ⟨_, rfl, undef, rfl, H502⟩)
                  · intro η432 wd508 Δ509 hE505 hR506 H507
                    have H507 : Hp w0 ((Δ509 ++ (Row K38 (.slice A14 y7.V.length c16) y7.V :: Bx b13 28 [.slice A14 y7.V.length c16] :: Row K38 (.slice A26 o21.f_l.length c28) o21.f_l :: Bx b25 75 [.slice A26 o21.f_l.length c28] :: Row K38 (.slice A94 o83.V.length c96) o83.V :: Bx b93 28 [.slice A94 o83.V.length c96] :: Γ))) wd508 := H507
                    refine sp_op [(94, .bool true), (101, undef)] (ac (hE505 2 (by decide)) (ac (hE505 9 (by decide)) an)) ?_
                    refine r_pick_t (.bool true) rfl rfl rfl ?_
                    exact r_nil (n_lp ⟨_, rfl, undef, rfl, H507⟩)
                  · intro η432 wd513 Δ514 hE510 hR511 H512
                    have H512 : Hp w0 ((Δ514 ++ (Row K38 (.slice A14 y7.V.length c16) y7.V :: Bx b13 28 [.slice A14 y7.V.length c16] :: Row K38 (.slice A26 o21.f_l.length c28) o21.f_l :: Bx b25 75 [.slice A26 o21.f_l.length c28] :: Row K38 (.slice A94 o83.V.length c96) o83.V :: Bx b93 28 [.slice A94 o83.V.length c96] :: Γ))) wd513 := H512
                    refine sp_op [(102, .bool true)] (ac (hE510 10 (by decide)) an) ?_
                    refine r_pure (.bool true) rfl ?_
                    exact r_nil (n_lp ⟨_, rfl, undef, rfl, H512⟩)
                  · intro η432 wd518 Δ519 hE515 hR516 H517
                    have H517 : Hp w0 ((Δ519 ++ (Row K38 (.slice A14 y7.V.length c16) y7.V :: Bx b13 28 [.slice A14 y7.V.length c16] :: Row K38 (.slice A26 o21.f_l.length c28) o21.f_l :: Bx b25 75 [.slice A26 o21.f_l.length c28] :: Row K38 (.slice A94 o83.V.length c96) o83.V :: Bx b93 28 [.slice A94 o83.V.length c96] :: Γ))) wd518 := H517
                    refine sp_op [(20, .pointer (some ⟨b25, 0, none⟩)), (103, .bool true)] (ac rfl (ac (hE515 11 (by decide)) an)) ?_
                    refine r_pure (.pointer (some ⟨b25, 0, none⟩)) rfl ?_ (wn_t rfl rfl (by decide) rfl rfl)
                    exact r_nil (n_lp ⟨_, rfl, undef, rfl, H517⟩)
                  · intro η432 wd523 Δ524 hE520 hR521 H522
                    have H522 : Hp w0 ((Δ524 ++ (Row K38 (.slice A14 y7.V.length c16) y7.V :: Bx b13 28 [.slice A14 y7.V.length c16] :: Row K38 (.slice A26 o21.f_l.length c28) o21.f_l :: Bx b25 75 [.slice A26 o21.f_l.length c28] :: Row K38 (.slice A94 o83.V.length c96) o83.V :: Bx b93 28 [.slice A94 o83.V.length c96] :: Γ))) wd523 := H522
                    refine sp_op [(103, .bool true), (104, .pointer (some ⟨b25, 0, none⟩))] (ac (hE520 11 (by decide)) (ac (hE520 12 (by decide)) an)) ?_
                    refine r_callf Try.call22 (vintage_Losses_Rows_ok b25 (⟨o21.f_l⟩ : vintage_Losses) A26 o21.f_l.length c28 rfl ((((H522)).tl.g2).cap) (fun _ H => ((H).tl.g2.rd)) (fun _ H => ((H).tl.g3)) y433 H522 hy434) ?_ (wn_t rfl rfl (by decide) rfl rfl)
                    rintro e528 wd527 ⟨A531, n532, c533, rfl, H530⟩
                    obtain rfl := (H530.g0).leneq
                    refine ⟨_, rfl, ?_⟩
                    exact r_nil (n_lp ⟨_, rfl, (.tuple #[.slice A531 y433.length c533]), rfl, H530⟩)
                  · intro η432 wd537 Δ538 hE534 hR535 H536
                    have H536 : Hp w0 ((Δ538 ++ (Row K38 (.slice A14 y7.V.length c16) y7.V :: Bx b13 28 [.slice A14 y7.V.length c16] :: Row K38 (.slice A26 o21.f_l.length c28) o21.f_l :: Bx b25 75 [.slice A26 o21.f_l.length c28] :: Row K38 (.slice A94 o83.V.length c96) o83.V :: Bx b93 28 [.slice A94 o83.V.length c96] :: Γ))) wd537 := H536
                    refine sp_op [(19, .pointer (some ⟨b13, 0, none⟩)), (103, .bool true)] (ac rfl (ac (hE534 11 (by decide)) an)) ?_
                    refine r_pure (.pointer (some ⟨b13, 0, none⟩)) rfl ?_ (wn_t rfl rfl (by decide) rfl rfl)
                    exact r_nil (n_lp ⟨_, rfl, undef, rfl, H536⟩)
                  · intro η432 wd542 Δ543 hE539 hR540 H541
                    have H541 : Hp w0 ((Δ543 ++ (Row K38 (.slice A14 y7.V.length c16) y7.V :: Bx b13 28 [.slice A14 y7.V.length c16] :: Row K38 (.slice A26 o21.f_l.length c28) o21.f_l :: Bx b25 75 [.slice A26 o21.f_l.length c28] :: Row K38 (.slice A94 o83.V.length c96) o83.V :: Bx b93 28 [.slice A94 o83.V.length c96] :: Γ))) wd542 := H541
                    refine sp_op [(103, .bool true), (106, .pointer (some ⟨b13, 0, none⟩))] (ac (hE539 11 (by decide)) (ac (hE539 14 (by decide)) an)) ?_
                    refine r_pure (.pointer (some ⟨b13, 0, none⟩)) rfl ?_ (wn_t rfl rfl (by decide) rfl rfl)
                    exact r_nil (n_lp ⟨_, rfl, undef, rfl, H541⟩)
                  · intro η432 wd547 Δ548 hE544 hR545 H546
                    have H546 : Hp w0 ((Δ548 ++ (Row K38 (.slice A14 y7.V.length c16) y7.V :: Bx b13 28 [.slice A14 y7.V.length c16] :: Row K38 (.slice A26 o21.f_l.length c28) o21.f_l :: Bx b25 75 [.slice A26 o21.f_l.length c28] :: Row K38 (.slice A94 o83.V.length c96) o83.V :: Bx b93 28 [.slice A94 o83.V.length c96] :: Γ))) wd547 := H546
                    refine sp_op [(103, .bool true), (107, .pointer (some ⟨b13, 0, none⟩))] (ac (hE544 11 (by decide)) (ac (hE544 15 (by decide)) an)) ?_
                    refine r_fa FA28_0 ⟨b13, 0, none⟩ rfl rfl ?_ (wn_t rfl rfl (by decide) rfl rfl)
                    exact r_nil (n_lp ⟨_, rfl, undef, rfl, H546⟩)
                  · intro η432 wd552 Δ553 hE549 hR550 H551
                    have H551 : Hp w0 ((Δ553 ++ (Row K38 (.slice A14 y7.V.length c16) y7.V :: Bx b13 28 [.slice A14 y7.V.length c16] :: Row K38 (.slice A26 o21.f_l.length c28) o21.f_l :: Bx b25 75 [.slice A26 o21.f_l.length c28] :: Row K38 (.slice A94 o83.V.length c96) o83.V :: Bx b93 28 [.slice A94 o83.V.length c96] :: Γ))) wd552 := H551
                    refine sp_op [(103, .bool true), (108, .pointer (some ⟨b13, 0, none⟩))] (ac (hE549 11 (by decide)) (ac (hE549 16 (by decide)) an)) ?_
                    refine r_ld1 (.slice A14 y7.V.length c16) LD26 rfl (((H551).tl.g1).cell _ rfl) ?_ (wn_t rfl rfl (by decide) rfl rfl)
                    exact r_nil (n_lp ⟨_, rfl, undef, rfl, H551⟩)
                  · intro η432 wd557 Δ558 hE554 hR555 H556
                    have H556 : Hp w0 ((Δ558 ++ (Row K38 (.slice A14 y7.V.length c16) y7.V :: Bx b13 28 [.slice A14 y7.V.length c16] :: Row K38 (.slice A26 o21.f_l.length c28) o21.f_l :: Bx b25 75 [.slice A26 o21.f_l.length c28] :: Row K38 (.slice A94 o83.V.length c96) o83.V :: Bx b93 28 [.slice A94 o83.V.length c96] :: Γ))) wd557 := H556
                    refine sp_op [(103, .bool true), (105, .slice (vA ((η432 13).1)) y433.length (vC ((η432 13).1))), (109, .slice A14 y7.V.length c16)] (ac (hE554 11 (by decide)) (ac (hE554 13 (by decide)) (ac (hE554 17 (by decide)) an))) ?_
                    refine r_callf Try.call21 (scutagekeep_Same_api_Vintage_ok y433 (vA ((η432 13).1)) y433.length (vC ((η432 13).1)) rfl (((show (Row K38 (.slice (vA ((η432 13).1)) y433.length (vC ((η432 13).1))) y433) _ from ((H556)).memr (hR555 _ (List.mem_of_getElem? (i := 0) rfl) rfl))).cap) (fun _ H => ((show (Row K38 (.slice (vA ((η432 13).1)) y433.length (vC ((η432 13).1))) y433) _ from (H).memr (hR555 _ (List.mem_of_getElem? (i := 0) rfl) rfl)).rd)) y7.V A14 y7.V.length c16 rfl ((((H556)).tl.g0).cap) (fun _ H => ((H).tl.g0.rd)) y442 H556 hy443) ?_ (wn_t rfl rfl (by decide) rfl rfl)
                    rintro e562 wd561 ⟨rfl, H564⟩
                    refine ⟨_, rfl, ?_⟩
                    exact r_nil (n_lp ⟨_, rfl, undef, rfl, H564⟩)
                  · intro η432 wd568 Δ569 hE565 hR566 H567
                    have H567 : Hp w0 ((Δ569 ++ (Row K38 (.slice A14 y7.V.length c16) y7.V :: Bx b13 28 [.slice A14 y7.V.length c16] :: Row K38 (.slice A26 o21.f_l.length c28) o21.f_l :: Bx b25 75 [.slice A26 o21.f_l.length c28] :: Row K38 (.slice A94 o83.V.length c96) o83.V :: Bx b93 28 [.slice A94 o83.V.length c96] :: Γ))) wd568 := H567
                    refine sp_op [(103, .bool true), (110, .bool y442)] (ac (hE565 11 (by decide)) (ac (hE565 18 (by decide)) an)) ?_
                    refine r_pick_t (.bool y442) rfl rfl rfl ?_
                    exact r_nil (n_lp ⟨_, rfl, undef, rfl, H567⟩)
                  · intro η432 wd573 Δ574 hE570 hR571 H572
                    have H572 : Hp w0 ((Δ574 ++ (Row K38 (.slice A14 y7.V.length c16) y7.V :: Bx b13 28 [.slice A14 y7.V.length c16] :: Row K38 (.slice A26 o21.f_l.length c28) o21.f_l :: Bx b25 75 [.slice A26 o21.f_l.length c28] :: Row K38 (.slice A94 o83.V.length c96) o83.V :: Bx b93 28 [.slice A94 o83.V.length c96] :: Γ))) wd573 := H572
                    refine sp_op [(111, .bool y442)] (ac (hE570 19 (by decide)) an) ?_
                    refine r_pure (.bool y442) rfl ?_
                    exact r_nil (n_lp ⟨_, rfl, undef, rfl, H572⟩)
                  · intro η432 wd578 Δ579 hE575 hR576 H577
                    have H577 : Hp w0 ((Δ579 ++ (Row K38 (.slice A14 y7.V.length c16) y7.V :: Bx b13 28 [.slice A14 y7.V.length c16] :: Row K38 (.slice A26 o21.f_l.length c28) o21.f_l :: Bx b25 75 [.slice A26 o21.f_l.length c28] :: Row K38 (.slice A94 o83.V.length c96) o83.V :: Bx b93 28 [.slice A94 o83.V.length c96] :: Γ))) wd578 := H577
                    refine sp_op [(112, .bool y442)] (ac (hE575 20 (by decide)) an) ?_
                    refine r_callf Try.call36 (scutagelaw15_wakes_ok  y449 H577 hy450) ?_ (wn_t rfl rfl (by decide) rfl hb448)
                    rintro e583 wd582 ⟨rfl, H585⟩
                    refine ⟨_, rfl, ?_⟩
                    exact r_nil (n_lp ⟨_, rfl, undef, rfl, H585⟩)
                  · intro η432 wd589 Δ590 hE586 hR587 H588
                    have H588 : Hp w0 ((Δ590 ++ (Row K38 (.slice A14 y7.V.length c16) y7.V :: Bx b13 28 [.slice A14 y7.V.length c16] :: Row K38 (.slice A26 o21.f_l.length c28) o21.f_l :: Bx b25 75 [.slice A26 o21.f_l.length c28] :: Row K38 (.slice A94 o83.V.length c96) o83.V :: Bx b93 28 [.slice A94 o83.V.length c96] :: Γ))) wd589 := H588
                    refine sp_op [(112, .bool y442), (113, .bool y449)] (ac (hE586 20 (by decide)) (ac (hE586 21 (by decide)) an)) ?_
                    refine r_pick_t (.bool y449) hb448 rfl rfl ?_
                    exact r_nil (n_lp ⟨_, rfl, undef, rfl, H588⟩)
                  · intro η432 wd594 Δ595 hE591 hR592 H593
                    have H593 : Hp w0 ((Δ595 ++ (Row K38 (.slice A14 y7.V.length c16) y7.V :: Bx b13 28 [.slice A14 y7.V.length c16] :: Row K38 (.slice A26 o21.f_l.length c28) o21.f_l :: Bx b25 75 [.slice A26 o21.f_l.length c28] :: Row K38 (.slice A94 o83.V.length c96) o83.V :: Bx b93 28 [.slice A94 o83.V.length c96] :: Γ))) wd594 := H593
                    refine sp_op [(114, .bool y449)] (ac (hE591 22 (by decide)) an) ?_
                    refine r_pure (.bool y449) rfl ?_
                    exact r_nil (n_lp ⟨_, rfl, undef, rfl, H593⟩)
                  · intro η432 wd597 hV598 H596
                    have H599 : Hp w0 (Row K38 (.slice (vA ((η432 13).1)) y433.length (vC ((η432 13).1))) y433 :: Row K38 (.slice A14 y7.V.length c16) y7.V :: Bx b13 28 [.slice A14 y7.V.length c16] :: Row K38 (.slice A26 o21.f_l.length c28) o21.f_l :: Bx b25 75 [.slice A26 o21.f_l.length c28] :: Row K38 (.slice A94 o83.V.length c96) o83.V :: Bx b93 28 [.slice A94 o83.V.length c96] :: Γ) wd597 := H596
                    refine n_frame [(18, .bool y449)] (ac (hV598 23 rfl) an) ?_
                    refine n_cut ⟨y449, upk (ac rfl an), H599.d.d.d.d.d.d.d, hm⟩
                · refine Flow.run' [[], [0], [0, 1], [0, 1, 2], [0, 1, 2, 3], [0, 1, 2], [0, 1, 2, 5], [0, 1, 2, 5, 6], [0, 1, 2, 5, 6, 7], [0, 1, 2, 3, 4, 5, 6, 7, 8], [0, 1, 2, 3, 4, 5, 6, 7, 8, 9], [0, 1, 2, 3, 4, 5, 6, 7, 8, 9, 10], [0, 1, 2, 3, 4, 5, 6, 7, 8, 9, 10, 11], [0, 1, 2, 3, 4, 5, 6, 7, 8, 9, 10, 11, 12], [0, 1, 2, 3, 4, 5, 6, 7, 8, 9, 10, 11], [0, 1, 2, 3, 4, 5, 6, 7, 8, 9, 10, 11, 14], [0, 1, 2, 3, 4, 5, 6, 7, 8, 9, 10, 11, 14, 15], [0, 1, 2, 3, 4, 5, 6, 7, 8, 9, 10, 11, 14, 15, 16], [0, 1, 2, 3, 4, 5, 6, 7, 8, 9, 10, 11, 12, 13, 14, 15, 16, 17], [0, 1, 2, 3, 4, 5, 6, 7, 8, 9, 10, 11, 12, 13, 14, 15, 16, 17, 18], [0, 1, 2, 3, 4, 5, 6, 7, 8, 9, 10, 11, 12, 13, 14, 15, 16, 17, 18, 19], [0, 1, 2, 3, 4, 5, 6, 7, 8, 9, 10, 11, 12, 13, 14, 15, 16, 17, 18, 19, 20], [0, 1, 2, 3, 4, 5, 6, 7, 8, 9, 10, 11, 12, 13, 14, 15, 16, 17, 18, 19, 20, 21], [0, 1, 2, 3, 4, 5, 6, 7, 8, 9, 10, 11, 12, 13, 14, 15, 16, 17, 18, 19, 20, 21, 22]] [(92, 0), (93, 1), (94, 2), (95, 3), (96, 4), (97, 5), (98, 6), (99, 7), (100, 8), (101, 9), (102, 10), (103, 11), (104, 12), (105, 13), (106, 14), (107, 15), (108, 16), (109, 17), (110, 18), (111, 19), (112, 20), (113, 21), (114, 22), (18, 23)] [(fun η432 v => v.1 = .pointer none), (fun η432 v => v.1 = .bool true), (fun η432 v => v.1 = .bool true), (fun η432 v => v.1 = undef), (fun η432 v => v.1 = undef), (fun η432 v => v.1 = undef), (fun η432 v => v.1 = undef), (fun η432 v => v.1 = undef), (fun η432 v => v.1 = undef), (fun η432 v => v.1 = undef), (fun η432 v => v.1 = .bool true), (fun η432 v => v.1 = .bool true), (fun η432 v => v.1 = .pointer (some ⟨b25, 0, none⟩)), (fun η432 v => v.1 = .slice (vA (v.1)) y433.length (vC (v.1))), (fun η432 v => v.1 = .pointer (some ⟨b13, 0, none⟩)), (fun η432 v => v.1 = .pointer (some ⟨b13, 0, none⟩)), (fun η432 v => v.1 = .pointer (some ⟨b13, 0, none⟩)), (fun η432 v => v.1 = .slice A14 y7.V.length c16), (fun η432 v => v.1 = .bool y442), (fun η432 v => v.1 = .bool y442), (fun η432 v => v.1 = .bool y442), (fun η432 v => v.1 = undef), (fun η432 v => v.1 = .bool false), (fun η432 v => v.1 = .bool false)] [⟨(some 13), none, fun η432 => Row K38 (.slice (vA ((η432 13).1)) y433.length (vC ((η432 13).1))) y433⟩] rfl (by kernel_rfl) (by kernel_rfl) H428 ⟨?_, ?_, ?_, ?_, ?_, ?_, ?_, ?_, ?_, ?_, ?_, ?_, ?_, ?_, ?_, ?_, ?_, ?_, ?_, ?_, ?_, ?_, ?_, ?_, trivial⟩ ?_
                  · intro η432 wd603 Δ604 hE600 hR601 H602
                    have H602 : Hp w0 ((Δ604 ++ (Row K38 (.slice A14 y7.V.length c16) y7.V :: Bx b13 28 [.slice A14 y7.V.length c16] :: Row K38 (.slice A26 o21.f_l.length c28) o21.f_l :: Bx b25 75 [.slice A26 o21.f_l.length c28] :: Row K38 (.slice A94 o83.V.length c96) o83.V :: Bx b93 28 [.slice A94 o83.V.length c96] :: Γ))) wd603 := H602
                    refine sp_op [(22, .pointer none)] (ac rfl an) ?_
                    refine r_pure (.pointer none) rfl ?_
                    exact r_nil (n_lp ⟨_, rfl, undef, rfl, H602⟩)
                  · intro η432 wd608 Δ609 hE605 hR606 H607
                    have H607 : Hp w0 ((Δ609 ++ (Row K38 (.slice A14 y7.V.length c16) y7.V :: Bx b13 28 [.slice A14 y7.V.length c16] :: Row K38 (.slice A26 o21.f_l.length c28) o21.f_l :: Bx b25 75 [.slice A26 o21.f_l.length c28] :: Row K38 (.slice A94 o83.V.length c96) o83.V :: Bx b93 28 [.slice A94 o83.V.length c96] :: Γ))) wd608 := H607
                    refine sp_op [(92, .pointer none)] (ac (hE605 0 (by decide)) an) ?_
                    refine r_eqn Try.underlying23 rfl rfl ?_
                    exact r_nil (n_lp ⟨_, rfl, undef, rfl, H607⟩)
                  · intro η432 wd613 Δ614 hE610 hR611 H612
                    have H612 : Hp w0 ((Δ614 ++ (Row K38 (.slice A14 y7.V.length c16) y7.V :: Bx b13 28 [.slice A14 y7.V.length c16] :: Row K38 (.slice A26 o21.f_l.length c28) o21.f_l :: Bx b25 75 [.slice A26 o21.f_l.length c28] :: Row K38 (.slice A94 o83.V.length c96) o83.V :: Bx b93 28 [.slice A94 o83.V.length c96] :: Γ))) wd613 := H612
                    refine sp_op [(93, .bool true)] (ac (hE610 1 (by decide)) an) ?_
                    refine r_pure (.bool true) rfl ?_
                    exact r_nil (n_lp ⟨_, rfl, undef, rfl, H612⟩)
                  · intro η432 wd618 Δ619 hE615 hR616 H617
                    have H617 : Hp w0 ((Δ619 ++ (Row K38 (.slice A14 y7.V.length c16) y7.V :: Bx b13 28 [.slice A14 y7.V.length c16] :: Row K38 (.slice A26 o21.f_l.length c28) o21.f_l :: Bx b25 75 [.slice A26 o21.f_l.length c28] :: Row K38 (.slice A94 o83.V.length c96) o83.V :: Bx b93 28 [.slice A94 o83.V.length c96] :: Γ))) wd618 := H617
                    refine sp_op [(22, .pointer none), (94, .bool true)] (ac rfl (ac (hE615 2 (by decide)) an)) ?_
                    refine r_not (wn_f rfl rfl (by decide) rfl rfl) ?_
                    exact r_nil (n_lp ⟨_, rfl, undef, rfl, H617⟩)
                  · intro η432 wd623 Δ624 hE620 hR621 H622
                    have H622 : Hp w0 ((Δ624 ++ (Row K38 (.slice A14 y7.V.length c16) y7.V :: Bx b13 28 [.slice A14 y7.V.length c16] :: Row K38 (.slice A26 o21.f_l.length c28) o21.f_l :: Bx b25 75 [.slice A26 o21.f_l.length c28] :: Row K38 (.slice A94 o83.V.length c96) o83.V :: Bx b93 28 [.slice A94 o83.V.length c96] :: Γ))) wd623 := H622
                    refine sp_op [(94, .bool true), (95, undef)] (ac (hE620 2 (by decide)) (ac (hE620 3 (by decide)) an)) ?_
                    refine r_not (wn_f rfl rfl (by decide) rfl rfl) ?_
                    exact r_nil (n_lp ⟨_, rfl, undef, rfl, H622⟩)
                  · intro η432 wd628 Δ629 hE625 hR626 H627
                    have H627 : Hp w0 ((Δ629 ++ (Row K38 (.slice A14 y7.V.length c16) y7.V :: Bx b13 28 [.slice A14 y7.V.length c16] :: Row K38 (.slice A26 o21.f_l.length c28) o21.f_l :: Bx b25 75 [.slice A26 o21.f_l.length c28] :: Row K38 (.slice A94 o83.V.length c96) o83.V :: Bx b93 28 [.slice A94 o83.V.length c96] :: Γ))) wd628 := H627
                    refine sp_op [(25, .pointer (some ⟨b93, 0, none⟩)), (94, .bool true)] (ac rfl (ac (hE625 2 (by decide)) an)) ?_
                    refine r_not (wn_f rfl rfl (by decide) rfl rfl) ?_
                    exact r_nil (n_lp ⟨_, rfl, undef, rfl, H627⟩)
                  · intro η432 wd633 Δ634 hE630 hR631 H632
                    have H632 : Hp w0 ((Δ634 ++ (Row K38 (.slice A14 y7.V.length c16) y7.V :: Bx b13 28 [.slice A14 y7.V.length c16] :: Row K38 (.slice A26 o21.f_l.length c28) o21.f_l :: Bx b25 75 [.slice A26 o21.f_l.length c28] :: Row K38 (.slice A94 o83.V.length c96) o83.V :: Bx b93 28 [.slice A94 o83.V.length c96] :: Γ))) wd633 := H632
                    refine sp_op [(94, .bool true), (97, undef)] (ac (hE630 2 (by decide)) (ac (hE630 5 (by decide)) an)) ?_
                    refine r_not (wn_f rfl rfl (by decide) rfl rfl) ?_
                    exact r_nil (n_lp ⟨_, rfl, undef, rfl, H632⟩)
                  · intro η432 wd638 Δ639 hE635 hR636 H637
                    have H637 : Hp w0 ((Δ639 ++ (Row K38 (.slice A14 y7.V.length c16) y7.V :: Bx b13 28 [.slice A14 y7.V.length c16] :: Row K38 (.slice A26 o21.f_l.length c28) o21.f_l :: Bx b25 75 [.slice A26 o21.f_l.length c28] :: Row K38 (.slice A94 o83.V.length c96) o83.V :: Bx b93 28 [.slice A94 o83.V.length c96] :: Γ))) wd638 := H637
                    refine sp_op [(94, .bool true), (98, undef)] (ac (hE635 2 (by decide)) (ac (hE635 6 (by decide)) an)) ?_
                    refine r_not (wn_f rfl rfl (by decide) rfl rfl) ?_
                    exact r_nil (n_lp ⟨_, rfl, undef, rfl, H637⟩)
                  · intro η432 wd643 Δ644 hE640 hR641 H642
                    have H642 : Hp w0 ((Δ644 ++ (Row K38 (.slice A14 y7.V.length c16) y7.V :: Bx b13 28 [.slice A14 y7.V.length c16] :: Row K38 (.slice A26 o21.f_l.length c28) o21.f_l :: Bx b25 75 [.slice A26 o21.f_l.length c28] :: Row K38 (.slice A94 o83.V.length c96) o83.V :: Bx b93 28 [.slice A94 o83.V.length c96] :: Γ))) wd643 := H642
                    refine sp_op [(94, .bool true), (99, undef)] (ac (hE640 2 (by decide)) (ac (hE640 7 (by decide)) an)) ?_
                    refine r_not (wn_f rfl rfl (by decide) rfl rfl) ?_
                    exact r_nil (n_lp ⟨_, rfl, undef, rfl, H642⟩)
                  · intro η432 wd648 Δ649 hE645 hR646 H647
                    have H647 : Hp w0 ((Δ649 ++ (Row K38 (.slice A14 y7.V.length c16) y7.V :: Bx b13 28 [.slice A14 y7.V.length c16] :: Row K38 (.slice A26 o21.f_l.length c28) o21.f_l :: Bx b25 75 [.slice A26 o21.f_l.length c28] :: Row K38 (.slice A94 o83.V.length c96) o83.V :: Bx b93 28 [.slice A94 o83.V.length c96] :: Γ))) wd648 := H647
                    refine sp_op [(94, .bool true), (96, undef), (100, undef)] (ac (hE645 2 (by decide)) (ac (hE645 4 (by decide)) (ac (hE645 8 (by decide)) an))) ?_
                    refine r_not (wn_f rfl rfl (by decide) rfl rfl) ?_
                    exact r_nil (n_lp ⟨_, rfl, undef, rfl, H647⟩)
                  · intro η432 wd653 Δ654 hE650 hR651 H652
                    have H652 : Hp w0 ((Δ654 ++ (Row K38 (.slice A14 y7.V.length c16) y7.V :: Bx b13 28 [.slice A14 y7.V.length c16] :: Row K38 (.slice A26 o21.f_l.length c28) o21.f_l :: Bx b25 75 [.slice A26 o21.f_l.length c28] :: Row K38 (.slice A94 o83.V.length c96) o83.V :: Bx b93 28 [.slice A94 o83.V.length c96] :: Γ))) wd653 := H652
                    refine sp_op [(94, .bool true), (101, undef)] (ac (hE650 2 (by decide)) (ac (hE650 9 (by decide)) an)) ?_
                    refine r_pick_t (.bool true) rfl rfl rfl ?_
                    exact r_nil (n_lp ⟨_, rfl, undef, rfl, H652⟩)
                  · intro η432 wd658 Δ659 hE655 hR656 H657
                    have H657 : Hp w0 ((Δ659 ++ (Row K38 (.slice A14 y7.V.length c16) y7.V :: Bx b13 28 [.slice A14 y7.V.length c16] :: Row K38 (.slice A26 o21.f_l.length c28) o21.f_l :: Bx b25 75 [.slice A26 o21.f_l.length c28] :: Row K38 (.slice A94 o83.V.length c96) o83.V :: Bx b93 28 [.slice A94 o83.V.length c96] :: Γ))) wd658 := H657
                    refine sp_op [(102, .bool true)] (ac (hE655 10 (by decide)) an) ?_
                    refine r_pure (.bool true) rfl ?_
                    exact r_nil (n_lp ⟨_, rfl, undef, rfl, H657⟩)
                  · intro η432 wd663 Δ664 hE660 hR661 H662
                    have H662 : Hp w0 ((Δ664 ++ (Row K38 (.slice A14 y7.V.length c16) y7.V :: Bx b13 28 [.slice A14 y7.V.length c16] :: Row K38 (.slice A26 o21.f_l.length c28) o21.f_l :: Bx b25 75 [.slice A26 o21.f_l.length c28] :: Row K38 (.slice A94 o83.V.length c96) o83.V :: Bx b93 28 [.slice A94 o83.V.length c96] :: Γ))) wd663 := H662
                    refine sp_op [(20, .pointer (some ⟨b25, 0, none⟩)), (103, .bool true)] (ac rfl (ac (hE660 11 (by decide)) an)) ?_
                    refine r_pure (.pointer (some ⟨b25, 0, none⟩)) rfl ?_ (wn_t rfl rfl (by decide) rfl rfl)
                    exact r_nil (n_lp ⟨_, rfl, undef, rfl, H662⟩)
                  · intro η432 wd668 Δ669 hE665 hR666 H667
                    have H667 : Hp w0 ((Δ669 ++ (Row K38 (.slice A14 y7.V.length c16) y7.V :: Bx b13 28 [.slice A14 y7.V.length c16] :: Row K38 (.slice A26 o21.f_l.length c28) o21.f_l :: Bx b25 75 [.slice A26 o21.f_l.length c28] :: Row K38 (.slice A94 o83.V.length c96) o83.V :: Bx b93 28 [.slice A94 o83.V.length c96] :: Γ))) wd668 := H667
                    refine sp_op [(103, .bool true), (104, .pointer (some ⟨b25, 0, none⟩))] (ac (hE665 11 (by decide)) (ac (hE665 12 (by decide)) an)) ?_
                    refine r_callf Try.call22 (vintage_Losses_Rows_ok b25 (⟨o21.f_l⟩ : vintage_Losses) A26 o21.f_l.length c28 rfl ((((H667)).tl.g2).cap) (fun _ H => ((H).tl.g2.rd)) (fun _ H => ((H).tl.g3)) y433 H667 hy434) ?_ (wn_t rfl rfl (by decide) rfl rfl)
                    rintro e673 wd672 ⟨A676, n677, c678, rfl, H675⟩
                    obtain rfl := (H675.g0).leneq
                    refine ⟨_, rfl, ?_⟩
                    exact r_nil (n_lp ⟨_, rfl, (.tuple #[.slice A676 y433.length c678]), rfl, H675⟩)
                  · intro η432 wd682 Δ683 hE679 hR680 H681
                    have H681 : Hp w0 ((Δ683 ++ (Row K38 (.slice A14 y7.V.length c16) y7.V :: Bx b13 28 [.slice A14 y7.V.length c16] :: Row K38 (.slice A26 o21.f_l.length c28) o21.f_l :: Bx b25 75 [.slice A26 o21.f_l.length c28] :: Row K38 (.slice A94 o83.V.length c96) o83.V :: Bx b93 28 [.slice A94 o83.V.length c96] :: Γ))) wd682 := H681
                    refine sp_op [(19, .pointer (some ⟨b13, 0, none⟩)), (103, .bool true)] (ac rfl (ac (hE679 11 (by decide)) an)) ?_
                    refine r_pure (.pointer (some ⟨b13, 0, none⟩)) rfl ?_ (wn_t rfl rfl (by decide) rfl rfl)
                    exact r_nil (n_lp ⟨_, rfl, undef, rfl, H681⟩)
                  · intro η432 wd687 Δ688 hE684 hR685 H686
                    have H686 : Hp w0 ((Δ688 ++ (Row K38 (.slice A14 y7.V.length c16) y7.V :: Bx b13 28 [.slice A14 y7.V.length c16] :: Row K38 (.slice A26 o21.f_l.length c28) o21.f_l :: Bx b25 75 [.slice A26 o21.f_l.length c28] :: Row K38 (.slice A94 o83.V.length c96) o83.V :: Bx b93 28 [.slice A94 o83.V.length c96] :: Γ))) wd687 := H686
                    refine sp_op [(103, .bool true), (106, .pointer (some ⟨b13, 0, none⟩))] (ac (hE684 11 (by decide)) (ac (hE684 14 (by decide)) an)) ?_
                    refine r_pure (.pointer (some ⟨b13, 0, none⟩)) rfl ?_ (wn_t rfl rfl (by decide) rfl rfl)
                    exact r_nil (n_lp ⟨_, rfl, undef, rfl, H686⟩)
                  · intro η432 wd692 Δ693 hE689 hR690 H691
                    have H691 : Hp w0 ((Δ693 ++ (Row K38 (.slice A14 y7.V.length c16) y7.V :: Bx b13 28 [.slice A14 y7.V.length c16] :: Row K38 (.slice A26 o21.f_l.length c28) o21.f_l :: Bx b25 75 [.slice A26 o21.f_l.length c28] :: Row K38 (.slice A94 o83.V.length c96) o83.V :: Bx b93 28 [.slice A94 o83.V.length c96] :: Γ))) wd692 := H691
                    refine sp_op [(103, .bool true), (107, .pointer (some ⟨b13, 0, none⟩))] (ac (hE689 11 (by decide)) (ac (hE689 15 (by decide)) an)) ?_
                    refine r_fa FA28_0 ⟨b13, 0, none⟩ rfl rfl ?_ (wn_t rfl rfl (by decide) rfl rfl)
                    exact r_nil (n_lp ⟨_, rfl, undef, rfl, H691⟩)
                  · intro η432 wd697 Δ698 hE694 hR695 H696
                    have H696 : Hp w0 ((Δ698 ++ (Row K38 (.slice A14 y7.V.length c16) y7.V :: Bx b13 28 [.slice A14 y7.V.length c16] :: Row K38 (.slice A26 o21.f_l.length c28) o21.f_l :: Bx b25 75 [.slice A26 o21.f_l.length c28] :: Row K38 (.slice A94 o83.V.length c96) o83.V :: Bx b93 28 [.slice A94 o83.V.length c96] :: Γ))) wd697 := H696
                    refine sp_op [(103, .bool true), (108, .pointer (some ⟨b13, 0, none⟩))] (ac (hE694 11 (by decide)) (ac (hE694 16 (by decide)) an)) ?_
                    refine r_ld1 (.slice A14 y7.V.length c16) LD26 rfl (((H696).tl.g1).cell _ rfl) ?_ (wn_t rfl rfl (by decide) rfl rfl)
                    exact r_nil (n_lp ⟨_, rfl, undef, rfl, H696⟩)
                  · intro η432 wd702 Δ703 hE699 hR700 H701
                    have H701 : Hp w0 ((Δ703 ++ (Row K38 (.slice A14 y7.V.length c16) y7.V :: Bx b13 28 [.slice A14 y7.V.length c16] :: Row K38 (.slice A26 o21.f_l.length c28) o21.f_l :: Bx b25 75 [.slice A26 o21.f_l.length c28] :: Row K38 (.slice A94 o83.V.length c96) o83.V :: Bx b93 28 [.slice A94 o83.V.length c96] :: Γ))) wd702 := H701
                    refine sp_op [(103, .bool true), (105, .slice (vA ((η432 13).1)) y433.length (vC ((η432 13).1))), (109, .slice A14 y7.V.length c16)] (ac (hE699 11 (by decide)) (ac (hE699 13 (by decide)) (ac (hE699 17 (by decide)) an))) ?_
                    refine r_callf Try.call21 (scutagekeep_Same_api_Vintage_ok y433 (vA ((η432 13).1)) y433.length (vC ((η432 13).1)) rfl (((show (Row K38 (.slice (vA ((η432 13).1)) y433.length (vC ((η432 13).1))) y433) _ from ((H701)).memr (hR700 _ (List.mem_of_getElem? (i := 0) rfl) rfl))).cap) (fun _ H => ((show (Row K38 (.slice (vA ((η432 13).1)) y433.length (vC ((η432 13).1))) y433) _ from (H).memr (hR700 _ (List.mem_of_getElem? (i := 0) rfl) rfl)).rd)) y7.V A14 y7.V.length c16 rfl ((((H701)).tl.g0).cap) (fun _ H => ((H).tl.g0.rd)) y442 H701 hy443) ?_ (wn_t rfl rfl (by decide) rfl rfl)
                    rintro e707 wd706 ⟨rfl, H709⟩
                    refine ⟨_, rfl, ?_⟩
                    exact r_nil (n_lp ⟨_, rfl, undef, rfl, H709⟩)
                  · intro η432 wd713 Δ714 hE710 hR711 H712
                    have H712 : Hp w0 ((Δ714 ++ (Row K38 (.slice A14 y7.V.length c16) y7.V :: Bx b13 28 [.slice A14 y7.V.length c16] :: Row K38 (.slice A26 o21.f_l.length c28) o21.f_l :: Bx b25 75 [.slice A26 o21.f_l.length c28] :: Row K38 (.slice A94 o83.V.length c96) o83.V :: Bx b93 28 [.slice A94 o83.V.length c96] :: Γ))) wd713 := H712
                    refine sp_op [(103, .bool true), (110, .bool y442)] (ac (hE710 11 (by decide)) (ac (hE710 18 (by decide)) an)) ?_
                    refine r_pick_t (.bool y442) rfl rfl rfl ?_
                    exact r_nil (n_lp ⟨_, rfl, undef, rfl, H712⟩)
                  · intro η432 wd718 Δ719 hE715 hR716 H717
                    have H717 : Hp w0 ((Δ719 ++ (Row K38 (.slice A14 y7.V.length c16) y7.V :: Bx b13 28 [.slice A14 y7.V.length c16] :: Row K38 (.slice A26 o21.f_l.length c28) o21.f_l :: Bx b25 75 [.slice A26 o21.f_l.length c28] :: Row K38 (.slice A94 o83.V.length c96) o83.V :: Bx b93 28 [.slice A94 o83.V.length c96] :: Γ))) wd718 := H717
                    refine sp_op [(111, .bool y442)] (ac (hE715 19 (by decide)) an) ?_
                    refine r_pure (.bool y442) rfl ?_
                    exact r_nil (n_lp ⟨_, rfl, undef, rfl, H717⟩)
                  · intro η432 wd723 Δ724 hE720 hR721 H722
                    have H722 : Hp w0 ((Δ724 ++ (Row K38 (.slice A14 y7.V.length c16) y7.V :: Bx b13 28 [.slice A14 y7.V.length c16] :: Row K38 (.slice A26 o21.f_l.length c28) o21.f_l :: Bx b25 75 [.slice A26 o21.f_l.length c28] :: Row K38 (.slice A94 o83.V.length c96) o83.V :: Bx b93 28 [.slice A94 o83.V.length c96] :: Γ))) wd723 := H722
                    refine sp_op [(112, .bool y442)] (ac (hE720 20 (by decide)) an) ?_
                    refine r_not (wn_f rfl rfl (by decide) rfl hb448) ?_
                    exact r_nil (n_lp ⟨_, rfl, undef, rfl, H722⟩)
                  · intro η432 wd728 Δ729 hE725 hR726 H727
                    have H727 : Hp w0 ((Δ729 ++ (Row K38 (.slice A14 y7.V.length c16) y7.V :: Bx b13 28 [.slice A14 y7.V.length c16] :: Row K38 (.slice A26 o21.f_l.length c28) o21.f_l :: Bx b25 75 [.slice A26 o21.f_l.length c28] :: Row K38 (.slice A94 o83.V.length c96) o83.V :: Bx b93 28 [.slice A94 o83.V.length c96] :: Γ))) wd728 := H727
                    refine sp_op [(112, .bool y442), (113, undef)] (ac (hE725 20 (by decide)) (ac (hE725 21 (by decide)) an)) ?_
                    refine r_pick_f (.bool false) hb448 rfl rfl ?_
                    exact r_nil (n_lp ⟨_, rfl, undef, rfl, H727⟩)
                  · intro η432 wd733 Δ734 hE730 hR731 H732
                    have H732 : Hp w0 ((Δ734 ++ (Row K38 (.slice A14 y7.V.length c16) y7.V :: Bx b13 28 [.slice A14 y7.V.length c16] :: Row K38 (.slice A26 o21.f_l.length c28) o21.f_l :: Bx b25 75 [.slice A26 o21.f_l.length c28] :: Row K38 (.slice A94 o83.V.length c96) o83.V :: Bx b93 28 [.slice A94 o83.V.length c96] :: Γ))) wd733 := H732
                    refine sp_op [(114, .bool false)] (ac (hE730 22 (by decide)) an) ?_
                    refine r_pure (.bool false) rfl ?_
                    exact r_nil (n_lp ⟨_, rfl, undef, rfl, H732⟩)
                  · intro η432 wd736 hV737 H735
                    have H738 : Hp w0 (Row K38 (.slice (vA ((η432 13).1)) y433.length (vC ((η432 13).1))) y433 :: Row K38 (.slice A14 y7.V.length c16) y7.V :: Bx b13 28 [.slice A14 y7.V.length c16] :: Row K38 (.slice A26 o21.f_l.length c28) o21.f_l :: Bx b25 75 [.slice A26 o21.f_l.length c28] :: Row K38 (.slice A94 o83.V.length c96) o83.V :: Bx b93 28 [.slice A94 o83.V.length c96] :: Γ) wd736 := H735
                    refine n_frame [(18, .bool false)] (ac (hV737 23 rfl) an) ?_
                    refine n_cut ⟨false, upk (ac rfl an), H738.d.d.d.d.d.d.d, hm⟩
              · rintro ρ w ⟨q430, ⟨base, rfl⟩, H431, hm⟩
                unfold scutagelaw15_CurrentTells.j5 at hm
                have hq_ := Option.some.inj hm
                subst hq_
                refine st_ret1 rfl rfl (Nat.le_of_ble_eq_true rfl) rfl ?_
                exact ⟨rfl, H431⟩
      · subst hn61
        obtain rfl := (H60.g0).leneq
        obtain rfl := (H60.g2).leneq
        have hm : ((scutageref09_Tax (⟨y7.V⟩ : scutageref09_Losses) y29 y35 y41 v47 v48 v49 v50).bind fun (y752, y753, y754) => match y753 with | none => (if (y54 != y754) = true then scutagelaw15_CurrentTells.j6 o58 true else ((scutagelaw15_Same y52 y752).bind fun y791 => (if (!y791) = true then scutagelaw15_CurrentTells.j6 o58 true else scutagelaw15_CurrentTells.j6 o58 (!(true == (y54 == 0)))))) | some o758 => (if (y54 != y754) = true then scutagelaw15_CurrentTells.j7 o58 o758 o21 y7 true else ((scutagelaw15_Same y52 y752).bind fun y1301 => (if (!y1301) = true then scutagelaw15_CurrentTells.j7 o58 o758 o21 y7 true else scutagelaw15_CurrentTells.j7 o58 o758 o21 y7 (!(true == (y54 == 0))))))) = some r0_ := hm
        refine ⟨_, rfl, ?_⟩
        refine r_pure (.tuple #[.agg #[.int .i64 y52.Income, .int .i64 y52.Expired, .int .i64 y52.Used, .int .i64 y52.New, .int .i64 y52.Taxable, .int .i64 y52.Tax, .slice A65 y52.Vector.length c67], .pointer (some ⟨b68, 0, none⟩), .int .i64 y54]) rfl ?_
        refine r_pure (.agg #[.int .i64 y52.Income, .int .i64 y52.Expired, .int .i64 y52.Used, .int .i64 y52.New, .int .i64 y52.Taxable, .int .i64 y52.Tax, .slice A65 y52.Vector.length c67]) rfl ?_
        refine r_pure (.pointer (some ⟨b68, 0, none⟩)) rfl ?_
        refine r_pure (.int .i64 y54) rfl ?_
        refine r_alloc [.int .i64 0, .int .i64 0, .int .i64 0, .int .i64 0, .int .i64 0, .int .i64 0, .slice none 0 0] Try.zeroValue59 H60 rfl ?_
        intro b747 wd749 H748
        refine r_stA [.int .i64 y52.Income, .int .i64 y52.Expired, .int .i64 y52.Used, .int .i64 y52.New, .int .i64 y52.Taxable, .int .i64 y52.Tax, .slice A65 y52.Vector.length c67] LD59 rfl rfl rfl rfl H748 (Nat.le_of_ble_eq_true rfl) rfl ?_
        intro wd751 H750
        refine r_pure (.pointer (some ⟨b68, 0, none⟩)) rfl ?_
        refine r_pure (.int .i64 y54) rfl ?_
        refine r_seq ?_
        refine st_seq ?_
        refine st_region ?_
        refine r_pure (.pointer (some ⟨b13, 0, none⟩)) rfl ?_
        refine r_pure (.int .i64 y29) rfl ?_
        refine r_pure (.int .i64 y35) rfl ?_
        refine r_pure (.int .i64 y41) rfl ?_
        refine r_pure (.int .i64 v47) rfl ?_
        refine r_pure (.int .i64 v48) rfl ?_
        refine r_pure (.int .i64 v49) rfl ?_
        refine r_pure (.int .i64 v50) rfl ?_
        obtain ⟨⟨y752, y753, y754⟩, hy755, hm⟩ := bind_some hm
        refine r_callf Try.call41 (scutageref09_Tax_ok b13 (⟨y7.V⟩ : scutageref09_Losses) A14 y7.V.length c16 rfl (((H750).g4).cap) (fun _ H => (H.g4.rd)) (fun _ H => (H.g5)) y29 y35 y41 v47 v48 v49 v50 y752 y753 y754 H750 hy755) ?_
        rintro e757 wd756 (⟨hn761, A762, n763, c764, rfl, H759⟩ | ⟨o758, hn761, A765, n766, c767, b768, A769, n770, c771, rfl, H760⟩)
        · subst hn761
          obtain rfl := (H759.g0).leneq
          have hm : (if (y54 != y754) = true then scutagelaw15_CurrentTells.j6 o58 true else ((scutagelaw15_Same y52 y752).bind fun y791 => (if (!y791) = true then scutagelaw15_CurrentTells.j6 o58 true else scutagelaw15_CurrentTells.j6 o58 (!(true == (y54 == 0)))))) = some r0_ := hm
          refine ⟨_, rfl, ?_⟩
          refine r_pure (.tuple #[.agg #[.int .i64 y752.Income, .int .i64 y752.Expired, .int .i64 y752.Used, .int .i64 y752.New, .int .i64 y752.Taxable, .int .i64 y752.Tax, .slice A762 y752.Vector.length c764], .pointer none, .int .i64 y754]) rfl ?_
          refine r_pure (.agg #[.int .i64 y752.Income, .int .i64 y752.Expired, .int .i64 y752.Used, .int .i64 y752.New, .int .i64 y752.Taxable, .int .i64 y752.Tax, .slice A762 y752.Vector.length c764]) rfl ?_
          refine r_pure (.pointer none) rfl ?_
          refine r_pure (.int .i64 y754) rfl ?_
          refine r_alloc [.int .i64 0, .int .i64 0, .int .i64 0, .int .i64 0, .int .i64 0, .int .i64 0, .slice none 0 0] Try.zeroValue69 H759 rfl ?_
          intro b772 wd774 H773
          refine r_stA [.int .i64 y752.Income, .int .i64 y752.Expired, .int .i64 y752.Used, .int .i64 y752.New, .int .i64 y752.Taxable, .int .i64 y752.Tax, .slice A762 y752.Vector.length c764] LD69 rfl rfl rfl rfl H773 (Nat.le_of_ble_eq_true rfl) rfl ?_
          intro wd776 H775
          refine r_pure (.pointer none) rfl ?_
          refine r_pure (.int .i64 y754) rfl ?_
          refine r_seq ?_
          refine st_seq ?_
          refine st_cut (fun ρ w => ∃ q777 : Bool, (∃ base, ρ = updl base [(19, .pointer (some ⟨b13, 0, none⟩)), (20, .pointer (some ⟨b25, 0, none⟩)), (22, .pointer (some ⟨b68, 0, none⟩)), (25, .pointer none), (91, .bool q777)]) ∧ Hp w0 (Row K38 (.slice A14 y7.V.length c16) y7.V :: Bx b13 28 [.slice A14 y7.V.length c16] :: Row K38 (.slice A26 o21.f_l.length c28) o21.f_l :: Bx b25 75 [.slice A26 o21.f_l.length c28] :: Row K38 (.slice A69 o58.f_l.length c71) o58.f_l :: Bx b68 75 [.slice A69 o58.f_l.length c71] :: Γ) w ∧ scutagelaw15_CurrentTells.j6 o58 q777 = some r0_) ?_ ?_
          · refine st_region ?_
            refine r_pure (.int .i64 y54) rfl ?_
            refine r_pure (.int .i64 y754) rfl ?_
            refine r_pure (.bool (y54 != y754)) rfl ?_
            refine r_pure (.bool (y54 != y754)) rfl ?_
            rcases ite_some hm with ⟨hb790, hm⟩ | ⟨hb790, hm⟩
            · refine r_not (wn_f rfl rfl (by decide) rfl hb790) ?_
              refine r_not (wn_f rfl rfl (by decide) rfl hb790) ?_
              refine r_not (wn_f rfl rfl (by decide) rfl hb790) ?_
              refine r_not (wn_f rfl rfl (by decide) rfl hb790) ?_
              refine r_pick_t (.bool true) hb790 rfl rfl ?_
              refine r_pure (.bool true) rfl ?_
              refine r_not (wn_f rfl rfl (by decide) rfl rfl) ?_
              refine r_not (wn_f rfl rfl (by decide) rfl rfl) ?_
              refine r_not (wn_f rfl rfl (by decide) rfl rfl) ?_
              refine r_not (wn_f rfl rfl (by decide) rfl rfl) ?_
              refine r_not (wn_f rfl rfl (by decide) rfl rfl) ?_
              refine r_pick_t (.bool true) rfl rfl rfl ?_
              refine r_nil ?_
              refine n_cut ⟨true, upk (ac rfl (ac rfl (ac rfl (ac rfl (ac rfl an))))), H775.d.d.d.d.u1.u5.u5.u5.u5, hm⟩
            · refine r_ldA [.int .i64 y52.Income, .int .i64 y52.Expired, .int .i64 y52.Used, .int .i64 y52.New, .int .i64 y52.Taxable, .int .i64 y52.Tax, .slice A65 y52.Vector.length c67] LD59 rfl rfl ((H775.g2).cells rfl) ?_ (wn_t rfl rfl (by decide) rfl hb790)
              refine r_ldA [.int .i64 y752.Income, .int .i64 y752.Expired, .int .i64 y752.Used, .int .i64 y752.New, .int .i64 y752.Taxable, .int .i64 y752.Tax, .slice A762 y752.Vector.length c764] LD69 rfl rfl ((H775.g0).cells rfl) ?_ (wn_t rfl rfl (by decide) rfl hb790)
              obtain ⟨y791, hy792, hm⟩ := bind_some hm
              refine r_callf Try.call42 (scutagelaw15_Same_ok y52 A65 y52.Vector.length c67 rfl (((H775).g3).cap) (fun _ H => (H.g3.rd)) y752 A762 y752.Vector.length c764 rfl (((H775).g1).cap) (fun _ H => (H.g1.rd)) y791 H775 hy792) ?_ (wn_t rfl rfl (by decide) rfl hb790)
              rintro e794 wd793 ⟨rfl, H796⟩
              refine ⟨_, rfl, ?_⟩
              refine r_pure (.bool (!y791)) rfl ?_ (wn_t rfl rfl (by decide) rfl hb790)
              refine r_pick_f (.bool (!y791)) hb790 rfl rfl ?_
              refine r_pure (.bool (!y791)) rfl ?_
              rcases ite_some hm with ⟨hb797, hm⟩ | ⟨hb797, hm⟩
              · refine r_not (wn_f rfl rfl (by decide) rfl hb797) ?_
                refine r_not (wn_f rfl rfl (by decide) rfl hb797) ?_
                refine r_not (wn_f rfl rfl (by decide) rfl hb797) ?_
                refine r_not (wn_f rfl rfl (by decide) rfl hb797) ?_
                refine r_not (wn_f rfl rfl (by decide) rfl hb797) ?_
                refine r_pick_t (.bool true) hb797 rfl rfl ?_
                refine r_nil ?_
                refine n_cut ⟨true, upk (ac rfl (ac rfl (ac rfl (ac rfl (ac rfl an))))), H796.d.d.d.d.u1.u5.u5.u5.u5, hm⟩
              · refine r_pure (.pointer (some ⟨b68, 0, none⟩)) rfl ?_ (wn_t rfl rfl (by decide) rfl hb797)
                refine r_nen Try.underlying23 rfl rfl ?_ (wn_t rfl rfl (by decide) rfl hb797)
                refine r_pure (.int .i64 y54) rfl ?_ (wn_t rfl rfl (by decide) rfl hb797)
                refine r_pure (.bool (y54 == 0)) rfl ?_ (wn_t rfl rfl (by decide) rfl hb797)
                refine r_neb Try.underlying4 rfl rfl ?_ (wn_t rfl rfl (by decide) rfl hb797)
                refine r_pick_f (.bool (!(true == (y54 == 0)))) hb797 rfl rfl ?_
                refine r_nil ?_
                refine n_cut ⟨!(true == (y54 == 0)), upk (ac rfl (ac rfl (ac rfl (ac rfl (ac rfl an))))), H796.d.d.d.d.u1.u5.u5.u5.u5, hm⟩
          · rintro ρ w ⟨q777, ⟨base, rfl⟩, H778, hm⟩
            unfold scutagelaw15_CurrentTells.j6 at hm
            rcases ite_some hm with ⟨hb779, hm⟩ | ⟨hb779, hm⟩
            · refine st_condt hb779 rfl ?_
              refine st_seq ?_
              refine st_region ?_
              refine r_pure (.bool false) rfl ?_
              refine r_seq ?_
              have hq_ := Option.some.inj hm
              subst hq_
              refine st_ret1 rfl rfl (Nat.le_of_ble_eq_true rfl) rfl ?_
              exact ⟨rfl, H778.d.d.d.d.d.d⟩
            · refine st_condf hb779 rfl ?_
              refine st_skip ?_
              refine n_sq ?_
              refine st_seq ?_
              obtain ⟨y781, hy782, hm⟩ := bind_some hm
              cases hm
        · subst hn761
          obtain rfl := (H760.g0).leneq
          obtain rfl := (H760.g2).leneq
          have hm : (if (y54 != y754) = true then scutagelaw15_CurrentTells.j7 o58 o758 o21 y7 true else ((scutagelaw15_Same y52 y752).bind fun y1301 => (if (!y1301) = true then scutagelaw15_CurrentTells.j7 o58 o758 o21 y7 true else scutagelaw15_CurrentTells.j7 o58 o758 o21 y7 (!(true == (y54 == 0)))))) = some r0_ := hm
          refine ⟨_, rfl, ?_⟩
          refine r_pure (.tuple #[.agg #[.int .i64 y752.Income, .int .i64 y752.Expired, .int .i64 y752.Used, .int .i64 y752.New, .int .i64 y752.Taxable, .int .i64 y752.Tax, .slice A765 y752.Vector.length c767], .pointer (some ⟨b768, 0, none⟩), .int .i64 y754]) rfl ?_
          refine r_pure (.agg #[.int .i64 y752.Income, .int .i64 y752.Expired, .int .i64 y752.Used, .int .i64 y752.New, .int .i64 y752.Taxable, .int .i64 y752.Tax, .slice A765 y752.Vector.length c767]) rfl ?_
          refine r_pure (.pointer (some ⟨b768, 0, none⟩)) rfl ?_
          refine r_pure (.int .i64 y754) rfl ?_
          refine r_alloc [.int .i64 0, .int .i64 0, .int .i64 0, .int .i64 0, .int .i64 0, .int .i64 0, .slice none 0 0] Try.zeroValue69 H760 rfl ?_
          intro b798 wd800 H799
          refine r_stA [.int .i64 y752.Income, .int .i64 y752.Expired, .int .i64 y752.Used, .int .i64 y752.New, .int .i64 y752.Taxable, .int .i64 y752.Tax, .slice A765 y752.Vector.length c767] LD69 rfl rfl rfl rfl H799 (Nat.le_of_ble_eq_true rfl) rfl ?_
          intro wd802 H801
          refine r_pure (.pointer (some ⟨b768, 0, none⟩)) rfl ?_
          refine r_pure (.int .i64 y754) rfl ?_
          refine r_seq ?_
          refine st_seq ?_
          refine st_cut (fun ρ w => ∃ q803 : Bool, (∃ base, ρ = updl base [(19, .pointer (some ⟨b13, 0, none⟩)), (20, .pointer (some ⟨b25, 0, none⟩)), (22, .pointer (some ⟨b68, 0, none⟩)), (25, .pointer (some ⟨b768, 0, none⟩)), (91, .bool q803)]) ∧ Hp w0 (Row K38 (.slice A14 y7.V.length c16) y7.V :: Bx b13 28 [.slice A14 y7.V.length c16] :: Row K38 (.slice A26 o21.f_l.length c28) o21.f_l :: Bx b25 75 [.slice A26 o21.f_l.length c28] :: Row K38 (.slice A69 o58.f_l.length c71) o58.f_l :: Bx b68 75 [.slice A69 o58.f_l.length c71] :: Row K38 (.slice A769 o758.V.length c771) o758.V :: Bx b768 28 [.slice A769 o758.V.length c771] :: Γ) w ∧ scutagelaw15_CurrentTells.j7 o58 o758 o21 y7 q803 = some r0_) ?_ ?_
          · refine st_region ?_
            refine r_pure (.int .i64 y54) rfl ?_
            refine r_pure (.int .i64 y754) rfl ?_
            refine r_pure (.bool (y54 != y754)) rfl ?_
            refine r_pure (.bool (y54 != y754)) rfl ?_
            rcases ite_some hm with ⟨hb1300, hm⟩ | ⟨hb1300, hm⟩
            · refine r_not (wn_f rfl rfl (by decide) rfl hb1300) ?_
              refine r_not (wn_f rfl rfl (by decide) rfl hb1300) ?_
              refine r_not (wn_f rfl rfl (by decide) rfl hb1300) ?_
              refine r_not (wn_f rfl rfl (by decide) rfl hb1300) ?_
              refine r_pick_t (.bool true) hb1300 rfl rfl ?_
              refine r_pure (.bool true) rfl ?_
              refine r_not (wn_f rfl rfl (by decide) rfl rfl) ?_
              refine r_not (wn_f rfl rfl (by decide) rfl rfl) ?_
              refine r_not (wn_f rfl rfl (by decide) rfl rfl) ?_
              refine r_not (wn_f rfl rfl (by decide) rfl rfl) ?_
              refine r_not (wn_f rfl rfl (by decide) rfl rfl) ?_
              refine r_pick_t (.bool true) rfl rfl rfl ?_
              refine r_nil ?_
              refine n_cut ⟨true, upk (ac rfl (ac rfl (ac rfl (ac rfl (ac rfl an))))), H801.d.d.u2.d.u2.d.u1.u2.u3.u7.u7.u7.u7, hm⟩
            · refine r_ldA [.int .i64 y52.Income, .int .i64 y52.Expired, .int .i64 y52.Used, .int .i64 y52.New, .int .i64 y52.Taxable, .int .i64 y52.Tax, .slice A65 y52.Vector.length c67] LD59 rfl rfl ((H801.g4).cells rfl) ?_ (wn_t rfl rfl (by decide) rfl hb1300)
              refine r_ldA [.int .i64 y752.Income, .int .i64 y752.Expired, .int .i64 y752.Used, .int .i64 y752.New, .int .i64 y752.Taxable, .int .i64 y752.Tax, .slice A765 y752.Vector.length c767] LD69 rfl rfl ((H801.g0).cells rfl) ?_ (wn_t rfl rfl (by decide) rfl hb1300)
              obtain ⟨y1301, hy1302, hm⟩ := bind_some hm
              refine r_callf Try.call42 (scutagelaw15_Same_ok y52 A65 y52.Vector.length c67 rfl (((H801).g5).cap) (fun _ H => (H.g5.rd)) y752 A765 y752.Vector.length c767 rfl (((H801).g1).cap) (fun _ H => (H.g1.rd)) y1301 H801 hy1302) ?_ (wn_t rfl rfl (by decide) rfl hb1300)
              rintro e1304 wd1303 ⟨rfl, H1306⟩
              refine ⟨_, rfl, ?_⟩
              refine r_pure (.bool (!y1301)) rfl ?_ (wn_t rfl rfl (by decide) rfl hb1300)
              refine r_pick_f (.bool (!y1301)) hb1300 rfl rfl ?_
              refine r_pure (.bool (!y1301)) rfl ?_
              rcases ite_some hm with ⟨hb1307, hm⟩ | ⟨hb1307, hm⟩
              · refine r_not (wn_f rfl rfl (by decide) rfl hb1307) ?_
                refine r_not (wn_f rfl rfl (by decide) rfl hb1307) ?_
                refine r_not (wn_f rfl rfl (by decide) rfl hb1307) ?_
                refine r_not (wn_f rfl rfl (by decide) rfl hb1307) ?_
                refine r_not (wn_f rfl rfl (by decide) rfl hb1307) ?_
                refine r_pick_t (.bool true) hb1307 rfl rfl ?_
                refine r_nil ?_
                refine n_cut ⟨true, upk (ac rfl (ac rfl (ac rfl (ac rfl (ac rfl an))))), H1306.d.d.u2.d.u2.d.u1.u2.u3.u7.u7.u7.u7, hm⟩
              · refine r_pure (.pointer (some ⟨b68, 0, none⟩)) rfl ?_ (wn_t rfl rfl (by decide) rfl hb1307)
                refine r_nen Try.underlying23 rfl rfl ?_ (wn_t rfl rfl (by decide) rfl hb1307)
                refine r_pure (.int .i64 y54) rfl ?_ (wn_t rfl rfl (by decide) rfl hb1307)
                refine r_pure (.bool (y54 == 0)) rfl ?_ (wn_t rfl rfl (by decide) rfl hb1307)
                refine r_neb Try.underlying4 rfl rfl ?_ (wn_t rfl rfl (by decide) rfl hb1307)
                refine r_pick_f (.bool (!(true == (y54 == 0)))) hb1307 rfl rfl ?_
                refine r_nil ?_
                refine n_cut ⟨!(true == (y54 == 0)), upk (ac rfl (ac rfl (ac rfl (ac rfl (ac rfl an))))), H1306.d.d.u2.d.u2.d.u1.u2.u3.u7.u7.u7.u7, hm⟩
          · rintro ρ w ⟨q803, ⟨base, rfl⟩, H804, hm⟩
            unfold scutagelaw15_CurrentTells.j7 at hm
            rcases ite_some hm with ⟨hb805, hm⟩ | ⟨hb805, hm⟩
            · refine st_condt hb805 rfl ?_
              refine st_seq ?_
              refine st_region ?_
              refine r_pure (.bool false) rfl ?_
              refine r_seq ?_
              have hq_ := Option.some.inj hm
              subst hq_
              refine st_ret1 rfl rfl (Nat.le_of_ble_eq_true rfl) rfl ?_
              exact ⟨rfl, H804.d.d.d.d.d.d.d.d⟩
            · refine st_condf hb805 rfl ?_
              refine st_skip ?_
              refine n_sq ?_
              refine st_cut (fun ρ w => ∃ q806 : Bool, (∃ base, ρ = updl base [(18, .bool q806)]) ∧ Hp w0 (Γ) w ∧ scutagelaw15_CurrentTells.j8 q806 = some r0_) ?_ ?_
              · obtain ⟨y809, hy810, hm⟩ := bind_some hm
                obtain ⟨y818, hy819, hm⟩ := bind_some hm
                rcases ite_some hm with ⟨hb824, hm⟩ | ⟨hb824, hm⟩
                · obtain ⟨y825, hy826, hm⟩ := bind_some hm
                  obtain ⟨y834, hy835, hm⟩ := bind_some hm
                  rcases ite_some hm with ⟨hb840, hm⟩ | ⟨hb840, hm⟩
                  · obtain ⟨y841, hy842, hm⟩ := bind_some hm
                    refine Flow.run' [[], [0], [0, 1], [0, 1, 2], [0, 1, 2, 3], [0, 1, 2], [0, 1, 2, 5], [0, 1, 2, 5, 6], [0, 1, 2, 5, 6, 7], [0, 1, 2, 3, 4, 5, 6, 7, 8], [0, 1, 2, 3, 4, 5, 6, 7, 8, 9], [0, 1, 2, 3, 4, 5, 6, 7, 8, 9, 10], [0, 1, 2, 3, 4, 5, 6, 7, 8, 9, 10, 11], [0, 1, 2, 3, 4, 5, 6, 7, 8, 9, 10, 11, 12], [0, 1, 2, 3, 4, 5, 6, 7, 8, 9, 10, 11], [0, 1, 2, 3, 4, 5, 6, 7, 8, 9, 10, 11, 14], [0, 1, 2, 3, 4, 5, 6, 7, 8, 9, 10, 11, 14, 15], [0, 1, 2, 3, 4, 5, 6, 7, 8, 9, 10, 11, 14, 15, 16], [0, 1, 2, 3, 4, 5, 6, 7, 8, 9, 10, 11, 12, 13, 14, 15, 16, 17], [0, 1, 2, 3, 4, 5, 6, 7, 8, 9, 10, 11, 12, 13, 14, 15, 16, 17, 18], [0, 1, 2, 3, 4, 5, 6, 7, 8, 9, 10, 11, 12, 13, 14, 15, 16, 17, 18, 19], [0, 1, 2, 3, 4, 5, 6, 7, 8, 9, 10, 11, 12, 13, 14, 15, 16, 17, 18, 19, 20], [0, 1, 2, 3, 4, 5, 6, 7, 8, 9, 10, 11, 12, 13, 14, 15, 16, 17, 18, 19, 20, 21], [0, 1, 2, 3, 4, 5, 6, 7, 8, 9, 10, 11, 12, 13, 14, 15, 16, 17, 18, 19, 20, 21, 22]] [(92, 0), (93, 1), (94, 2), (95, 3), (96, 4), (97, 5), (98, 6), (99, 7), (100, 8), (101, 9), (102, 10), (103, 11), (104, 12), (105, 13), (106, 14), (107, 15), (108, 16), (109, 17), (110, 18), (111, 19), (112, 20), (113, 21), (114, 22), (18, 23)] [(fun η808 v => v.1 = .pointer (some ⟨b68, 0, none⟩)), (fun η808 v => v.1 = .bool false), (fun η808 v => v.1 = .bool false), (fun η808 v => v.1 = .pointer (some ⟨b68, 0, none⟩)), (fun η808 v => v.1 = .slice (vA (v.1)) y809.length (vC (v.1))), (fun η808 v => v.1 = .pointer (some ⟨b768, 0, none⟩)), (fun η808 v => v.1 = .pointer (some ⟨b768, 0, none⟩)), (fun η808 v => v.1 = .pointer (some ⟨b768, 0, none⟩)), (fun η808 v => v.1 = .slice A769 o758.V.length c771), (fun η808 v => v.1 = .bool y818), (fun η808 v => v.1 = .bool y818), (fun η808 v => v.1 = .bool y818), (fun η808 v => v.1 = .pointer (some ⟨b25, 0, none⟩)), (fun η808 v => v.1 = .slice (vA (v.1)) y825.length (vC (v.1))), (fun η808 v => v.1 = .pointer (some ⟨b13, 0, none⟩)), (fun η808 v => v.1 = .pointer (some ⟨b13, 0, none⟩)), (fun η808 v => v.1 = .pointer (some ⟨b13, 0, none⟩)), (fun η808 v => v.1 = .slice A14 y7.V.length c16), (fun η808 v => v.1 = .bool y834), (fun η808 v => v.1 = .bool y834), (fun η808 v => v.1 = .bool y834), (fun η808 v => v.1 = .bool y841), (fun η808 v => v.1 = .bool y841), (fun η808 v => v.1 = .bool y841)] [⟨(some 4), none, fun η808 => Row K38 (.slice (vA ((η808 4).1)) y809.length (vC ((η808 4).1))) y809⟩, ⟨(some 13), none, fun η808 => Row K38 (.slice (vA ((η808 13).1)) y825.length (vC ((η808 13).1))) y825⟩] rfl (by kernel_rfl) (by kernel_rfl) H804 ⟨?_, ?_, ?_, ?_, ?_, ?_, ?_, ?_, ?_, ?_, ?_, ?_, ?_, ?_, ?_, ?_, ?_, ?_, ?_, ?_, ?_, ?_, ?_, ?_, trivial⟩ ?_
                    · intro η808 wd850 Δ851 hE847 hR848 H849
                      have H849 : Hp w0 ((Δ851 ++ (Row K38 (.slice A14 y7.V.length c16) y7.V :: Bx b13 28 [.slice A14 y7.V.length c16] :: Row K38 (.slice A26 o21.f_l.length c28) o21.f_l :: Bx b25 75 [.slice A26 o21.f_l.length c28] :: Row K38 (.slice A69 o58.f_l.length c71) o58.f_l :: Bx b68 75 [.slice A69 o58.f_l.length c71] :: Row K38 (.slice A769 o758.V.length c771) o758.V :: Bx b768 28 [.slice A769 o758.V.length c771] :: Γ))) wd850 := H849
                      refine sp_op [(22, .pointer (some ⟨b68, 0, none⟩))] (ac rfl an) ?_
                      refine r_pure (.pointer (some ⟨b68, 0, none⟩)) rfl ?_
                      exact r_nil (n_lp ⟨_, rfl, undef, rfl, H849⟩)
                    · intro η808 wd855 Δ856 hE852 hR853 H854
                      have H854 : Hp w0 ((Δ856 ++ (Row K38 (.slice A14 y7.V.length c16) y7.V :: Bx b13 28 [.slice A14 y7.V.length c16] :: Row K38 (.slice A26 o21.f_l.length c28) o21.f_l :: Bx b25 75 [.slice A26 o21.f_l.length c28] :: Row K38 (.slice A69 o58.f_l.length c71) o58.f_l :: Bx b68 75 [.slice A69 o58.f_l.length c71] :: Row K38 (.slice A769 o758.V.length c771) o758.V :: Bx b768 28 [.slice A769 o758.V.length c771] :: Γ))) wd855 := H854
                      refine sp_op [(92, .pointer (some ⟨b68, 0, none⟩))] (ac (hE852 0 (by decide)) an) ?_
                      refine r_eqn Try.underlying23 rfl rfl ?_
                      exact r_nil (n_lp ⟨_, rfl, undef, rfl, H854⟩)
                    · intro η808 wd860 Δ861 hE857 hR858 H859
                      have H859 : Hp w0 ((Δ861 ++ (Row K38 (.slice A14 y7.V.length c16) y7.V :: Bx b13 28 [.slice A14 y7.V.length c16] :: Row K38 (.slice A26 o21.f_l.length c28) o21.f_l :: Bx b25 75 [.slice A26 o21.f_l.length c28] :: Row K38 (.slice A69 o58.f_l.length c71) o58.f_l :: Bx b68 75 [.slice A69 o58.f_l.length c71] :: Row K38 (.slice A769 o758.V.length c771) o758.V :: Bx b768 28 [.slice A769 o758.V.length c771] :: Γ))) wd860 := H859
                      refine sp_op [(93, .bool false)] (ac (hE857 1 (by decide)) an) ?_
                      refine r_pure (.bool false) rfl ?_
                      exact r_nil (n_lp ⟨_, rfl, undef, rfl, H859⟩)
                    · intro η808 wd865 Δ866 hE862 hR863 H864
                      have H864 : Hp w0 ((Δ866 ++ (Row K38 (.slice A14 y7.V.length c16) y7.V :: Bx b13 28 [.slice A14 y7.V.length c16] :: Row K38 (.slice A26 o21.f_l.length c28) o21.f_l :: Bx b25 75 [.slice A26 o21.f_l.length c28] :: Row K38 (.slice A69 o58.f_l.length c71) o58.f_l :: Bx b68 75 [.slice A69 o58.f_l.length c71] :: Row K38 (.slice A769 o758.V.length c771) o758.V :: Bx b768 28 [.slice A769 o758.V.length c771] :: Γ))) wd865 := H864
                      refine sp_op [(22, .pointer (some ⟨b68, 0, none⟩)), (94, .bool false)] (ac rfl (ac (hE862 2 (by decide)) an)) ?_
                      refine r_pure (.pointer (some ⟨b68, 0, none⟩)) rfl ?_ (wn_t rfl rfl (by decide) rfl rfl)
                      exact r_nil (n_lp ⟨_, rfl, undef, rfl, H864⟩)
                    · intro η808 wd870 Δ871 hE867 hR868 H869
                      have H869 : Hp w0 ((Δ871 ++ (Row K38 (.slice A14 y7.V.length c16) y7.V :: Bx b13 28 [.slice A14 y7.V.length c16] :: Row K38 (.slice A26 o21.f_l.length c28) o21.f_l :: Bx b25 75 [.slice A26 o21.f_l.length c28] :: Row K38 (.slice A69 o58.f_l.length c71) o58.f_l :: Bx b68 75 [.slice A69 o58.f_l.length c71] :: Row K38 (.slice A769 o758.V.length c771) o758.V :: Bx b768 28 [.slice A769 o758.V.length c771] :: Γ))) wd870 := H869
                      refine sp_op [(94, .bool false), (95, .pointer (some ⟨b68, 0, none⟩))] (ac (hE867 2 (by decide)) (ac (hE867 3 (by decide)) an)) ?_
                      refine r_callf Try.call22 (vintage_Losses_Rows_ok b68 (⟨o58.f_l⟩ : vintage_Losses) A69 o58.f_l.length c71 rfl ((((H869)).tl.g4).cap) (fun _ H => ((H).tl.g4.rd)) (fun _ H => ((H).tl.g5)) y809 H869 hy810) ?_ (wn_t rfl rfl (by decide) rfl rfl)
                      rintro e875 wd874 ⟨A878, n879, c880, rfl, H877⟩
                      obtain rfl := (H877.g0).leneq
                      refine ⟨_, rfl, ?_⟩
                      exact r_nil (n_lp ⟨_, rfl, (.tuple #[.slice A878 y809.length c880]), rfl, H877⟩)
                    · intro η808 wd884 Δ885 hE881 hR882 H883
                      have H883 : Hp w0 ((Δ885 ++ (Row K38 (.slice A14 y7.V.length c16) y7.V :: Bx b13 28 [.slice A14 y7.V.length c16] :: Row K38 (.slice A26 o21.f_l.length c28) o21.f_l :: Bx b25 75 [.slice A26 o21.f_l.length c28] :: Row K38 (.slice A69 o58.f_l.length c71) o58.f_l :: Bx b68 75 [.slice A69 o58.f_l.length c71] :: Row K38 (.slice A769 o758.V.length c771) o758.V :: Bx b768 28 [.slice A769 o758.V.length c771] :: Γ))) wd884 := H883
                      refine sp_op [(25, .pointer (some ⟨b768, 0, none⟩)), (94, .bool false)] (ac rfl (ac (hE881 2 (by decide)) an)) ?_
                      refine r_pure (.pointer (some ⟨b768, 0, none⟩)) rfl ?_ (wn_t rfl rfl (by decide) rfl rfl)
                      exact r_nil (n_lp ⟨_, rfl, undef, rfl, H883⟩)
                    · intro η808 wd889 Δ890 hE886 hR887 H888
                      have H888 : Hp w0 ((Δ890 ++ (Row K38 (.slice A14 y7.V.length c16) y7.V :: Bx b13 28 [.slice A14 y7.V.length c16] :: Row K38 (.slice A26 o21.f_l.length c28) o21.f_l :: Bx b25 75 [.slice A26 o21.f_l.length c28] :: Row K38 (.slice A69 o58.f_l.length c71) o58.f_l :: Bx b68 75 [.slice A69 o58.f_l.length c71] :: Row K38 (.slice A769 o758.V.length c771) o758.V :: Bx b768 28 [.slice A769 o758.V.length c771] :: Γ))) wd889 := H888
                      refine sp_op [(94, .bool false), (97, .pointer (some ⟨b768, 0, none⟩))] (ac (hE886 2 (by decide)) (ac (hE886 5 (by decide)) an)) ?_
                      refine r_pure (.pointer (some ⟨b768, 0, none⟩)) rfl ?_ (wn_t rfl rfl (by decide) rfl rfl)
                      exact r_nil (n_lp ⟨_, rfl, undef, rfl, H888⟩)
                    · intro η808 wd894 Δ895 hE891 hR892 H893
                      have H893 : Hp w0 ((Δ895 ++ (Row K38 (.slice A14 y7.V.length c16) y7.V :: Bx b13 28 [.slice A14 y7.V.length c16] :: Row K38 (.slice A26 o21.f_l.length c28) o21.f_l :: Bx b25 75 [.slice A26 o21.f_l.length c28] :: Row K38 (.slice A69 o58.f_l.length c71) o58.f_l :: Bx b68 75 [.slice A69 o58.f_l.length c71] :: Row K38 (.slice A769 o758.V.length c771) o758.V :: Bx b768 28 [.slice A769 o758.V.length c771] :: Γ))) wd894 := H893
                      refine sp_op [(94, .bool false), (98, .pointer (some ⟨b768, 0, none⟩))] (ac (hE891 2 (by decide)) (ac (hE891 6 (by decide)) an)) ?_
                      refine r_fa FA28_0 ⟨b768, 0, none⟩ rfl rfl ?_ (wn_t rfl rfl (by decide) rfl rfl)
                      exact r_nil (n_lp ⟨_, rfl, undef, rfl, H893⟩)
                    · intro η808 wd899 Δ900 hE896 hR897 H898
                      have H898 : Hp w0 ((Δ900 ++ (Row K38 (.slice A14 y7.V.length c16) y7.V :: Bx b13 28 [.slice A14 y7.V.length c16] :: Row K38 (.slice A26 o21.f_l.length c28) o21.f_l :: Bx b25 75 [.slice A26 o21.f_l.length c28] :: Row K38 (.slice A69 o58.f_l.length c71) o58.f_l :: Bx b68 75 [.slice A69 o58.f_l.length c71] :: Row K38 (.slice A769 o758.V.length c771) o758.V :: Bx b768 28 [.slice A769 o758.V.length c771] :: Γ))) wd899 := H898
                      refine sp_op [(94, .bool false), (99, .pointer (some ⟨b768, 0, none⟩))] (ac (hE896 2 (by decide)) (ac (hE896 7 (by decide)) an)) ?_
                      refine r_ld1 (.slice A769 o758.V.length c771) LD26 rfl (((H898).tl.g7).cell _ rfl) ?_ (wn_t rfl rfl (by decide) rfl rfl)
                      exact r_nil (n_lp ⟨_, rfl, undef, rfl, H898⟩)
                    · intro η808 wd904 Δ905 hE901 hR902 H903
                      have H903 : Hp w0 ((Δ905 ++ (Row K38 (.slice A14 y7.V.length c16) y7.V :: Bx b13 28 [.slice A14 y7.V.length c16] :: Row K38 (.slice A26 o21.f_l.length c28) o21.f_l :: Bx b25 75 [.slice A26 o21.f_l.length c28] :: Row K38 (.slice A69 o58.f_l.length c71) o58.f_l :: Bx b68 75 [.slice A69 o58.f_l.length c71] :: Row K38 (.slice A769 o758.V.length c771) o758.V :: Bx b768 28 [.slice A769 o758.V.length c771] :: Γ))) wd904 := H903
                      refine sp_op [(94, .bool false), (96, .slice (vA ((η808 4).1)) y809.length (vC ((η808 4).1))), (100, .slice A769 o758.V.length c771)] (ac (hE901 2 (by decide)) (ac (hE901 4 (by decide)) (ac (hE901 8 (by decide)) an))) ?_
                      refine r_callf Try.call21 (scutagekeep_Same_api_Vintage_ok y809 (vA ((η808 4).1)) y809.length (vC ((η808 4).1)) rfl (((show (Row K38 (.slice (vA ((η808 4).1)) y809.length (vC ((η808 4).1))) y809) _ from ((H903)).memr (hR902 _ (List.mem_of_getElem? (i := 0) rfl) rfl))).cap) (fun _ H => ((show (Row K38 (.slice (vA ((η808 4).1)) y809.length (vC ((η808 4).1))) y809) _ from (H).memr (hR902 _ (List.mem_of_getElem? (i := 0) rfl) rfl)).rd)) o758.V A769 o758.V.length c771 rfl ((((H903)).tl.g6).cap) (fun _ H => ((H).tl.g6.rd)) y818 H903 hy819) ?_ (wn_t rfl rfl (by decide) rfl rfl)
                      rintro e909 wd908 ⟨rfl, H911⟩
                      refine ⟨_, rfl, ?_⟩
                      exact r_nil (n_lp ⟨_, rfl, undef, rfl, H911⟩)
                    · intro η808 wd915 Δ916 hE912 hR913 H914
                      have H914 : Hp w0 ((Δ916 ++ (Row K38 (.slice A14 y7.V.length c16) y7.V :: Bx b13 28 [.slice A14 y7.V.length c16] :: Row K38 (.slice A26 o21.f_l.length c28) o21.f_l :: Bx b25 75 [.slice A26 o21.f_l.length c28] :: Row K38 (.slice A69 o58.f_l.length c71) o58.f_l :: Bx b68 75 [.slice A69 o58.f_l.length c71] :: Row K38 (.slice A769 o758.V.length c771) o758.V :: Bx b768 28 [.slice A769 o758.V.length c771] :: Γ))) wd915 := H914
                      refine sp_op [(94, .bool false), (101, .bool y818)] (ac (hE912 2 (by decide)) (ac (hE912 9 (by decide)) an)) ?_
                      refine r_pick_f (.bool y818) rfl rfl rfl ?_
                      exact r_nil (n_lp ⟨_, rfl, undef, rfl, H914⟩)
                    · intro η808 wd920 Δ921 hE917 hR918 H919
                      have H919 : Hp w0 ((Δ921 ++ (Row K38 (.slice A14 y7.V.length c16) y7.V :: Bx b13 28 [.slice A14 y7.V.length c16] :: Row K38 (.slice A26 o21.f_l.length c28) o21.f_l :: Bx b25 75 [.slice A26 o21.f_l.length c28] :: Row K38 (.slice A69 o58.f_l.length c71) o58.f_l :: Bx b68 75 [.slice A69 o58.f_l.length c71] :: Row K38 (.slice A769 o758.V.length c771) o758.V :: Bx b768 28 [.slice A769 o758.V.length c771] :: Γ))) wd920 := H919
                      refine sp_op [(102, .bool y818)] (ac (hE917 10 (by decide)) an) ?_
                      refine r_pure (.bool y818) rfl ?_
                      exact r_nil (n_lp ⟨_, rfl, undef, rfl, H919⟩)
                    · intro η808 wd925 Δ926 hE922 hR923 H924
                      have H924 : Hp w0 ((Δ926 ++ (Row K38 (.slice A14 y7.V.length c16) y7.V :: Bx b13 28 [.slice A14 y7.V.length c16] :: Row K38 (.slice A26 o21.f_l.length c28) o21.f_l :: Bx b25 75 [.slice A26 o21.f_l.length c28] :: Row K38 (.slice A69 o58.f_l.length c71) o58.f_l :: Bx b68 75 [.slice A69 o58.f_l.length c71] :: Row K38 (.slice A769 o758.V.length c771) o758.V :: Bx b768 28 [.slice A769 o758.V.length c771] :: Γ))) wd925 := H924
                      refine sp_op [(20, .pointer (some ⟨b25, 0, none⟩)), (103, .bool y818)] (ac rfl (ac (hE922 11 (by decide)) an)) ?_
                      refine r_pure (.pointer (some ⟨b25, 0, none⟩)) rfl ?_ (wn_t rfl rfl (by decide) rfl hb824)
                      exact r_nil (n_lp ⟨_, rfl, undef, rfl, H924⟩)
                    · intro η808 wd930 Δ931 hE927 hR928 H929
                      have H929 : Hp w0 ((Δ931 ++ (Row K38 (.slice A14 y7.V.length c16) y7.V :: Bx b13 28 [.slice A14 y7.V.length c16] :: Row K38 (.slice A26 o21.f_l.length c28) o21.f_l :: Bx b25 75 [.slice A26 o21.f_l.length c28] :: Row K38 (.slice A69 o58.f_l.length c71) o58.f_l :: Bx b68 75 [.slice A69 o58.f_l.length c71] :: Row K38 (.slice A769 o758.V.length c771) o758.V :: Bx b768 28 [.slice A769 o758.V.length c771] :: Γ))) wd930 := H929
                      refine sp_op [(103, .bool y818), (104, .pointer (some ⟨b25, 0, none⟩))] (ac (hE927 11 (by decide)) (ac (hE927 12 (by decide)) an)) ?_
                      refine r_callf Try.call22 (vintage_Losses_Rows_ok b25 (⟨o21.f_l⟩ : vintage_Losses) A26 o21.f_l.length c28 rfl ((((H929)).tl.g2).cap) (fun _ H => ((H).tl.g2.rd)) (fun _ H => ((H).tl.g3)) y825 H929 hy826) ?_ (wn_t rfl rfl (by decide) rfl hb824)
                      rintro e935 wd934 ⟨A938, n939, c940, rfl, H937⟩
                      obtain rfl := (H937.g0).leneq
                      refine ⟨_, rfl, ?_⟩
                      exact r_nil (n_lp ⟨_, rfl, (.tuple #[.slice A938 y825.length c940]), rfl, H937⟩)
                    · intro η808 wd944 Δ945 hE941 hR942 H943
                      have H943 : Hp w0 ((Δ945 ++ (Row K38 (.slice A14 y7.V.length c16) y7.V :: Bx b13 28 [.slice A14 y7.V.length c16] :: Row K38 (.slice A26 o21.f_l.length c28) o21.f_l :: Bx b25 75 [.slice A26 o21.f_l.length c28] :: Row K38 (.slice A69 o58.f_l.length c71) o58.f_l :: Bx b68 75 [.slice A69 o58.f_l.length c71] :: Row K38 (.slice A769 o758.V.length c771) o758.V :: Bx b768 28 [.slice A769 o758.V.length c771] :: Γ))) wd944 := H943
                      refine sp_op [(19, .pointer (some ⟨b13, 0, none⟩)), (103, .bool y818)] (ac rfl (ac (hE941 11 (by decide)) an)) ?_
                      refine r_pure (.pointer (some ⟨b13, 0, none⟩)) rfl ?_ (wn_t rfl rfl (by decide) rfl hb824)
                      exact r_nil (n_lp ⟨_, rfl, undef, rfl, H943⟩)
                    · intro η808 wd949 Δ950 hE946 hR947 H948
                      have H948 : Hp w0 ((Δ950 ++ (Row K38 (.slice A14 y7.V.length c16) y7.V :: Bx b13 28 [.slice A14 y7.V.length c16] :: Row K38 (.slice A26 o21.f_l.length c28) o21.f_l :: Bx b25 75 [.slice A26 o21.f_l.length c28] :: Row K38 (.slice A69 o58.f_l.length c71) o58.f_l :: Bx b68 75 [.slice A69 o58.f_l.length c71] :: Row K38 (.slice A769 o758.V.length c771) o758.V :: Bx b768 28 [.slice A769 o758.V.length c771] :: Γ))) wd949 := H948
                      refine sp_op [(103, .bool y818), (106, .pointer (some ⟨b13, 0, none⟩))] (ac (hE946 11 (by decide)) (ac (hE946 14 (by decide)) an)) ?_
                      refine r_pure (.pointer (some ⟨b13, 0, none⟩)) rfl ?_ (wn_t rfl rfl (by decide) rfl hb824)
                      exact r_nil (n_lp ⟨_, rfl, undef, rfl, H948⟩)
                    · intro η808 wd954 Δ955 hE951 hR952 H953
                      have H953 : Hp w0 ((Δ955 ++ (Row K38 (.slice A14 y7.V.length c16) y7.V :: Bx b13 28 [.slice A14 y7.V.length c16] :: Row K38 (.slice A26 o21.f_l.length c28) o21.f_l :: Bx b25 75 [.slice A26 o21.f_l.length c28] :: Row K38 (.slice A69 o58.f_l.length c71) o58.f_l :: Bx b68 75 [.slice A69 o58.f_l.length c71] :: Row K38 (.slice A769 o758.V.length c771) o758.V :: Bx b768 28 [.slice A769 o758.V.length c771] :: Γ))) wd954 := H953
                      refine sp_op [(103, .bool y818), (107, .pointer (some ⟨b13, 0, none⟩))] (ac (hE951 11 (by decide)) (ac (hE951 15 (by decide)) an)) ?_
                      refine r_fa FA28_0 ⟨b13, 0, none⟩ rfl rfl ?_ (wn_t rfl rfl (by decide) rfl hb824)
                      exact r_nil (n_lp ⟨_, rfl, undef, rfl, H953⟩)
                    · intro η808 wd959 Δ960 hE956 hR957 H958
                      have H958 : Hp w0 ((Δ960 ++ (Row K38 (.slice A14 y7.V.length c16) y7.V :: Bx b13 28 [.slice A14 y7.V.length c16] :: Row K38 (.slice A26 o21.f_l.length c28) o21.f_l :: Bx b25 75 [.slice A26 o21.f_l.length c28] :: Row K38 (.slice A69 o58.f_l.length c71) o58.f_l :: Bx b68 75 [.slice A69 o58.f_l.length c71] :: Row K38 (.slice A769 o758.V.length c771) o758.V :: Bx b768 28 [.slice A769 o758.V.length c771] :: Γ))) wd959 := H958
                      refine sp_op [(103, .bool y818), (108, .pointer (some ⟨b13, 0, none⟩))] (ac (hE956 11 (by decide)) (ac (hE956 16 (by decide)) an)) ?_
                      refine r_ld1 (.slice A14 y7.V.length c16) LD26 rfl (((H958).tl.g1).cell _ rfl) ?_ (wn_t rfl rfl (by decide) rfl hb824)
                      exact r_nil (n_lp ⟨_, rfl, undef, rfl, H958⟩)
                    · intro η808 wd964 Δ965 hE961 hR962 H963
                      have H963 : Hp w0 ((Δ965 ++ (Row K38 (.slice A14 y7.V.length c16) y7.V :: Bx b13 28 [.slice A14 y7.V.length c16] :: Row K38 (.slice A26 o21.f_l.length c28) o21.f_l :: Bx b25 75 [.slice A26 o21.f_l.length c28] :: Row K38 (.slice A69 o58.f_l.length c71) o58.f_l :: Bx b68 75 [.slice A69 o58.f_l.length c71] :: Row K38 (.slice A769 o758.V.length c771) o758.V :: Bx b768 28 [.slice A769 o758.V.length c771] :: Γ))) wd964 := H963
                      refine sp_op [(103, .bool y818), (105, .slice (vA ((η808 13).1)) y825.length (vC ((η808 13).1))), (109, .slice A14 y7.V.length c16)] (ac (hE961 11 (by decide)) (ac (hE961 13 (by decide)) (ac (hE961 17 (by decide)) an))) ?_
                      refine r_callf Try.call21 (scutagekeep_Same_api_Vintage_ok y825 (vA ((η808 13).1)) y825.length (vC ((η808 13).1)) rfl (((show (Row K38 (.slice (vA ((η808 13).1)) y825.length (vC ((η808 13).1))) y825) _ from ((H963)).memr (hR962 _ (List.mem_of_getElem? (i := 1) rfl) rfl))).cap) (fun _ H => ((show (Row K38 (.slice (vA ((η808 13).1)) y825.length (vC ((η808 13).1))) y825) _ from (H).memr (hR962 _ (List.mem_of_getElem? (i := 1) rfl) rfl)).rd)) y7.V A14 y7.V.length c16 rfl ((((H963)).tl.g0).cap) (fun _ H => ((H).tl.g0.rd)) y834 H963 hy835) ?_ (wn_t rfl rfl (by decide) rfl hb824)
                      rintro e969 wd968 ⟨rfl, H971⟩
                      refine ⟨_, rfl, ?_⟩
                      exact r_nil (n_lp ⟨_, rfl, undef, rfl, H971⟩)
                    · intro η808 wd975 Δ976 hE972 hR973 H974
                      have H974 : Hp w0 ((Δ976 ++ (Row K38 (.slice A14 y7.V.length c16) y7.V :: Bx b13 28 [.slice A14 y7.V.length c16] :: Row K38 (.slice A26 o21.f_l.length c28) o21.f_l :: Bx b25 75 [.slice A26 o21.f_l.length c28] :: Row K38 (.slice A69 o58.f_l.length c71) o58.f_l :: Bx b68 75 [.slice A69 o58.f_l.length c71] :: Row K38 (.slice A769 o758.V.length c771) o758.V :: Bx b768 28 [.slice A769 o758.V.length c771] :: Γ))) wd975 := H974
                      refine sp_op [(103, .bool y818), (110, .bool y834)] (ac (hE972 11 (by decide)) (ac (hE972 18 (by decide)) an)) ?_
                      refine r_pick_t (.bool y834) hb824 rfl rfl ?_
                      exact r_nil (n_lp ⟨_, rfl, undef, rfl, H974⟩)
                    · intro η808 wd980 Δ981 hE977 hR978 H979
                      have H979 : Hp w0 ((Δ981 ++ (Row K38 (.slice A14 y7.V.length c16) y7.V :: Bx b13 28 [.slice A14 y7.V.length c16] :: Row K38 (.slice A26 o21.f_l.length c28) o21.f_l :: Bx b25 75 [.slice A26 o21.f_l.length c28] :: Row K38 (.slice A69 o58.f_l.length c71) o58.f_l :: Bx b68 75 [.slice A69 o58.f_l.length c71] :: Row K38 (.slice A769 o758.V.length c771) o758.V :: Bx b768 28 [.slice A769 o758.V.length c771] :: Γ))) wd980 := H979
                      refine sp_op [(111, .bool y834)] (ac (hE977 19 (by decide)) an) ?_
                      refine r_pure (.bool y834) rfl ?_
                      exact r_nil (n_lp ⟨_, rfl, undef, rfl, H979⟩)
                    · intro η808 wd985 Δ986 hE982 hR983 H984
                      have H984 : Hp w0 ((Δ986 ++ (Row K38 (.slice A14 y7.V.length c16) y7.V :: Bx b13 28 [.slice A14 y7.V.length c16] :: Row K38 (.slice A26 o21.f_l.length c28) o21.f_l :: Bx b25 75 [.slice A26 o21.f_l.length c28] :: Row K38 (.slice A69 o58.f_l.length c71) o58.f_l :: Bx b68 75 [.slice A69 o58.f_l.length c71] :: Row K38 (.slice A769 o758.V.length c771) o758.V :: Bx b768 28 [.slice A769 o758.V.length c771] :: Γ))) wd985 := H984
                      refine sp_op [(112, .bool y834)] (ac (hE982 20 (by decide)) an) ?_
                      refine r_callf Try.call36 (scutagelaw15_wakes_ok  y841 H984 hy842) ?_ (wn_t rfl rfl (by decide) rfl hb840)
                      rintro e990 wd989 ⟨rfl, H992⟩
                      refine ⟨_, rfl, ?_⟩
                      exact r_nil (n_lp ⟨_, rfl, undef, rfl, H992⟩)
                    · intro η808 wd996 Δ997 hE993 hR994 H995
                      have H995 : Hp w0 ((Δ997 ++ (Row K38 (.slice A14 y7.V.length c16) y7.V :: Bx b13 28 [.slice A14 y7.V.length c16] :: Row K38 (.slice A26 o21.f_l.length c28) o21.f_l :: Bx b25 75 [.slice A26 o21.f_l.length c28] :: Row K38 (.slice A69 o58.f_l.length c71) o58.f_l :: Bx b68 75 [.slice A69 o58.f_l.length c71] :: Row K38 (.slice A769 o758.V.length c771) o758.V :: Bx b768 28 [.slice A769 o758.V.length c771] :: Γ))) wd996 := H995
                      refine sp_op [(112, .bool y834), (113, .bool y841)] (ac (hE993 20 (by decide)) (ac (hE993 21 (by decide)) an)) ?_
                      refine r_pick_t (.bool y841) hb840 rfl rfl ?_
                      exact r_nil (n_lp ⟨_, rfl, undef, rfl, H995⟩)
                    · intro η808 wd1001 Δ1002 hE998 hR999 H1000
                      have H1000 : Hp w0 ((Δ1002 ++ (Row K38 (.slice A14 y7.V.length c16) y7.V :: Bx b13 28 [.slice A14 y7.V.length c16] :: Row K38 (.slice A26 o21.f_l.length c28) o21.f_l :: Bx b25 75 [.slice A26 o21.f_l.length c28] :: Row K38 (.slice A69 o58.f_l.length c71) o58.f_l :: Bx b68 75 [.slice A69 o58.f_l.length c71] :: Row K38 (.slice A769 o758.V.length c771) o758.V :: Bx b768 28 [.slice A769 o758.V.length c771] :: Γ))) wd1001 := H1000
                      refine sp_op [(114, .bool y841)] (ac (hE998 22 (by decide)) an) ?_
                      refine r_pure (.bool y841) rfl ?_
                      exact r_nil (n_lp ⟨_, rfl, undef, rfl, H1000⟩)
                    · intro η808 wd1004 hV1005 H1003
                      have H1006 : Hp w0 (Row K38 (.slice (vA ((η808 4).1)) y809.length (vC ((η808 4).1))) y809 :: Row K38 (.slice (vA ((η808 13).1)) y825.length (vC ((η808 13).1))) y825 :: Row K38 (.slice A14 y7.V.length c16) y7.V :: Bx b13 28 [.slice A14 y7.V.length c16] :: Row K38 (.slice A26 o21.f_l.length c28) o21.f_l :: Bx b25 75 [.slice A26 o21.f_l.length c28] :: Row K38 (.slice A69 o58.f_l.length c71) o58.f_l :: Bx b68 75 [.slice A69 o58.f_l.length c71] :: Row K38 (.slice A769 o758.V.length c771) o758.V :: Bx b768 28 [.slice A769 o758.V.length c771] :: Γ) wd1004 := H1003
                      refine n_frame [(18, .bool y841)] (ac (hV1005 23 rfl) an) ?_
                      refine n_cut ⟨y841, upk (ac rfl an), H1006.d.d.d.d.d.d.d.d.d.d, hm⟩
                  · refine Flow.run' [[], [0], [0, 1], [0, 1, 2], [0, 1, 2, 3], [0, 1, 2], [0, 1, 2, 5], [0, 1, 2, 5, 6], [0, 1, 2, 5, 6, 7], [0, 1, 2, 3, 4, 5, 6, 7, 8], [0, 1, 2, 3, 4, 5, 6, 7, 8, 9], [0, 1, 2, 3, 4, 5, 6, 7, 8, 9, 10], [0, 1, 2, 3, 4, 5, 6, 7, 8, 9, 10, 11], [0, 1, 2, 3, 4, 5, 6, 7, 8, 9, 10, 11, 12], [0, 1, 2, 3, 4, 5, 6, 7, 8, 9, 10, 11], [0, 1, 2, 3, 4, 5, 6, 7, 8, 9, 10, 11, 14], [0, 1, 2, 3, 4, 5, 6, 7, 8, 9, 10, 11, 14, 15], [0, 1, 2, 3, 4, 5, 6, 7, 8, 9, 10, 11, 14, 15, 16], [0, 1, 2, 3, 4, 5, 6, 7, 8, 9, 10, 11, 12, 13, 14, 15, 16, 17], [0, 1, 2, 3, 4, 5, 6, 7, 8, 9, 10, 11, 12, 13, 14, 15, 16, 17, 18], [0, 1, 2, 3, 4, 5, 6, 7, 8, 9, 10, 11, 12, 13, 14, 15, 16, 17, 18, 19], [0, 1, 2, 3, 4, 5, 6, 7, 8, 9, 10, 11, 12, 13, 14, 15, 16, 17, 18, 19, 20], [0, 1, 2, 3, 4, 5, 6, 7, 8, 9, 10, 11, 12, 13, 14, 15, 16, 17, 18, 19, 20, 21], [0, 1, 2, 3, 4, 5, 6, 7, 8, 9, 10, 11, 12, 13, 14, 15, 16, 17, 18, 19, 20, 21, 22]] [(92, 0), (93, 1), (94, 2), (95, 3), (96, 4), (97, 5), (98, 6), (99, 7), (100, 8), (101, 9), (102, 10), (103, 11), (104, 12), (105, 13), (106, 14), (107, 15), (108, 16), (109, 17), (110, 18), (111, 19), (112, 20), (113, 21), (114, 22), (18, 23)] [(fun η808 v => v.1 = .pointer (some ⟨b68, 0, none⟩)), (fun η808 v => v.1 = .bool false), (fun η808 v => v.1 = .bool false), (fun η808 v => v.1 = .pointer (some ⟨b68, 0, none⟩)), (fun η808 v => v.1 = .slice (vA (v.1)) y809.length (vC (v.1))), (fun η808 v => v.1 = .pointer (some ⟨b768, 0, none⟩)), (fun η808 v => v.1 = .pointer (some ⟨b768, 0, none⟩)), (fun η808 v => v.1 = .pointer (some ⟨b768, 0, none⟩)), (fun η808 v => v.1 = .slice A769 o758.V.length c771), (fun η808 v => v.1 = .bool y818), (fun η808 v => v.1 = .bool y818), (fun η808 v => v.1 = .bool y818), (fun η808 v => v.1 = .pointer (some ⟨b25, 0, none⟩)), (fun η808 v => v.1 = .slice (vA (v.1)) y825.length (vC (v.1))), (fun η808 v => v.1 = .pointer (some ⟨b13, 0, none⟩)), (fun η808 v => v.1 = .pointer (some ⟨b13, 0, none⟩)), (fun η808 v => v.1 = .pointer (some ⟨b13, 0, none⟩)), (fun η808 v => v.1 = .slice A14 y7.V.length c16), (fun η808 v => v.1 = .bool y834), (fun η808 v => v.1 = .bool y834), (fun η808 v => v.1 = .bool y834), (fun η808 v => v.1 = undef), (fun η808 v => v.1 = .bool false), (fun η808 v => v.1 = .bool false)] [⟨(some 4), none, fun η808 => Row K38 (.slice (vA ((η808 4).1)) y809.length (vC ((η808 4).1))) y809⟩, ⟨(some 13), none, fun η808 => Row K38 (.slice (vA ((η808 13).1)) y825.length (vC ((η808 13).1))) y825⟩] rfl (by kernel_rfl) (by kernel_rfl) H804 ⟨?_, ?_, ?_, ?_, ?_, ?_, ?_, ?_, ?_, ?_, ?_, ?_, ?_, ?_, ?_, ?_, ?_, ?_, ?_, ?_, ?_, ?_, ?_, ?_, trivial⟩ ?_
                    · intro η808 wd1010 Δ1011 hE1007 hR1008 H1009
                      have H1009 : Hp w0 ((Δ1011 ++ (Row K38 (.slice A14 y7.V.length c16) y7.V :: Bx b13 28 [.slice A14 y7.V.length c16] :: Row K38 (.slice A26 o21.f_l.length c28) o21.f_l :: Bx b25 75 [.slice A26 o21.f_l.length c28] :: Row K38 (.slice A69 o58.f_l.length c71) o58.f_l :: Bx b68 75 [.slice A69 o58.f_l.length c71] :: Row K38 (.slice A769 o758.V.length c771) o758.V :: Bx b768 28 [.slice A769 o758.V.length c771] :: Γ))) wd1010 := H1009
                      refine sp_op [(22, .pointer (some ⟨b68, 0, none⟩))] (ac rfl an) ?_
                      refine r_pure (.pointer (some ⟨b68, 0, none⟩)) rfl ?_
                      exact r_nil (n_lp ⟨_, rfl, undef, rfl, H1009⟩)
                    · intro η808 wd1015 Δ1016 hE1012 hR1013 H1014
                      have H1014 : Hp w0 ((Δ1016 ++ (Row K38 (.slice A14 y7.V.length c16) y7.V :: Bx b13 28 [.slice A14 y7.V.length c16] :: Row K38 (.slice A26 o21.f_l.length c28) o21.f_l :: Bx b25 75 [.slice A26 o21.f_l.length c28] :: Row K38 (.slice A69 o58.f_l.length c71) o58.f_l :: Bx b68 75 [.slice A69 o58.f_l.length c71] :: Row K38 (.slice A769 o758.V.length c771) o758.V :: Bx b768 28 [.slice A769 o758.V.length c771] :: Γ))) wd1015 := H1014
                      refine sp_op [(92, .pointer (some ⟨b68, 0, none⟩))] (ac (hE1012 0 (by decide)) an) ?_
                      refine r_eqn Try.underlying23 rfl rfl ?_
                      exact r_nil (n_lp ⟨_, rfl, undef, rfl, H1014⟩)
                    · intro η808 wd1020 Δ1021 hE1017 hR1018 H1019
                      have H1019 : Hp w0 ((Δ1021 ++ (Row K38 (.slice A14 y7.V.length c16) y7.V :: Bx b13 28 [.slice A14 y7.V.length c16] :: Row K38 (.slice A26 o21.f_l.length c28) o21.f_l :: Bx b25 75 [.slice A26 o21.f_l.length c28] :: Row K38 (.slice A69 o58.f_l.length c71) o58.f_l :: Bx b68 75 [.slice A69 o58.f_l.length c71] :: Row K38 (.slice A769 o758.V.length c771) o758.V :: Bx b768 28 [.slice A769 o758.V.length c771] :: Γ))) wd1020 := H1019
                      refine sp_op [(93, .bool false)] (ac (hE1017 1 (by decide)) an) ?_
                      refine r_pure (.bool false) rfl ?_
                      exact r_nil (n_lp ⟨_, rfl, undef, rfl, H1019⟩)
                    · intro η808 wd1025 Δ1026 hE1022 hR1023 H1024
                      have H1024 : Hp w0 ((Δ1026 ++ (Row K38 (.slice A14 y7.V.length c16) y7.V :: Bx b13 28 [.slice A14 y7.V.length c16] :: Row K38 (.slice A26 o21.f_l.length c28) o21.f_l :: Bx b25 75 [.slice A26 o21.f_l.length c28] :: Row K38 (.slice A69 o58.f_l.length c71) o58.f_l :: Bx b68 75 [.slice A69 o58.f_l.length c71] :: Row K38 (.slice A769 o758.V.length c771) o758.V :: Bx b768 28 [.slice A769 o758.V.length c771] :: Γ))) wd1025 := H1024
                      refine sp_op [(22, .pointer (some ⟨b68, 0, none⟩)), (94, .bool false)] (ac rfl (ac (hE1022 2 (by decide)) an)) ?_
                      refine r_pure (.pointer (some ⟨b68, 0, none⟩)) rfl ?_ (wn_t rfl rfl (by decide) rfl rfl)
                      exact r_nil (n_lp ⟨_, rfl, undef, rfl, H1024⟩)
                    · intro η808 wd1030 Δ1031 hE1027 hR1028 H1029
                      have H1029 : Hp w0 ((Δ1031 ++ (Row K38 (.slice A14 y7.V.length c16) y7.V :: Bx b13 28 [.slice A14 y7.V.length c16] :: Row K38 (.slice A26 o21.f_l.length c28) o21.f_l :: Bx b25 75 [.slice A26 o21.f_l.length c28] :: Row K38 (.slice A69 o58.f_l.length c71) o58.f_l :: Bx b68 75 [.slice A69 o58.f_l.length c71] :: Row K38 (.slice A769 o758.V.length c771) o758.V :: Bx b768 28 [.slice A769 o758.V.length c771] :: Γ))) wd1030 := H1029
                      refine sp_op [(94, .bool false), (95, .pointer (some ⟨b68, 0, none⟩))] (ac (hE1027 2 (by decide)) (ac (hE1027 3 (by decide)) an)) ?_
                      refine r_callf Try.call22 (vintage_Losses_Rows_ok b68 (⟨o58.f_l⟩ : vintage_Losses) A69 o58.f_l.length c71 rfl ((((H1029)).tl.g4).cap) (fun _ H => ((H).tl.g4.rd)) (fun _ H => ((H).tl.g5)) y809 H1029 hy810) ?_ (wn_t rfl rfl (by decide) rfl rfl)
                      rintro e1035 wd1034 ⟨A1038, n1039, c1040, rfl, H1037⟩
                      obtain rfl := (H1037.g0).leneq
                      refine ⟨_, rfl, ?_⟩
                      exact r_nil (n_lp ⟨_, rfl, (.tuple #[.slice A1038 y809.length c1040]), rfl, H1037⟩)
                    · intro η808 wd1044 Δ1045 hE1041 hR1042 H1043
                      have H1043 : Hp w0 ((Δ1045 ++ (Row K38 (.slice A14 y7.V.length c16) y7.V :: Bx b13 28 [.slice A14 y7.V.length c16] :: Row K38 (.slice A26 o21.f_l.length c28) o21.f_l :: Bx b25 75 [.slice A26 o21.f_l.length c28] :: Row K38 (.slice A69 o58.f_l.length c71) o58.f_l :: Bx b68 75 [.slice A69 o58.f_l.length c71] :: Row K38 (.slice A769 o758.V.length c771) o758.V :: Bx b768 28 [.slice A769 o758.V.length c771] :: Γ))) wd1044 := H1043
                      refine sp_op [(25, .pointer (some ⟨b768, 0, none⟩)), (94, .bool false)] (ac rfl (ac (hE1041 2 (by decide)) an)) ?_
                      refine r_pure (.pointer (some ⟨b768, 0, none⟩)) rfl ?_ (wn_t rfl rfl (by decide) rfl rfl)
                      exact r_nil (n_lp ⟨_, rfl, undef, rfl, H1043⟩)
                    · intro η808 wd1049 Δ1050 hE1046 hR1047 H1048
                      have H1048 : Hp w0 ((Δ1050 ++ (Row K38 (.slice A14 y7.V.length c16) y7.V :: Bx b13 28 [.slice A14 y7.V.length c16] :: Row K38 (.slice A26 o21.f_l.length c28) o21.f_l :: Bx b25 75 [.slice A26 o21.f_l.length c28] :: Row K38 (.slice A69 o58.f_l.length c71) o58.f_l :: Bx b68 75 [.slice A69 o58.f_l.length c71] :: Row K38 (.slice A769 o758.V.length c771) o758.V :: Bx b768 28 [.slice A769 o758.V.length c771] :: Γ))) wd1049 := H1048
                      refine sp_op [(94, .bool false), (97, .pointer (some ⟨b768, 0, none⟩))] (ac (hE1046 2 (by decide)) (ac (hE1046 5 (by decide)) an)) ?_
                      refine r_pure (.pointer (some ⟨b768, 0, none⟩)) rfl ?_ (wn_t rfl rfl (by decide) rfl rfl)
                      exact r_nil (n_lp ⟨_, rfl, undef, rfl, H1048⟩)
                    · intro η808 wd1054 Δ1055 hE1051 hR1052 H1053
                      have H1053 : Hp w0 ((Δ1055 ++ (Row K38 (.slice A14 y7.V.length c16) y7.V :: Bx b13 28 [.slice A14 y7.V.length c16] :: Row K38 (.slice A26 o21.f_l.length c28) o21.f_l :: Bx b25 75 [.slice A26 o21.f_l.length c28] :: Row K38 (.slice A69 o58.f_l.length c71) o58.f_l :: Bx b68 75 [.slice A69 o58.f_l.length c71] :: Row K38 (.slice A769 o758.V.length c771) o758.V :: Bx b768 28 [.slice A769 o758.V.length c771] :: Γ))) wd1054 := H1053
                      refine sp_op [(94, .bool false), (98, .pointer (some ⟨b768, 0, none⟩))] (ac (hE1051 2 (by decide)) (ac (hE1051 6 (by decide)) an)) ?_
                      refine r_fa FA28_0 ⟨b768, 0, none⟩ rfl rfl ?_ (wn_t rfl rfl (by decide) rfl rfl)
                      exact r_nil (n_lp ⟨_, rfl, undef, rfl, H1053⟩)
                    · intro η808 wd1059 Δ1060 hE1056 hR1057 H1058
                      have H1058 : Hp w0 ((Δ1060 ++ (Row K38 (.slice A14 y7.V.length c16) y7.V :: Bx b13 28 [.slice A14 y7.V.length c16] :: Row K38 (.slice A26 o21.f_l.length c28) o21.f_l :: Bx b25 75 [.slice A26 o21.f_l.length c28] :: Row K38 (.slice A69 o58.f_l.length c71) o58.f_l :: Bx b68 75 [.slice A69 o58.f_l.length c71] :: Row K38 (.slice A769 o758.V.length c771) o758.V :: Bx b768 28 [.slice A769 o758.V.length c771] :: Γ))) wd1059 := H1058
                      refine sp_op [(94, .bool false), (99, .pointer (some ⟨b768, 0, none⟩))] (ac (hE1056 2 (by decide)) (ac (hE1056 7 (by decide)) an)) ?_
                      refine r_ld1 (.slice A769 o758.V.length c771) LD26 rfl (((H1058).tl.g7).cell _ rfl) ?_ (wn_t rfl rfl (by decide) rfl rfl)
                      exact r_nil (n_lp ⟨_, rfl, undef, rfl, H1058⟩)
                    · intro η808 wd1064 Δ1065 hE1061 hR1062 H1063
                      have H1063 : Hp w0 ((Δ1065 ++ (Row K38 (.slice A14 y7.V.length c16) y7.V :: Bx b13 28 [.slice A14 y7.V.length c16] :: Row K38 (.slice A26 o21.f_l.length c28) o21.f_l :: Bx b25 75 [.slice A26 o21.f_l.length c28] :: Row K38 (.slice A69 o58.f_l.length c71) o58.f_l :: Bx b68 75 [.slice A69 o58.f_l.length c71] :: Row K38 (.slice A769 o758.V.length c771) o758.V :: Bx b768 28 [.slice A769 o758.V.length c771] :: Γ))) wd1064 := H1063
                      refine sp_op [(94, .bool false), (96, .slice (vA ((η808 4).1)) y809.length (vC ((η808 4).1))), (100, .slice A769 o758.V.length c771)] (ac (hE1061 2 (by decide)) (ac (hE1061 4 (by decide)) (ac (hE1061 8 (by decide)) an))) ?_
                      refine r_callf Try.call21 (scutagekeep_Same_api_Vintage_ok y809 (vA ((η808 4).1)) y809.length (vC ((η808 4).1)) rfl (((show (Row K38 (.slice (vA ((η808 4).1)) y809.length (vC ((η808 4).1))) y809) _ from ((H1063)).memr (hR1062 _ (List.mem_of_getElem? (i := 0) rfl) rfl))).cap) (fun _ H => ((show (Row K38 (.slice (vA ((η808 4).1)) y809.length (vC ((η808 4).1))) y809) _ from (H).memr (hR1062 _ (List.mem_of_getElem? (i := 0) rfl) rfl)).rd)) o758.V A769 o758.V.length c771 rfl ((((H1063)).tl.g6).cap) (fun _ H => ((H).tl.g6.rd)) y818 H1063 hy819) ?_ (wn_t rfl rfl (by decide) rfl rfl)
                      rintro e1069 wd1068 ⟨rfl, H1071⟩
                      refine ⟨_, rfl, ?_⟩
                      exact r_nil (n_lp ⟨_, rfl, undef, rfl, H1071⟩)
                    · intro η808 wd1075 Δ1076 hE1072 hR1073 H1074
                      have H1074 : Hp w0 ((Δ1076 ++ (Row K38 (.slice A14 y7.V.length c16) y7.V :: Bx b13 28 [.slice A14 y7.V.length c16] :: Row K38 (.slice A26 o21.f_l.length c28) o21.f_l :: Bx b25 75 [.slice A26 o21.f_l.length c28] :: Row K38 (.slice A69 o58.f_l.length c71) o58.f_l :: Bx b68 75 [.slice A69 o58.f_l.length c71] :: Row K38 (.slice A769 o758.V.length c771) o758.V :: Bx b768 28 [.slice A769 o758.V.length c771] :: Γ))) wd1075 := H1074
                      refine sp_op [(94, .bool false), (101, .bool y818)] (ac (hE1072 2 (by decide)) (ac (hE1072 9 (by decide)) an)) ?_
                      refine r_pick_f (.bool y818) rfl rfl rfl ?_
                      exact r_nil (n_lp ⟨_, rfl, undef, rfl, H1074⟩)
                    · intro η808 wd1080 Δ1081 hE1077 hR1078 H1079
                      have H1079 : Hp w0 ((Δ1081 ++ (Row K38 (.slice A14 y7.V.length c16) y7.V :: Bx b13 28 [.slice A14 y7.V.length c16] :: Row K38 (.slice A26 o21.f_l.length c28) o21.f_l :: Bx b25 75 [.slice A26 o21.f_l.length c28] :: Row K38 (.slice A69 o58.f_l.length c71) o58.f_l :: Bx b68 75 [.slice A69 o58.f_l.length c71] :: Row K38 (.slice A769 o758.V.length c771) o758.V :: Bx b768 28 [.slice A769 o758.V.length c771] :: Γ))) wd1080 := H1079
                      refine sp_op [(102, .bool y818)] (ac (hE1077 10 (by decide)) an) ?_
                      refine r_pure (.bool y818) rfl ?_
                      exact r_nil (n_lp ⟨_, rfl, undef, rfl, H1079⟩)
                    · intro η808 wd1085 Δ1086 hE1082 hR1083 H1084
                      have H1084 : Hp w0 ((Δ1086 ++ (Row K38 (.slice A14 y7.V.length c16) y7.V :: Bx b13 28 [.slice A14 y7.V.length c16] :: Row K38 (.slice A26 o21.f_l.length c28) o21.f_l :: Bx b25 75 [.slice A26 o21.f_l.length c28] :: Row K38 (.slice A69 o58.f_l.length c71) o58.f_l :: Bx b68 75 [.slice A69 o58.f_l.length c71] :: Row K38 (.slice A769 o758.V.length c771) o758.V :: Bx b768 28 [.slice A769 o758.V.length c771] :: Γ))) wd1085 := H1084
                      refine sp_op [(20, .pointer (some ⟨b25, 0, none⟩)), (103, .bool y818)] (ac rfl (ac (hE1082 11 (by decide)) an)) ?_
                      refine r_pure (.pointer (some ⟨b25, 0, none⟩)) rfl ?_ (wn_t rfl rfl (by decide) rfl hb824)
                      exact r_nil (n_lp ⟨_, rfl, undef, rfl, H1084⟩)
                    · intro η808 wd1090 Δ1091 hE1087 hR1088 H1089
                      have H1089 : Hp w0 ((Δ1091 ++ (Row K38 (.slice A14 y7.V.length c16) y7.V :: Bx b13 28 [.slice A14 y7.V.length c16] :: Row K38 (.slice A26 o21.f_l.length c28) o21.f_l :: Bx b25 75 [.slice A26 o21.f_l.length c28] :: Row K38 (.slice A69 o58.f_l.length c71) o58.f_l :: Bx b68 75 [.slice A69 o58.f_l.length c71] :: Row K38 (.slice A769 o758.V.length c771) o758.V :: Bx b768 28 [.slice A769 o758.V.length c771] :: Γ))) wd1090 := H1089
                      refine sp_op [(103, .bool y818), (104, .pointer (some ⟨b25, 0, none⟩))] (ac (hE1087 11 (by decide)) (ac (hE1087 12 (by decide)) an)) ?_
                      refine r_callf Try.call22 (vintage_Losses_Rows_ok b25 (⟨o21.f_l⟩ : vintage_Losses) A26 o21.f_l.length c28 rfl ((((H1089)).tl.g2).cap) (fun _ H => ((H).tl.g2.rd)) (fun _ H => ((H).tl.g3)) y825 H1089 hy826) ?_ (wn_t rfl rfl (by decide) rfl hb824)
                      rintro e1095 wd1094 ⟨A1098, n1099, c1100, rfl, H1097⟩
                      obtain rfl := (H1097.g0).leneq
                      refine ⟨_, rfl, ?_⟩
                      exact r_nil (n_lp ⟨_, rfl, (.tuple #[.slice A1098 y825.length c1100]), rfl, H1097⟩)
                    · intro η808 wd1104 Δ1105 hE1101 hR1102 H1103
                      have H1103 : Hp w0 ((Δ1105 ++ (Row K38 (.slice A14 y7.V.length c16) y7.V :: Bx b13 28 [.slice A14 y7.V.length c16] :: Row K38 (.slice A26 o21.f_l.length c28) o21.f_l :: Bx b25 75 [.slice A26 o21.f_l.length c28] :: Row K38 (.slice A69 o58.f_l.length c71) o58.f_l :: Bx b68 75 [.slice A69 o58.f_l.length c71] :: Row K38 (.slice A769 o758.V.length c771) o758.V :: Bx b768 28 [.slice A769 o758.V.length c771] :: Γ))) wd1104 := H1103
                      refine sp_op [(19, .pointer (some ⟨b13, 0, none⟩)), (103, .bool y818)] (ac rfl (ac (hE1101 11 (by decide)) an)) ?_
                      refine r_pure (.pointer (some ⟨b13, 0, none⟩)) rfl ?_ (wn_t rfl rfl (by decide) rfl hb824)
                      exact r_nil (n_lp ⟨_, rfl, undef, rfl, H1103⟩)
                    · intro η808 wd1109 Δ1110 hE1106 hR1107 H1108
                      have H1108 : Hp w0 ((Δ1110 ++ (Row K38 (.slice A14 y7.V.length c16) y7.V :: Bx b13 28 [.slice A14 y7.V.length c16] :: Row K38 (.slice A26 o21.f_l.length c28) o21.f_l :: Bx b25 75 [.slice A26 o21.f_l.length c28] :: Row K38 (.slice A69 o58.f_l.length c71) o58.f_l :: Bx b68 75 [.slice A69 o58.f_l.length c71] :: Row K38 (.slice A769 o758.V.length c771) o758.V :: Bx b768 28 [.slice A769 o758.V.length c771] :: Γ))) wd1109 := H1108
                      refine sp_op [(103, .bool y818), (106, .pointer (some ⟨b13, 0, none⟩))] (ac (hE1106 11 (by decide)) (ac (hE1106 14 (by decide)) an)) ?_
                      refine r_pure (.pointer (some ⟨b13, 0, none⟩)) rfl ?_ (wn_t rfl rfl (by decide) rfl hb824)
                      exact r_nil (n_lp ⟨_, rfl, undef, rfl, H1108⟩)
                    · intro η808 wd1114 Δ1115 hE1111 hR1112 H1113
                      have H1113 : Hp w0 ((Δ1115 ++ (Row K38 (.slice A14 y7.V.length c16) y7.V :: Bx b13 28 [.slice A14 y7.V.length c16] :: Row K38 (.slice A26 o21.f_l.length c28) o21.f_l :: Bx b25 75 [.slice A26 o21.f_l.length c28] :: Row K38 (.slice A69 o58.f_l.length c71) o58.f_l :: Bx b68 75 [.slice A69 o58.f_l.length c71] :: Row K38 (.slice A769 o758.V.length c771) o758.V :: Bx b768 28 [.slice A769 o758.V.length c771] :: Γ))) wd1114 := H1113
                      refine sp_op [(103, .bool y818), (107, .pointer (some ⟨b13, 0, none⟩))] (ac (hE1111 11 (by decide)) (ac (hE1111 15 (by decide)) an)) ?_
                      refine r_fa FA28_0 ⟨b13, 0, none⟩ rfl rfl ?_ (wn_t rfl rfl (by decide) rfl hb824)
                      exact r_nil (n_lp ⟨_, rfl, undef, rfl, H1113⟩)
                    · intro η808 wd1119 Δ1120 hE1116 hR1117 H1118
                      have H1118 : Hp w0 ((Δ1120 ++ (Row K38 (.slice A14 y7.V.length c16) y7.V :: Bx b13 28 [.slice A14 y7.V.length c16] :: Row K38 (.slice A26 o21.f_l.length c28) o21.f_l :: Bx b25 75 [.slice A26 o21.f_l.length c28] :: Row K38 (.slice A69 o58.f_l.length c71) o58.f_l :: Bx b68 75 [.slice A69 o58.f_l.length c71] :: Row K38 (.slice A769 o758.V.length c771) o758.V :: Bx b768 28 [.slice A769 o758.V.length c771] :: Γ))) wd1119 := H1118
                      refine sp_op [(103, .bool y818), (108, .pointer (some ⟨b13, 0, none⟩))] (ac (hE1116 11 (by decide)) (ac (hE1116 16 (by decide)) an)) ?_
                      refine r_ld1 (.slice A14 y7.V.length c16) LD26 rfl (((H1118).tl.g1).cell _ rfl) ?_ (wn_t rfl rfl (by decide) rfl hb824)
                      exact r_nil (n_lp ⟨_, rfl, undef, rfl, H1118⟩)
                    · intro η808 wd1124 Δ1125 hE1121 hR1122 H1123
                      have H1123 : Hp w0 ((Δ1125 ++ (Row K38 (.slice A14 y7.V.length c16) y7.V :: Bx b13 28 [.slice A14 y7.V.length c16] :: Row K38 (.slice A26 o21.f_l.length c28) o21.f_l :: Bx b25 75 [.slice A26 o21.f_l.length c28] :: Row K38 (.slice A69 o58.f_l.length c71) o58.f_l :: Bx b68 75 [.slice A69 o58.f_l.length c71] :: Row K38 (.slice A769 o758.V.length c771) o758.V :: Bx b768 28 [.slice A769 o758.V.length c771] :: Γ))) wd1124 := H1123
                      refine sp_op [(103, .bool y818), (105, .slice (vA ((η808 13).1)) y825.length (vC ((η808 13).1))), (109, .slice A14 y7.V.length c16)] (ac (hE1121 11 (by decide)) (ac (hE1121 13 (by decide)) (ac (hE1121 17 (by decide)) an))) ?_
                      refine r_callf Try.call21 (scutagekeep_Same_api_Vintage_ok y825 (vA ((η808 13).1)) y825.length (vC ((η808 13).1)) rfl (((show (Row K38 (.slice (vA ((η808 13).1)) y825.length (vC ((η808 13).1))) y825) _ from ((H1123)).memr (hR1122 _ (List.mem_of_getElem? (i := 1) rfl) rfl))).cap) (fun _ H => ((show (Row K38 (.slice (vA ((η808 13).1)) y825.length (vC ((η808 13).1))) y825) _ from (H).memr (hR1122 _ (List.mem_of_getElem? (i := 1) rfl) rfl)).rd)) y7.V A14 y7.V.length c16 rfl ((((H1123)).tl.g0).cap) (fun _ H => ((H).tl.g0.rd)) y834 H1123 hy835) ?_ (wn_t rfl rfl (by decide) rfl hb824)
                      rintro e1129 wd1128 ⟨rfl, H1131⟩
                      refine ⟨_, rfl, ?_⟩
                      exact r_nil (n_lp ⟨_, rfl, undef, rfl, H1131⟩)
                    · intro η808 wd1135 Δ1136 hE1132 hR1133 H1134
                      have H1134 : Hp w0 ((Δ1136 ++ (Row K38 (.slice A14 y7.V.length c16) y7.V :: Bx b13 28 [.slice A14 y7.V.length c16] :: Row K38 (.slice A26 o21.f_l.length c28) o21.f_l :: Bx b25 75 [.slice A26 o21.f_l.length c28] :: Row K38 (.slice A69 o58.f_l.length c71) o58.f_l :: Bx b68 75 [.slice A69 o58.f_l.length c71] :: Row K38 (.slice A769 o758.V.length c771) o758.V :: Bx b768 28 [.slice A769 o758.V.length c771] :: Γ))) wd1135 := H1134
                      refine sp_op [(103, .bool y818), (110, .bool y834)] (ac (hE1132 11 (by decide)) (ac (hE1132 18 (by decide)) an)) ?_
                      refine r_pick_t (.bool y834) hb824 rfl rfl ?_
                      exact r_nil (n_lp ⟨_, rfl, undef, rfl, H1134⟩)
                    · intro η808 wd1140 Δ1141 hE1137 hR1138 H1139
                      have H1139 : Hp w0 ((Δ1141 ++ (Row K38 (.slice A14 y7.V.length c16) y7.V :: Bx b13 28 [.slice A14 y7.V.length c16] :: Row K38 (.slice A26 o21.f_l.length c28) o21.f_l :: Bx b25 75 [.slice A26 o21.f_l.length c28] :: Row K38 (.slice A69 o58.f_l.length c71) o58.f_l :: Bx b68 75 [.slice A69 o58.f_l.length c71] :: Row K38 (.slice A769 o758.V.length c771) o758.V :: Bx b768 28 [.slice A769 o758.V.length c771] :: Γ))) wd1140 := H1139
                      refine sp_op [(111, .bool y834)] (ac (hE1137 19 (by decide)) an) ?_
                      refine r_pure (.bool y834) rfl ?_
                      exact r_nil (n_lp ⟨_, rfl, undef, rfl, H1139⟩)
                    · intro η808 wd1145 Δ1146 hE1142 hR1143 H1144
                      have H1144 : Hp w0 ((Δ1146 ++ (Row K38 (.slice A14 y7.V.length c16) y7.V :: Bx b13 28 [.slice A14 y7.V.length c16] :: Row K38 (.slice A26 o21.f_l.length c28) o21.f_l :: Bx b25 75 [.slice A26 o21.f_l.length c28] :: Row K38 (.slice A69 o58.f_l.length c71) o58.f_l :: Bx b68 75 [.slice A69 o58.f_l.length c71] :: Row K38 (.slice A769 o758.V.length c771) o758.V :: Bx b768 28 [.slice A769 o758.V.length c771] :: Γ))) wd1145 := H1144
                      refine sp_op [(112, .bool y834)] (ac (hE1142 20 (by decide)) an) ?_
                      refine r_not (wn_f rfl rfl (by decide) rfl hb840) ?_
                      exact r_nil (n_lp ⟨_, rfl, undef, rfl, H1144⟩)
                    · intro η808 wd1150 Δ1151 hE1147 hR1148 H1149
                      have H1149 : Hp w0 ((Δ1151 ++ (Row K38 (.slice A14 y7.V.length c16) y7.V :: Bx b13 28 [.slice A14 y7.V.length c16] :: Row K38 (.slice A26 o21.f_l.length c28) o21.f_l :: Bx b25 75 [.slice A26 o21.f_l.length c28] :: Row K38 (.slice A69 o58.f_l.length c71) o58.f_l :: Bx b68 75 [.slice A69 o58.f_l.length c71] :: Row K38 (.slice A769 o758.V.length c771) o758.V :: Bx b768 28 [.slice A769 o758.V.length c771] :: Γ))) wd1150 := H1149
                      refine sp_op [(112, .bool y834), (113, undef)] (ac (hE1147 20 (by decide)) (ac (hE1147 21 (by decide)) an)) ?_
                      refine r_pick_f (.bool false) hb840 rfl rfl ?_
                      exact r_nil (n_lp ⟨_, rfl, undef, rfl, H1149⟩)
                    · intro η808 wd1155 Δ1156 hE1152 hR1153 H1154
                      have H1154 : Hp w0 ((Δ1156 ++ (Row K38 (.slice A14 y7.V.length c16) y7.V :: Bx b13 28 [.slice A14 y7.V.length c16] :: Row K38 (.slice A26 o21.f_l.length c28) o21.f_l :: Bx b25 75 [.slice A26 o21.f_l.length c28] :: Row K38 (.slice A69 o58.f_l.length c71) o58.f_l :: Bx b68 75 [.slice A69 o58.f_l.length c71] :: Row K38 (.slice A769 o758.V.length c771) o758.V :: Bx b768 28 [.slice A769 o758.V.length c771] :: Γ))) wd1155 := H1154
                      refine sp_op [(114, .bool false)] (ac (hE1152 22 (by decide)) an) ?_
                      refine r_pure (.bool false) rfl ?_
                      exact r_nil (n_lp ⟨_, rfl, undef, rfl, H1154⟩)
                    · intro η808 wd1158 hV1159 H1157
                      have H1160 : Hp w0 (Row K38 (.slice (vA ((η808 4).1)) y809.length (vC ((η808 4).1))) y809 :: Row K38 (.slice (vA ((η808 13).1)) y825.length (vC ((η808 13).1))) y825 :: Row K38 (.slice A14 y7.V.length c16) y7.V :: Bx b13 28 [.slice A14 y7.V.length c16] :: Row K38 (.slice A26 o21.f_l.length c28) o21.f_l :: Bx b25 75 [.slice A26 o21.f_l.length c28] :: Row K38 (.slice A69 o58.f_l.length c71) o58.f_l :: Bx b68 75 [.slice A69 o58.f_l.length c71] :: Row K38 (.slice A769 o758.V.length c771) o758.V :: Bx b768 28 [.slice A769 o758.V.length c771] :: Γ) wd1158 := H1157
                      refine n_frame [(18, .bool false)] (ac (hV1159 23 rfl) an) ?_
                      refine n_cut ⟨false, upk (ac rfl an), H1160.d.d.d.d.d.d.d.d.d.d, hm⟩
                · refine Flow.run' [[], [0], [0, 1], [0, 1, 2], [0, 1, 2, 3], [0, 1, 2], [0, 1, 2, 5], [0, 1, 2, 5, 6], [0, 1, 2, 5, 6, 7], [0, 1, 2, 3, 4, 5, 6, 7, 8], [0, 1, 2, 3, 4, 5, 6, 7, 8, 9], [0, 1, 2, 3, 4, 5, 6, 7, 8, 9, 10], [0, 1, 2, 3, 4, 5, 6, 7, 8, 9, 10, 11], [0, 1, 2, 3, 4, 5, 6, 7, 8, 9, 10, 11, 12], [0, 1, 2, 3, 4, 5, 6, 7, 8, 9, 10, 11], [0, 1, 2, 3, 4, 5, 6, 7, 8, 9, 10, 11, 14], [0, 1, 2, 3, 4, 5, 6, 7, 8, 9, 10, 11, 14, 15], [0, 1, 2, 3, 4, 5, 6, 7, 8, 9, 10, 11, 14, 15, 16], [0, 1, 2, 3, 4, 5, 6, 7, 8, 9, 10, 11, 12, 13, 14, 15, 16, 17], [0, 1, 2, 3, 4, 5, 6, 7, 8, 9, 10, 11, 12, 13, 14, 15, 16, 17, 18], [0, 1, 2, 3, 4, 5, 6, 7, 8, 9, 10, 11, 12, 13, 14, 15, 16, 17, 18, 19], [0, 1, 2, 3, 4, 5, 6, 7, 8, 9, 10, 11, 12, 13, 14, 15, 16, 17, 18, 19, 20], [0, 1, 2, 3, 4, 5, 6, 7, 8, 9, 10, 11, 12, 13, 14, 15, 16, 17, 18, 19, 20, 21], [0, 1, 2, 3, 4, 5, 6, 7, 8, 9, 10, 11, 12, 13, 14, 15, 16, 17, 18, 19, 20, 21, 22]] [(92, 0), (93, 1), (94, 2), (95, 3), (96, 4), (97, 5), (98, 6), (99, 7), (100, 8), (101, 9), (102, 10), (103, 11), (104, 12), (105, 13), (106, 14), (107, 15), (108, 16), (109, 17), (110, 18), (111, 19), (112, 20), (113, 21), (114, 22), (18, 23)] [(fun η808 v => v.1 = .pointer (some ⟨b68, 0, none⟩)), (fun η808 v => v.1 = .bool false), (fun η808 v => v.1 = .bool false), (fun η808 v => v.1 = .pointer (some ⟨b68, 0, none⟩)), (fun η808 v => v.1 = .slice (vA (v.1)) y809.length (vC (v.1))), (fun η808 v => v.1 = .pointer (some ⟨b768, 0, none⟩)), (fun η808 v => v.1 = .pointer (some ⟨b768, 0, none⟩)), (fun η808 v => v.1 = .pointer (some ⟨b768, 0, none⟩)), (fun η808 v => v.1 = .slice A769 o758.V.length c771), (fun η808 v => v.1 = .bool y818), (fun η808 v => v.1 = .bool y818), (fun η808 v => v.1 = .bool y818), (fun η808 v => v.1 = undef), (fun η808 v => v.1 = undef), (fun η808 v => v.1 = undef), (fun η808 v => v.1 = undef), (fun η808 v => v.1 = undef), (fun η808 v => v.1 = undef), (fun η808 v => v.1 = undef), (fun η808 v => v.1 = .bool false), (fun η808 v => v.1 = .bool false), (fun η808 v => v.1 = undef), (fun η808 v => v.1 = .bool false), (fun η808 v => v.1 = .bool false)] [⟨(some 4), none, fun η808 => Row K38 (.slice (vA ((η808 4).1)) y809.length (vC ((η808 4).1))) y809⟩] rfl (by kernel_rfl) (by kernel_rfl) H804 ⟨?_, ?_, ?_, ?_, ?_, ?_, ?_, ?_, ?_, ?_, ?_, ?_, ?_, ?_, ?_, ?_, ?_, ?_, ?_, ?_, ?_, ?_, ?_, ?_, trivial⟩ ?_
                  · intro η808 wd1164 Δ1165 hE1161 hR1162 H1163
                    have H1163 : Hp w0 ((Δ1165 ++ (Row K38 (.slice A14 y7.V.length c16) y7.V :: Bx b13 28 [.slice A14 y7.V.length c16] :: Row K38 (.slice A26 o21.f_l.length c28) o21.f_l :: Bx b25 75 [.slice A26 o21.f_l.length c28] :: Row K38 (.slice A69 o58.f_l.length c71) o58.f_l :: Bx b68 75 [.slice A69 o58.f_l.length c71] :: Row K38 (.slice A769 o758.V.length c771) o758.V :: Bx b768 28 [.slice A769 o758.V.length c771] :: Γ))) wd1164 := H1163
                    refine sp_op [(22, .pointer (some ⟨b68, 0, none⟩))] (ac rfl an) ?_
                    refine r_pure (.pointer (some ⟨b68, 0, none⟩)) rfl ?_
                    exact r_nil (n_lp ⟨_, rfl, undef, rfl, H1163⟩)
                  · intro η808 wd1169 Δ1170 hE1166 hR1167 H1168
                    have H1168 : Hp w0 ((Δ1170 ++ (Row K38 (.slice A14 y7.V.length c16) y7.V :: Bx b13 28 [.slice A14 y7.V.length c16] :: Row K38 (.slice A26 o21.f_l.length c28) o21.f_l :: Bx b25 75 [.slice A26 o21.f_l.length c28] :: Row K38 (.slice A69 o58.f_l.length c71) o58.f_l :: Bx b68 75 [.slice A69 o58.f_l.length c71] :: Row K38 (.slice A769 o758.V.length c771) o758.V :: Bx b768 28 [.slice A769 o758.V.length c771] :: Γ))) wd1169 := H1168
                    refine sp_op [(92, .pointer (some ⟨b68, 0, none⟩))] (ac (hE1166 0 (by decide)) an) ?_
                    refine r_eqn Try.underlying23 rfl rfl ?_
                    exact r_nil (n_lp ⟨_, rfl, undef, rfl, H1168⟩)
                  · intro η808 wd1174 Δ1175 hE1171 hR1172 H1173
                    have H1173 : Hp w0 ((Δ1175 ++ (Row K38 (.slice A14 y7.V.length c16) y7.V :: Bx b13 28 [.slice A14 y7.V.length c16] :: Row K38 (.slice A26 o21.f_l.length c28) o21.f_l :: Bx b25 75 [.slice A26 o21.f_l.length c28] :: Row K38 (.slice A69 o58.f_l.length c71) o58.f_l :: Bx b68 75 [.slice A69 o58.f_l.length c71] :: Row K38 (.slice A769 o758.V.length c771) o758.V :: Bx b768 28 [.slice A769 o758.V.length c771] :: Γ))) wd1174 := H1173
                    refine sp_op [(93, .bool false)] (ac (hE1171 1 (by decide)) an) ?_
                    refine r_pure (.bool false) rfl ?_
                    exact r_nil (n_lp ⟨_, rfl, undef, rfl, H1173⟩)
                  · intro η808 wd1179 Δ1180 hE1176 hR1177 H1178
                    have H1178 : Hp w0 ((Δ1180 ++ (Row K38 (.slice A14 y7.V.length c16) y7.V :: Bx b13 28 [.slice A14 y7.V.length c16] :: Row K38 (.slice A26 o21.f_l.length c28) o21.f_l :: Bx b25 75 [.slice A26 o21.f_l.length c28] :: Row K38 (.slice A69 o58.f_l.length c71) o58.f_l :: Bx b68 75 [.slice A69 o58.f_l.length c71] :: Row K38 (.slice A769 o758.V.length c771) o758.V :: Bx b768 28 [.slice A769 o758.V.length c771] :: Γ))) wd1179 := H1178
                    refine sp_op [(22, .pointer (some ⟨b68, 0, none⟩)), (94, .bool false)] (ac rfl (ac (hE1176 2 (by decide)) an)) ?_
                    refine r_pure (.pointer (some ⟨b68, 0, none⟩)) rfl ?_ (wn_t rfl rfl (by decide) rfl rfl)
                    exact r_nil (n_lp ⟨_, rfl, undef, rfl, H1178⟩)
                  · intro η808 wd1184 Δ1185 hE1181 hR1182 H1183
                    have H1183 : Hp w0 ((Δ1185 ++ (Row K38 (.slice A14 y7.V.length c16) y7.V :: Bx b13 28 [.slice A14 y7.V.length c16] :: Row K38 (.slice A26 o21.f_l.length c28) o21.f_l :: Bx b25 75 [.slice A26 o21.f_l.length c28] :: Row K38 (.slice A69 o58.f_l.length c71) o58.f_l :: Bx b68 75 [.slice A69 o58.f_l.length c71] :: Row K38 (.slice A769 o758.V.length c771) o758.V :: Bx b768 28 [.slice A769 o758.V.length c771] :: Γ))) wd1184 := H1183
                    refine sp_op [(94, .bool false), (95, .pointer (some ⟨b68, 0, none⟩))] (ac (hE1181 2 (by decide)) (ac (hE1181 3 (by decide)) an)) ?_
                    refine r_callf Try.call22 (vintage_Losses_Rows_ok b68 (⟨o58.f_l⟩ : vintage_Losses) A69 o58.f_l.length c71 rfl ((((H1183)).tl.g4).cap) (fun _ H => ((H).tl.g4.rd)) (fun _ H => ((H).tl.g5)) y809 H1183 hy810) ?_ (wn_t rfl rfl (by decide) rfl rfl)
                    rintro e1189 wd1188 ⟨A1192, n1193, c1194, rfl, H1191⟩
                    obtain rfl := (H1191.g0).leneq
                    refine ⟨_, rfl, ?_⟩
                    exact r_nil (n_lp ⟨_, rfl, (.tuple #[.slice A1192 y809.length c1194]), rfl, H1191⟩)
                  · intro η808 wd1198 Δ1199 hE1195 hR1196 H1197
                    have H1197 : Hp w0 ((Δ1199 ++ (Row K38 (.slice A14 y7.V.length c16) y7.V :: Bx b13 28 [.slice A14 y7.V.length c16] :: Row K38 (.slice A26 o21.f_l.length c28) o21.f_l :: Bx b25 75 [.slice A26 o21.f_l.length c28] :: Row K38 (.slice A69 o58.f_l.length c71) o58.f_l :: Bx b68 75 [.slice A69 o58.f_l.length c71] :: Row K38 (.slice A769 o758.V.length c771) o758.V :: Bx b768 28 [.slice A769 o758.V.length c771] :: Γ))) wd1198 := H1197
                    refine sp_op [(25, .pointer (some ⟨b768, 0, none⟩)), (94, .bool false)] (ac rfl (ac (hE1195 2 (by decide)) an)) ?_
                    refine r_pure (.pointer (some ⟨b768, 0, none⟩)) rfl ?_ (wn_t rfl rfl (by decide) rfl rfl)
                    exact r_nil (n_lp ⟨_, rfl, undef, rfl, H1197⟩)
                  · intro η808 wd1203 Δ1204 hE1200 hR1201 H1202
                    have H1202 : Hp w0 ((Δ1204 ++ (Row K38 (.slice A14 y7.V.length c16) y7.V :: Bx b13 28 [.slice A14 y7.V.length c16] :: Row K38 (.slice A26 o21.f_l.length c28) o21.f_l :: Bx b25 75 [.slice A26 o21.f_l.length c28] :: Row K38 (.slice A69 o58.f_l.length c71) o58.f_l :: Bx b68 75 [.slice A69 o58.f_l.length c71] :: Row K38 (.slice A769 o758.V.length c771) o758.V :: Bx b768 28 [.slice A769 o758.V.length c771] :: Γ))) wd1203 := H1202
                    refine sp_op [(94, .bool false), (97, .pointer (some ⟨b768, 0, none⟩))] (ac (hE1200 2 (by decide)) (ac (hE1200 5 (by decide)) an)) ?_
                    refine r_pure (.pointer (some ⟨b768, 0, none⟩)) rfl ?_ (wn_t rfl rfl (by decide) rfl rfl)
                    exact r_nil (n_lp ⟨_, rfl, undef, rfl, H1202⟩)
                  · intro η808 wd1208 Δ1209 hE1205 hR1206 H1207
                    have H1207 : Hp w0 ((Δ1209 ++ (Row K38 (.slice A14 y7.V.length c16) y7.V :: Bx b13 28 [.slice A14 y7.V.length c16] :: Row K38 (.slice A26 o21.f_l.length c28) o21.f_l :: Bx b25 75 [.slice A26 o21.f_l.length c28] :: Row K38 (.slice A69 o58.f_l.length c71) o58.f_l :: Bx b68 75 [.slice A69 o58.f_l.length c71] :: Row K38 (.slice A769 o758.V.length c771) o758.V :: Bx b768 28 [.slice A769 o758.V.length c771] :: Γ))) wd1208 := H1207
                    refine sp_op [(94, .bool false), (98, .pointer (some ⟨b768, 0, none⟩))] (ac (hE1205 2 (by decide)) (ac (hE1205 6 (by decide)) an)) ?_
                    refine r_fa FA28_0 ⟨b768, 0, none⟩ rfl rfl ?_ (wn_t rfl rfl (by decide) rfl rfl)
                    exact r_nil (n_lp ⟨_, rfl, undef, rfl, H1207⟩)
                  · intro η808 wd1213 Δ1214 hE1210 hR1211 H1212
                    have H1212 : Hp w0 ((Δ1214 ++ (Row K38 (.slice A14 y7.V.length c16) y7.V :: Bx b13 28 [.slice A14 y7.V.length c16] :: Row K38 (.slice A26 o21.f_l.length c28) o21.f_l :: Bx b25 75 [.slice A26 o21.f_l.length c28] :: Row K38 (.slice A69 o58.f_l.length c71) o58.f_l :: Bx b68 75 [.slice A69 o58.f_l.length c71] :: Row K38 (.slice A769 o758.V.length c771) o758.V :: Bx b768 28 [.slice A769 o758.V.length c771] :: Γ))) wd1213 := H1212
                    refine sp_op [(94, .bool false), (99, .pointer (some ⟨b768, 0, none⟩))] (ac (hE1210 2 (by decide)) (ac (hE1210 7 (by decide)) an)) ?_
                    refine r_ld1 (.slice A769 o758.V.length c771) LD26 rfl (((H1212).tl.g7).cell _ rfl) ?_ (wn_t rfl rfl (by decide) rfl rfl)
                    exact r_nil (n_lp ⟨_, rfl, undef, rfl, H1212⟩)
                  · intro η808 wd1218 Δ1219 hE1215 hR1216 H1217
                    have H1217 : Hp w0 ((Δ1219 ++ (Row K38 (.slice A14 y7.V.length c16) y7.V :: Bx b13 28 [.slice A14 y7.V.length c16] :: Row K38 (.slice A26 o21.f_l.length c28) o21.f_l :: Bx b25 75 [.slice A26 o21.f_l.length c28] :: Row K38 (.slice A69 o58.f_l.length c71) o58.f_l :: Bx b68 75 [.slice A69 o58.f_l.length c71] :: Row K38 (.slice A769 o758.V.length c771) o758.V :: Bx b768 28 [.slice A769 o758.V.length c771] :: Γ))) wd1218 := H1217
                    refine sp_op [(94, .bool false), (96, .slice (vA ((η808 4).1)) y809.length (vC ((η808 4).1))), (100, .slice A769 o758.V.length c771)] (ac (hE1215 2 (by decide)) (ac (hE1215 4 (by decide)) (ac (hE1215 8 (by decide)) an))) ?_
                    refine r_callf Try.call21 (scutagekeep_Same_api_Vintage_ok y809 (vA ((η808 4).1)) y809.length (vC ((η808 4).1)) rfl (((show (Row K38 (.slice (vA ((η808 4).1)) y809.length (vC ((η808 4).1))) y809) _ from ((H1217)).memr (hR1216 _ (List.mem_of_getElem? (i := 0) rfl) rfl))).cap) (fun _ H => ((show (Row K38 (.slice (vA ((η808 4).1)) y809.length (vC ((η808 4).1))) y809) _ from (H).memr (hR1216 _ (List.mem_of_getElem? (i := 0) rfl) rfl)).rd)) o758.V A769 o758.V.length c771 rfl ((((H1217)).tl.g6).cap) (fun _ H => ((H).tl.g6.rd)) y818 H1217 hy819) ?_ (wn_t rfl rfl (by decide) rfl rfl)
                    rintro e1223 wd1222 ⟨rfl, H1225⟩
                    refine ⟨_, rfl, ?_⟩
                    exact r_nil (n_lp ⟨_, rfl, undef, rfl, H1225⟩)
                  · intro η808 wd1229 Δ1230 hE1226 hR1227 H1228
                    have H1228 : Hp w0 ((Δ1230 ++ (Row K38 (.slice A14 y7.V.length c16) y7.V :: Bx b13 28 [.slice A14 y7.V.length c16] :: Row K38 (.slice A26 o21.f_l.length c28) o21.f_l :: Bx b25 75 [.slice A26 o21.f_l.length c28] :: Row K38 (.slice A69 o58.f_l.length c71) o58.f_l :: Bx b68 75 [.slice A69 o58.f_l.length c71] :: Row K38 (.slice A769 o758.V.length c771) o758.V :: Bx b768 28 [.slice A769 o758.V.length c771] :: Γ))) wd1229 := H1228
                    refine sp_op [(94, .bool false), (101, .bool y818)] (ac (hE1226 2 (by decide)) (ac (hE1226 9 (by decide)) an)) ?_
                    refine r_pick_f (.bool y818) rfl rfl rfl ?_
                    exact r_nil (n_lp ⟨_, rfl, undef, rfl, H1228⟩)
                  · intro η808 wd1234 Δ1235 hE1231 hR1232 H1233
                    have H1233 : Hp w0 ((Δ1235 ++ (Row K38 (.slice A14 y7.V.length c16) y7.V :: Bx b13 28 [.slice A14 y7.V.length c16] :: Row K38 (.slice A26 o21.f_l.length c28) o21.f_l :: Bx b25 75 [.slice A26 o21.f_l.length c28] :: Row K38 (.slice A69 o58.f_l.length c71) o58.f_l :: Bx b68 75 [.slice A69 o58.f_l.length c71] :: Row K38 (.slice A769 o758.V.length c771) o758.V :: Bx b768 28 [.slice A769 o758.V.length c771] :: Γ))) wd1234 := H1233
                    refine sp_op [(102, .bool y818)] (ac (hE1231 10 (by decide)) an) ?_
                    refine r_pure (.bool y818) rfl ?_
                    exact r_nil (n_lp ⟨_, rfl, undef, rfl, H1233⟩)
                  · intro η808 wd1239 Δ1240 hE1236 hR1237 H1238
                    have H1238 : Hp w0 ((Δ1240 ++ (Row K38 (.slice A14 y7.V.length c16) y7.V :: Bx b13 28 [.slice A14 y7.V.length c16] :: Row K38 (.slice A26 o21.f_l.length c28) o21.f_l :: Bx b25 75 [.slice A26 o21.f_l.length c28] :: Row K38 (.slice A69 o58.f_l.length c71) o58.f_l :: Bx b68 75 [.slice A69 o58.f_l.length c71] :: Row K38 (.slice A769 o758.V.length c771) o758.V :: Bx b768 28 [.slice A769 o758.V.length c771] :: Γ))) wd1239 := H1238
                    refine sp_op [(20, .pointer (some ⟨b25, 0, none⟩)), (103, .bool y818)] (ac rfl (ac (hE1236 11 (by decide)) an)) ?_
                    refine r_not (wn_f rfl rfl (by decide) rfl hb824) ?_
                    exact r_nil (n_lp ⟨_, rfl, undef, rfl, H1238⟩)
                  · intro η808 wd1244 Δ1245 hE1241 hR1242 H1243
                    have H1243 : Hp w0 ((Δ1245 ++ (Row K38 (.slice A14 y7.V.length c16) y7.V :: Bx b13 28 [.slice A14 y7.V.length c16] :: Row K38 (.slice A26 o21.f_l.length c28) o21.f_l :: Bx b25 75 [.slice A26 o21.f_l.length c28] :: Row K38 (.slice A69 o58.f_l.length c71) o58.f_l :: Bx b68 75 [.slice A69 o58.f_l.length c71] :: Row K38 (.slice A769 o758.V.length c771) o758.V :: Bx b768 28 [.slice A769 o758.V.length c771] :: Γ))) wd1244 := H1243
                    refine sp_op [(103, .bool y818), (104, undef)] (ac (hE1241 11 (by decide)) (ac (hE1241 12 (by decide)) an)) ?_
                    refine r_not (wn_f rfl rfl (by decide) rfl hb824) ?_
                    exact r_nil (n_lp ⟨_, rfl, undef, rfl, H1243⟩)
                  · intro η808 wd1249 Δ1250 hE1246 hR1247 H1248
                    have H1248 : Hp w0 ((Δ1250 ++ (Row K38 (.slice A14 y7.V.length c16) y7.V :: Bx b13 28 [.slice A14 y7.V.length c16] :: Row K38 (.slice A26 o21.f_l.length c28) o21.f_l :: Bx b25 75 [.slice A26 o21.f_l.length c28] :: Row K38 (.slice A69 o58.f_l.length c71) o58.f_l :: Bx b68 75 [.slice A69 o58.f_l.length c71] :: Row K38 (.slice A769 o758.V.length c771) o758.V :: Bx b768 28 [.slice A769 o758.V.length c771] :: Γ))) wd1249 := H1248
                    refine sp_op [(19, .pointer (some ⟨b13, 0, none⟩)), (103, .bool y818)] (ac rfl (ac (hE1246 11 (by decide)) an)) ?_
                    refine r_not (wn_f rfl rfl (by decide) rfl hb824) ?_
                    exact r_nil (n_lp ⟨_, rfl, undef, rfl, H1248⟩)
                  · intro η808 wd1254 Δ1255 hE1251 hR1252 H1253
                    have H1253 : Hp w0 ((Δ1255 ++ (Row K38 (.slice A14 y7.V.length c16) y7.V :: Bx b13 28 [.slice A14 y7.V.length c16] :: Row K38 (.slice A26 o21.f_l.length c28) o21.f_l :: Bx b25 75 [.slice A26 o21.f_l.length c28] :: Row K38 (.slice A69 o58.f_l.length c71) o58.f_l :: Bx b68 75 [.slice A69 o58.f_l.length c71] :: Row K38 (.slice A769 o758.V.length c771) o758.V :: Bx b768 28 [.slice A769 o758.V.length c771] :: Γ))) wd1254 := H1253
                    refine sp_op [(103, .bool y818), (106, undef)] (ac (hE1251 11 (by decide)) (ac (hE1251 14 (by decide)) an)) ?_
                    refine r_not (wn_f rfl rfl (by decide) rfl hb824) ?_
                    exact r_nil (n_lp ⟨_, rfl, undef, rfl, H1253⟩)
                  · intro η808 wd1259 Δ1260 hE1256 hR1257 H1258
                    have H1258 : Hp w0 ((Δ1260 ++ (Row K38 (.slice A14 y7.V.length c16) y7.V :: Bx b13 28 [.slice A14 y7.V.length c16] :: Row K38 (.slice A26 o21.f_l.length c28) o21.f_l :: Bx b25 75 [.slice A26 o21.f_l.length c28] :: Row K38 (.slice A69 o58.f_l.length c71) o58.f_l :: Bx b68 75 [.slice A69 o58.f_l.length c71] :: Row K38 (.slice A769 o758.V.length c771) o758.V :: Bx b768 28 [.slice A769 o758.V.length c771] :: Γ))) wd1259 := H1258
                    refine sp_op [(103, .bool y818), (107, undef)] (ac (hE1256 11 (by decide)) (ac (hE1256 15 (by decide)) an)) ?_
                    refine r_not (wn_f rfl rfl (by decide) rfl hb824) ?_
                    exact r_nil (n_lp ⟨_, rfl, undef, rfl, H1258⟩)
                  · intro η808 wd1264 Δ1265 hE1261 hR1262 H1263
                    have H1263 : Hp w0 ((Δ1265 ++ (Row K38 (.slice A14 y7.V.length c16) y7.V :: Bx b13 28 [.slice A14 y7.V.length c16] :: Row K38 (.slice A26 o21.f_l.length c28) o21.f_l :: Bx b25 75 [.slice A26 o21.f_l.length c28] :: Row K38 (.slice A69 o58.f_l.length c71) o58.f_l :: Bx b68 75 [.slice A69 o58.f_l.length c71] :: Row K38 (.slice A769 o758.V.length c771) o758.V :: Bx b768 28 [.slice A769 o758.V.length c771] :: Γ))) wd1264 := H1263
                    refine sp_op [(103, .bool y818), (108, undef)] (ac (hE1261 11 (by decide)) (ac (hE1261 16 (by decide)) an)) ?_
                    refine r_not (wn_f rfl rfl (by decide) rfl hb824) ?_
                    exact r_nil (n_lp ⟨_, rfl, undef, rfl, H1263⟩)
                  · intro η808 wd1269 Δ1270 hE1266 hR1267 H1268
                    have H1268 : Hp w0 ((Δ1270 ++ (Row K38 (.slice A14 y7.V.length c16) y7.V :: Bx b13 28 [.slice A14 y7.V.length c16] :: Row K38 (.slice A26 o21.f_l.length c28) o21.f_l :: Bx b25 75 [.slice A26 o21.f_l.length c28] :: Row K38 (.slice A69 o58.f_l.length c71) o58.f_l :: Bx b68 75 [.slice A69 o58.f_l.length c71] :: Row K38 (.slice A769 o758.V.length c771) o758.V :: Bx b768 28 [.slice A769 o758.V.length c771] :: Γ))) wd1269 := H1268
                    refine sp_op [(103, .bool y818), (105, undef), (109, undef)] (ac (hE1266 11 (by decide)) (ac (hE1266 13 (by decide)) (ac (hE1266 17 (by decide)) an))) ?_
                    refine r_not (wn_f rfl rfl (by decide) rfl hb824) ?_
                    exact r_nil (n_lp ⟨_, rfl, undef, rfl, H1268⟩)
                  · intro η808 wd1274 Δ1275 hE1271 hR1272 H1273
                    have H1273 : Hp w0 ((Δ1275 ++ (Row K38 (.slice A14 y7.V.length c16) y7.V :: Bx b13 28 [.slice A14 y7.V.length c16] :: Row K38 (.slice A26 o21.f_l.length c28) o21.f_l :: Bx b25 75 [.slice A26 o21.f_l.length c28] :: Row K38 (.slice A69 o58.f_l.length c71) o58.f_l :: Bx b68 75 [.slice A69 o58.f_l.length c71] :: Row K38 (.slice A769 o758.V.length c771) o758.V :: Bx b768 28 [.slice A769 o758.V.length c771] :: Γ))) wd1274 := H1273
                    refine sp_op [(103, .bool y818), (110, undef)] (ac (hE1271 11 (by decide)) (ac (hE1271 18 (by decide)) an)) ?_
                    refine r_pick_f (.bool false) hb824 rfl rfl ?_
                    exact r_nil (n_lp ⟨_, rfl, undef, rfl, H1273⟩)
                  · intro η808 wd1279 Δ1280 hE1276 hR1277 H1278
                    have H1278 : Hp w0 ((Δ1280 ++ (Row K38 (.slice A14 y7.V.length c16) y7.V :: Bx b13 28 [.slice A14 y7.V.length c16] :: Row K38 (.slice A26 o21.f_l.length c28) o21.f_l :: Bx b25 75 [.slice A26 o21.f_l.length c28] :: Row K38 (.slice A69 o58.f_l.length c71) o58.f_l :: Bx b68 75 [.slice A69 o58.f_l.length c71] :: Row K38 (.slice A769 o758.V.length c771) o758.V :: Bx b768 28 [.slice A769 o758.V.length c771] :: Γ))) wd1279 := H1278
                    refine sp_op [(111, .bool false)] (ac (hE1276 19 (by decide)) an) ?_
                    refine r_pure (.bool false) rfl ?_
                    exact r_nil (n_lp ⟨_, rfl, undef, rfl, H1278⟩)
                  · intro η808 wd1284 Δ1285 hE1281 hR1282 H1283
                    have H1283 : Hp w0 ((Δ1285 ++ (Row K38 (.slice A14 y7.V.length c16) y7.V :: Bx b13 28 [.slice A14 y7.V.length c16] :: Row K38 (.slice A26 o21.f_l.length c28) o21.f_l :: Bx b25 75 [.slice A26 o21.f_l.length c28] :: Row K38 (.slice A69 o58.f_l.length c71) o58.f_l :: Bx b68 75 [.slice A69 o58.f_l.length c71] :: Row K38 (.slice A769 o758.V.length c771) o758.V :: Bx b768 28 [.slice A769 o758.V.length c771] :: Γ))) wd1284 := H1283
                    refine sp_op [(112, .bool false)] (ac (hE1281 20 (by decide)) an) ?_
                    refine r_not (wn_f rfl rfl (by decide) rfl rfl) ?_
                    exact r_nil (n_lp ⟨_, rfl, undef, rfl, H1283⟩)
                  · intro η808 wd1289 Δ1290 hE1286 hR1287 H1288
                    have H1288 : Hp w0 ((Δ1290 ++ (Row K38 (.slice A14 y7.V.length c16) y7.V :: Bx b13 28 [.slice A14 y7.V.length c16] :: Row K38 (.slice A26 o21.f_l.length c28) o21.f_l :: Bx b25 75 [.slice A26 o21.f_l.length c28] :: Row K38 (.slice A69 o58.f_l.length c71) o58.f_l :: Bx b68 75 [.slice A69 o58.f_l.length c71] :: Row K38 (.slice A769 o758.V.length c771) o758.V :: Bx b768 28 [.slice A769 o758.V.length c771] :: Γ))) wd1289 := H1288
                    refine sp_op [(112, .bool false), (113, undef)] (ac (hE1286 20 (by decide)) (ac (hE1286 21 (by decide)) an)) ?_
                    refine r_pick_f (.bool false) rfl rfl rfl ?_
                    exact r_nil (n_lp ⟨_, rfl, undef, rfl, H1288⟩)
                  · intro η808 wd1294 Δ1295 hE1291 hR1292 H1293
                    have H1293 : Hp w0 ((Δ1295 ++ (Row K38 (.slice A14 y7.V.length c16) y7.V :: Bx b13 28 [.slice A14 y7.V.length c16] :: Row K38 (.slice A26 o21.f_l.length c28) o21.f_l :: Bx b25 75 [.slice A26 o21.f_l.length c28] :: Row K38 (.slice A69 o58.f_l.length c71) o58.f_l :: Bx b68 75 [.slice A69 o58.f_l.length c71] :: Row K38 (.slice A769 o758.V.length c771) o758.V :: Bx b768 28 [.slice A769 o758.V.length c771] :: Γ))) wd1294 := H1293
                    refine sp_op [(114, .bool false)] (ac (hE1291 22 (by decide)) an) ?_
                    refine r_pure (.bool false) rfl ?_
                    exact r_nil (n_lp ⟨_, rfl, undef, rfl, H1293⟩)
                  · intro η808 wd1297 hV1298 H1296
                    have H1299 : Hp w0 (Row K38 (.slice (vA ((η808 4).1)) y809.length (vC ((η808 4).1))) y809 :: Row K38 (.slice A14 y7.V.length c16) y7.V :: Bx b13 28 [.slice A14 y7.V.length c16] :: Row K38 (.slice A26 o21.f_l.length c28) o21.f_l :: Bx b25 75 [.slice A26 o21.f_l.length c28] :: Row K38 (.slice A69 o58.f_l.length c71) o58.f_l :: Bx b68 75 [.slice A69 o58.f_l.length c71] :: Row K38 (.slice A769 o758.V.length c771) o758.V :: Bx b768 28 [.slice A769 o758.V.length c771] :: Γ) wd1297 := H1296
                    refine n_frame [(18, .bool false)] (ac (hV1298 23 rfl) an) ?_
                    refine n_cut ⟨false, upk (ac rfl an), H1299.d.d.d.d.d.d.d.d.d, hm⟩
              · rintro ρ w ⟨q806, ⟨base, rfl⟩, H807, hm⟩
                unfold scutagelaw15_CurrentTells.j8 at hm
                have hq_ := Option.some.inj hm
                subst hq_
                refine st_ret1 rfl rfl (Nat.le_of_ble_eq_true rfl) rfl ?_
                exact ⟨rfl, H807⟩


end Go.Proofs.Ytcmhekibcbpajaa
