/- The Go functions come to their models: printed by gen.py. -/
import Derived.Test.YtcmhekibcbpajaaBX0
set_option linter.unusedVariables false
set_option linter.unusedSimpArgs false
set_option maxRecDepth 100000
namespace Go.Proofs.Ytcmhekibcbpajaa
open Go Go.RowKit
attribute [local irreducible] W R N L Hp Row SlR Bx

set_option maxHeartbeats 2000000 in
theorem scutagelaw15_CurrentYears_ok {w0 w : World} {Γ : List (World → Prop)} (loss : Int) (income : Int) (life : Int) (wait : Int) (r0_ : Bool) (H : Hp w0 (Γ) w) (hm : scutagelaw15_CurrentYears loss income life wait = some r0_) : Calls Try.prog 5 #[.int .i64 loss, .int .i64 income, .int .i64 life, .int .i64 wait] w (fun e w => e = .returned (.bool r0_) ∧ Hp w0 (Γ) w) := by
  unfold scutagelaw15_CurrentYears at hm
  refine st_enter Try.func5 rfl Try.ntmps5 (Nat.le_of_ble_eq_true rfl) ?_
  refine st_seq ?_
  refine st_region ?_
  refine r_pure (.bool false) rfl ?_
  refine r_seq ?_
  refine st_seq ?_
  refine st_region ?_
  refine r_pure (.int .i64 loss) rfl ?_
  obtain ⟨y1, hy2, hm⟩ := bind_some hm
  refine r_callf Try.call9 (scutagekeep_Within_ok loss 100000 y1 H hy2) ?_
  rintro e4 wd3 ⟨rfl, H6⟩
  refine ⟨_, rfl, ?_⟩
  refine r_pure (.int .i64 (w64 (1 + y1))) rfl ?_
  refine r_pure (.int .i64 income) rfl ?_
  obtain ⟨y7, hy8, hm⟩ := bind_some hm
  refine r_callf Try.call9 (scutagekeep_Within_ok income 100000 y7 H6 hy8) ?_
  rintro e10 wd9 ⟨rfl, H12⟩
  refine ⟨_, rfl, ?_⟩
  refine r_pure (.int .i64 (w64 (2 * y7))) rfl ?_
  refine r_pure (.int .i64 life) rfl ?_
  obtain ⟨y13, hy14, hm⟩ := bind_some hm
  refine r_callf Try.call9 (scutagekeep_Within_ok life 5 y13 H12 hy14) ?_
  rintro e16 wd15 ⟨rfl, H18⟩
  refine ⟨_, rfl, ?_⟩
  refine r_pure (.int .i64 (w64 (1 + y13))) rfl ?_
  refine r_pure (.int .i64 wait) rfl ?_
  obtain ⟨y19, hy20, hm⟩ := bind_some hm
  refine r_callf Try.call9 (scutagekeep_Within_ok wait 8 y19 H18 hy20) ?_
  rintro e22 wd21 ⟨rfl, H24⟩
  refine ⟨_, rfl, ?_⟩
  refine r_pure (.int .i64 (w64 (1 + y19))) rfl ?_
  refine r_pure (.int .i64 (w64 (1 + y1))) rfl ?_
  refine r_pure (.int .i64 (w64 (2 * y7))) rfl ?_
  refine r_pure (.int .i64 (w64 (1 + y13))) rfl ?_
  refine r_pure (.int .i64 (w64 (1 + y19))) rfl ?_
  refine r_seq ?_
  refine st_seq ?_
  refine st_region ?_
  obtain ⟨y25, hy26, hm⟩ := bind_some hm
  refine r_callf Try.call8 (vintage_New_ok  y25 H24 hy26) ?_
  rintro e28 wd27 ⟨b31, A32, n33, c34, rfl, H30⟩
  obtain rfl := (H30.g1).leneq
  refine ⟨_, rfl, ?_⟩
  refine r_pure (.int .i64 (w64 (1 + y1))) rfl ?_
  refine r_pure (.int .i64 (w64 (0 - w64 (1 + y1)))) rfl ?_
  refine r_pure (.int .i64 (w64 (1 + y13))) rfl ?_
  obtain ⟨⟨y35, y36, y37⟩, hy38, hm⟩ := bind_some hm
  refine r_callf Try.call35 (current_Tax_ok b31 (⟨y25.f_l⟩ : vintage_Losses) A32 y25.f_l.length c34 rfl (((H30).g1).cap) (fun _ H => (H.g1.rd)) (fun _ H => (H.g0)) (w64 (0 - w64 (1 + y1))) 0 0 500000 (w64 (1 + y13)) 3 250000 y35 y36 y37 H30 hy38) ?_
  rintro e40 wd39 (⟨hn44, A45, n46, c47, rfl, H42⟩ | ⟨o41, hn44, A48, n49, c50, b51, A52, n53, c54, rfl, H43⟩)
  · subst hn44
    obtain rfl := (H42.g0).leneq
    have hm : (if (y37 != 0) = true then scutagelaw15_CurrentYears.j1 else scutagelaw15_CurrentYears.j1) = some r0_ := hm
    refine ⟨_, rfl, ?_⟩
    refine r_pure (.tuple #[.agg #[.int .i64 y35.Income, .int .i64 y35.Expired, .int .i64 y35.Used, .int .i64 y35.New, .int .i64 y35.Taxable, .int .i64 y35.Tax, .slice A45 y35.Vector.length c47], .pointer none, .int .i64 y37]) rfl ?_
    refine r_pure (.agg #[.int .i64 y35.Income, .int .i64 y35.Expired, .int .i64 y35.Used, .int .i64 y35.New, .int .i64 y35.Taxable, .int .i64 y35.Tax, .slice A45 y35.Vector.length c47]) rfl ?_
    refine r_pure (.pointer none) rfl ?_
    refine r_pure (.int .i64 y37) rfl ?_
    refine r_alloc [.int .i64 0, .int .i64 0, .int .i64 0, .int .i64 0, .int .i64 0, .int .i64 0, .slice none 0 0] Try.zeroValue59 H42 rfl ?_
    intro b55 wd57 H56
    refine r_stA [.int .i64 y35.Income, .int .i64 y35.Expired, .int .i64 y35.Used, .int .i64 y35.New, .int .i64 y35.Taxable, .int .i64 y35.Tax, .slice A45 y35.Vector.length c47] LD59 rfl rfl rfl rfl H56 (Nat.le_of_ble_eq_true rfl) rfl ?_
    intro wd59 H58
    refine r_pure (.pointer none) rfl ?_
    refine r_pure (.int .i64 y37) rfl ?_
    refine r_seq ?_
    refine st_seq ?_
    refine st_cut (fun ρ w => (∃ base, ρ = updl base [(0, .int .i64 (w64 (1 + y1))), (1, .int .i64 (w64 (2 * y7))), (2, .int .i64 (w64 (1 + y13))), (3, .int .i64 (w64 (1 + y19))), (10, .pointer none), (80, .bool true)]) ∧ Hp w0 (Γ) w ∧ scutagelaw15_CurrentYears.j1 = some r0_) ?_ ?_
    · refine st_region ?_
      refine r_pure (.int .i64 y37) rfl ?_
      refine r_pure (.bool (y37 != 0)) rfl ?_
      refine r_pure (.bool (y37 != 0)) rfl ?_
      rcases ite_some hm with ⟨hb61, hm⟩ | ⟨hb61, hm⟩
      · refine r_not (wn_f rfl rfl (by decide) rfl hb61) ?_
        refine r_not (wn_f rfl rfl (by decide) rfl hb61) ?_
        refine r_pick_t (.bool true) hb61 rfl rfl ?_
        refine r_pure (.bool true) rfl ?_
        refine r_not (wn_f rfl rfl (by decide) rfl rfl) ?_
        refine r_not (wn_f rfl rfl (by decide) rfl rfl) ?_
        refine r_not (wn_f rfl rfl (by decide) rfl rfl) ?_
        refine r_not (wn_f rfl rfl (by decide) rfl rfl) ?_
        refine r_pick_t (.bool true) rfl rfl rfl ?_
        refine r_pure (.bool true) rfl ?_
        refine r_not (wn_f rfl rfl (by decide) rfl rfl) ?_
        refine r_not (wn_f rfl rfl (by decide) rfl rfl) ?_
        refine r_not (wn_f rfl rfl (by decide) rfl rfl) ?_
        refine r_pick_t (.bool true) rfl rfl rfl ?_
        refine r_pure (.bool true) rfl ?_
        refine r_not (wn_f rfl rfl (by decide) rfl rfl) ?_
        refine r_not (wn_f rfl rfl (by decide) rfl rfl) ?_
        refine r_not (wn_f rfl rfl (by decide) rfl rfl) ?_
        refine r_pick_t (.bool true) rfl rfl rfl ?_
        refine r_pure (.bool true) rfl ?_
        refine r_not (wn_f rfl rfl (by decide) rfl rfl) ?_
        refine r_not (wn_f rfl rfl (by decide) rfl rfl) ?_
        refine r_not (wn_f rfl rfl (by decide) rfl rfl) ?_
        refine r_not (wn_f rfl rfl (by decide) rfl rfl) ?_
        refine r_pick_t (.bool true) rfl rfl rfl ?_
        refine r_pure (.bool true) rfl ?_
        refine r_not (wn_f rfl rfl (by decide) rfl rfl) ?_
        refine r_not (wn_f rfl rfl (by decide) rfl rfl) ?_
        refine r_not (wn_f rfl rfl (by decide) rfl rfl) ?_
        refine r_not (wn_f rfl rfl (by decide) rfl rfl) ?_
        refine r_pick_t (.bool true) rfl rfl rfl ?_
        refine r_pure (.bool true) rfl ?_
        refine r_not (wn_f rfl rfl (by decide) rfl rfl) ?_
        refine r_not (wn_f rfl rfl (by decide) rfl rfl) ?_
        refine r_not (wn_f rfl rfl (by decide) rfl rfl) ?_
        refine r_not (wn_f rfl rfl (by decide) rfl rfl) ?_
        refine r_not (wn_f rfl rfl (by decide) rfl rfl) ?_
        refine r_not (wn_f rfl rfl (by decide) rfl rfl) ?_
        refine r_not (wn_f rfl rfl (by decide) rfl rfl) ?_
        refine r_not (wn_f rfl rfl (by decide) rfl rfl) ?_
        refine r_not (wn_f rfl rfl (by decide) rfl rfl) ?_
        refine r_pick_t (.bool true) rfl rfl rfl ?_
        refine r_nil ?_
        refine n_cut ⟨upk (ac rfl (ac rfl (ac rfl (ac rfl (ac rfl (ac rfl an)))))), H58.d.d.d.d, hm⟩
      · refine r_pure (.pointer none) rfl ?_ (wn_t rfl rfl (by decide) rfl hb61)
        refine r_eqn Try.underlying23 rfl rfl ?_ (wn_t rfl rfl (by decide) rfl hb61)
        refine r_pick_f (.bool true) hb61 rfl rfl ?_
        refine r_pure (.bool true) rfl ?_
        refine r_not (wn_f rfl rfl (by decide) rfl rfl) ?_
        refine r_not (wn_f rfl rfl (by decide) rfl rfl) ?_
        refine r_not (wn_f rfl rfl (by decide) rfl rfl) ?_
        refine r_not (wn_f rfl rfl (by decide) rfl rfl) ?_
        refine r_pick_t (.bool true) rfl rfl rfl ?_
        refine r_pure (.bool true) rfl ?_
        refine r_not (wn_f rfl rfl (by decide) rfl rfl) ?_
        refine r_not (wn_f rfl rfl (by decide) rfl rfl) ?_
        refine r_not (wn_f rfl rfl (by decide) rfl rfl) ?_
        refine r_pick_t (.bool true) rfl rfl rfl ?_
        refine r_pure (.bool true) rfl ?_
        refine r_not (wn_f rfl rfl (by decide) rfl rfl) ?_
        refine r_not (wn_f rfl rfl (by decide) rfl rfl) ?_
        refine r_not (wn_f rfl rfl (by decide) rfl rfl) ?_
        refine r_pick_t (.bool true) rfl rfl rfl ?_
        refine r_pure (.bool true) rfl ?_
        refine r_not (wn_f rfl rfl (by decide) rfl rfl) ?_
        refine r_not (wn_f rfl rfl (by decide) rfl rfl) ?_
        refine r_not (wn_f rfl rfl (by decide) rfl rfl) ?_
        refine r_not (wn_f rfl rfl (by decide) rfl rfl) ?_
        refine r_pick_t (.bool true) rfl rfl rfl ?_
        refine r_pure (.bool true) rfl ?_
        refine r_not (wn_f rfl rfl (by decide) rfl rfl) ?_
        refine r_not (wn_f rfl rfl (by decide) rfl rfl) ?_
        refine r_not (wn_f rfl rfl (by decide) rfl rfl) ?_
        refine r_not (wn_f rfl rfl (by decide) rfl rfl) ?_
        refine r_pick_t (.bool true) rfl rfl rfl ?_
        refine r_pure (.bool true) rfl ?_
        refine r_not (wn_f rfl rfl (by decide) rfl rfl) ?_
        refine r_not (wn_f rfl rfl (by decide) rfl rfl) ?_
        refine r_not (wn_f rfl rfl (by decide) rfl rfl) ?_
        refine r_not (wn_f rfl rfl (by decide) rfl rfl) ?_
        refine r_not (wn_f rfl rfl (by decide) rfl rfl) ?_
        refine r_not (wn_f rfl rfl (by decide) rfl rfl) ?_
        refine r_not (wn_f rfl rfl (by decide) rfl rfl) ?_
        refine r_not (wn_f rfl rfl (by decide) rfl rfl) ?_
        refine r_not (wn_f rfl rfl (by decide) rfl rfl) ?_
        refine r_pick_t (.bool true) rfl rfl rfl ?_
        refine r_nil ?_
        refine n_cut ⟨upk (ac rfl (ac rfl (ac rfl (ac rfl (ac rfl (ac rfl an)))))), H58.d.d.d.d, hm⟩
    · rintro ρ w ⟨⟨base, rfl⟩, H60, hm⟩
      unfold scutagelaw15_CurrentYears.j1 at hm
      refine st_condt rfl rfl ?_
      refine st_seq ?_
      refine st_region ?_
      refine r_pure (.bool false) rfl ?_
      refine r_seq ?_
      have hq_ := Option.some.inj hm
      subst hq_
      refine st_ret1 rfl rfl (Nat.le_of_ble_eq_true rfl) rfl ?_
      exact ⟨rfl, H60⟩
  · subst hn44
    obtain rfl := (H43.g0).leneq
    obtain rfl := (H43.g2).leneq
    have hm : (if (y37 != 0) = true then scutagelaw15_CurrentYears.j2 o41 y7 y13 y19 y1 true else (if (y35.New != w64 (1 + y1)) = true then scutagelaw15_CurrentYears.j2 o41 y7 y13 y19 y1 true else (if (y35.Tax != 0) = true then scutagelaw15_CurrentYears.j2 o41 y7 y13 y19 y1 true else (if (y35.Taxable != 0) = true then scutagelaw15_CurrentYears.j2 o41 y7 y13 y19 y1 true else ((vintage_Losses_Left (⟨o41.f_l⟩ : vintage_Losses)).bind fun y1359 => (if (y1359 != w64 (1 + y1)) = true then scutagelaw15_CurrentYears.j2 o41 y7 y13 y19 y1 true else ((vintage_Losses_Rows (⟨o41.f_l⟩ : vintage_Losses)).bind fun y1366 => (if ((y1366.length : Int) != 1) = true then scutagelaw15_CurrentYears.j2 o41 y7 y13 y19 y1 true else ((vintage_Losses_Rows (⟨o41.f_l⟩ : vintage_Losses)).bind fun y1376 => (gd ((0 : Int) ≤ 0 ∧ 0 < (y1376.length : Int)) (scutagelaw15_CurrentYears.j2 o41 y7 y13 y19 y1 (!(((rd y1376 0).Origin) == 3 && (((rd y1376 0).Expiry) == (w64 (3 + w64 (1 + y13))) && (((rd y1376 0).Left) == (w64 (1 + y1))))))))))))))))) = some r0_ := hm
    refine ⟨_, rfl, ?_⟩
    refine r_pure (.tuple #[.agg #[.int .i64 y35.Income, .int .i64 y35.Expired, .int .i64 y35.Used, .int .i64 y35.New, .int .i64 y35.Taxable, .int .i64 y35.Tax, .slice A48 y35.Vector.length c50], .pointer (some ⟨b51, 0, none⟩), .int .i64 y37]) rfl ?_
    refine r_pure (.agg #[.int .i64 y35.Income, .int .i64 y35.Expired, .int .i64 y35.Used, .int .i64 y35.New, .int .i64 y35.Taxable, .int .i64 y35.Tax, .slice A48 y35.Vector.length c50]) rfl ?_
    refine r_pure (.pointer (some ⟨b51, 0, none⟩)) rfl ?_
    refine r_pure (.int .i64 y37) rfl ?_
    refine r_alloc [.int .i64 0, .int .i64 0, .int .i64 0, .int .i64 0, .int .i64 0, .int .i64 0, .slice none 0 0] Try.zeroValue59 H43 rfl ?_
    intro b62 wd64 H63
    refine r_stA [.int .i64 y35.Income, .int .i64 y35.Expired, .int .i64 y35.Used, .int .i64 y35.New, .int .i64 y35.Taxable, .int .i64 y35.Tax, .slice A48 y35.Vector.length c50] LD59 rfl rfl rfl rfl H63 (Nat.le_of_ble_eq_true rfl) rfl ?_
    intro wd66 H65
    refine r_pure (.pointer (some ⟨b51, 0, none⟩)) rfl ?_
    refine r_pure (.int .i64 y37) rfl ?_
    refine r_seq ?_
    refine st_seq ?_
    refine st_cut (fun ρ w => ∃ q67 : Bool, (∃ base, ρ = updl base [(0, .int .i64 (w64 (1 + y1))), (1, .int .i64 (w64 (2 * y7))), (2, .int .i64 (w64 (1 + y13))), (3, .int .i64 (w64 (1 + y19))), (10, .pointer (some ⟨b51, 0, none⟩)), (80, .bool q67)]) ∧ Hp w0 (Row K38 (.slice A52 o41.f_l.length c54) o41.f_l :: Bx b51 75 [.slice A52 o41.f_l.length c54] :: Γ) w ∧ scutagelaw15_CurrentYears.j2 o41 y7 y13 y19 y1 q67 = some r0_) ?_ ?_
    · refine st_region ?_
      refine r_pure (.int .i64 y37) rfl ?_
      refine r_pure (.bool (y37 != 0)) rfl ?_
      refine r_pure (.bool (y37 != 0)) rfl ?_
      rcases ite_some hm with ⟨hb1355, hm⟩ | ⟨hb1355, hm⟩
      · refine r_not (wn_f rfl rfl (by decide) rfl hb1355) ?_
        refine r_not (wn_f rfl rfl (by decide) rfl hb1355) ?_
        refine r_pick_t (.bool true) hb1355 rfl rfl ?_
        refine r_pure (.bool true) rfl ?_
        refine r_not (wn_f rfl rfl (by decide) rfl rfl) ?_
        refine r_not (wn_f rfl rfl (by decide) rfl rfl) ?_
        refine r_not (wn_f rfl rfl (by decide) rfl rfl) ?_
        refine r_not (wn_f rfl rfl (by decide) rfl rfl) ?_
        refine r_pick_t (.bool true) rfl rfl rfl ?_
        refine r_pure (.bool true) rfl ?_
        refine r_not (wn_f rfl rfl (by decide) rfl rfl) ?_
        refine r_not (wn_f rfl rfl (by decide) rfl rfl) ?_
        refine r_not (wn_f rfl rfl (by decide) rfl rfl) ?_
        refine r_pick_t (.bool true) rfl rfl rfl ?_
        refine r_pure (.bool true) rfl ?_
        refine r_not (wn_f rfl rfl (by decide) rfl rfl) ?_
        refine r_not (wn_f rfl rfl (by decide) rfl rfl) ?_
        refine r_not (wn_f rfl rfl (by decide) rfl rfl) ?_
        refine r_pick_t (.bool true) rfl rfl rfl ?_
        refine r_pure (.bool true) rfl ?_
        refine r_not (wn_f rfl rfl (by decide) rfl rfl) ?_
        refine r_not (wn_f rfl rfl (by decide) rfl rfl) ?_
        refine r_not (wn_f rfl rfl (by decide) rfl rfl) ?_
        refine r_not (wn_f rfl rfl (by decide) rfl rfl) ?_
        refine r_pick_t (.bool true) rfl rfl rfl ?_
        refine r_pure (.bool true) rfl ?_
        refine r_not (wn_f rfl rfl (by decide) rfl rfl) ?_
        refine r_not (wn_f rfl rfl (by decide) rfl rfl) ?_
        refine r_not (wn_f rfl rfl (by decide) rfl rfl) ?_
        refine r_not (wn_f rfl rfl (by decide) rfl rfl) ?_
        refine r_pick_t (.bool true) rfl rfl rfl ?_
        refine r_pure (.bool true) rfl ?_
        refine r_not (wn_f rfl rfl (by decide) rfl rfl) ?_
        refine r_not (wn_f rfl rfl (by decide) rfl rfl) ?_
        refine r_not (wn_f rfl rfl (by decide) rfl rfl) ?_
        refine r_not (wn_f rfl rfl (by decide) rfl rfl) ?_
        refine r_not (wn_f rfl rfl (by decide) rfl rfl) ?_
        refine r_not (wn_f rfl rfl (by decide) rfl rfl) ?_
        refine r_not (wn_f rfl rfl (by decide) rfl rfl) ?_
        refine r_not (wn_f rfl rfl (by decide) rfl rfl) ?_
        refine r_not (wn_f rfl rfl (by decide) rfl rfl) ?_
        refine r_pick_t (.bool true) rfl rfl rfl ?_
        refine r_nil ?_
        refine n_cut ⟨true, upk (ac rfl (ac rfl (ac rfl (ac rfl (ac rfl (ac rfl an)))))), H65.d.d.u2.d.u2.d.u1, hm⟩
      · refine r_pure (.pointer (some ⟨b51, 0, none⟩)) rfl ?_ (wn_t rfl rfl (by decide) rfl hb1355)
        refine r_eqn Try.underlying23 rfl rfl ?_ (wn_t rfl rfl (by decide) rfl hb1355)
        refine r_pick_f (.bool false) hb1355 rfl rfl ?_
        refine r_pure (.bool false) rfl ?_
        refine r_fa FA59_3 ⟨b62, 3, none⟩ rfl rfl ?_ (wn_t rfl rfl (by decide) rfl rfl)
        refine r_ld1 (.int .i64 y35.New) LD3 rfl ((H65.g0).cell _ rfl) ?_ (wn_t rfl rfl (by decide) rfl rfl)
        refine r_pure (.int .i64 (w64 (1 + y1))) rfl ?_ (wn_t rfl rfl (by decide) rfl rfl)
        refine r_pure (.bool (y35.New != w64 (1 + y1))) rfl ?_ (wn_t rfl rfl (by decide) rfl rfl)
        refine r_pick_f (.bool (y35.New != w64 (1 + y1))) rfl rfl rfl ?_
        refine r_pure (.bool (y35.New != w64 (1 + y1))) rfl ?_
        rcases ite_some hm with ⟨hb1356, hm⟩ | ⟨hb1356, hm⟩
        · refine r_not (wn_f rfl rfl (by decide) rfl hb1356) ?_
          refine r_not (wn_f rfl rfl (by decide) rfl hb1356) ?_
          refine r_not (wn_f rfl rfl (by decide) rfl hb1356) ?_
          refine r_pick_t (.bool true) hb1356 rfl rfl ?_
          refine r_pure (.bool true) rfl ?_
          refine r_not (wn_f rfl rfl (by decide) rfl rfl) ?_
          refine r_not (wn_f rfl rfl (by decide) rfl rfl) ?_
          refine r_not (wn_f rfl rfl (by decide) rfl rfl) ?_
          refine r_pick_t (.bool true) rfl rfl rfl ?_
          refine r_pure (.bool true) rfl ?_
          refine r_not (wn_f rfl rfl (by decide) rfl rfl) ?_
          refine r_not (wn_f rfl rfl (by decide) rfl rfl) ?_
          refine r_not (wn_f rfl rfl (by decide) rfl rfl) ?_
          refine r_not (wn_f rfl rfl (by decide) rfl rfl) ?_
          refine r_pick_t (.bool true) rfl rfl rfl ?_
          refine r_pure (.bool true) rfl ?_
          refine r_not (wn_f rfl rfl (by decide) rfl rfl) ?_
          refine r_not (wn_f rfl rfl (by decide) rfl rfl) ?_
          refine r_not (wn_f rfl rfl (by decide) rfl rfl) ?_
          refine r_not (wn_f rfl rfl (by decide) rfl rfl) ?_
          refine r_pick_t (.bool true) rfl rfl rfl ?_
          refine r_pure (.bool true) rfl ?_
          refine r_not (wn_f rfl rfl (by decide) rfl rfl) ?_
          refine r_not (wn_f rfl rfl (by decide) rfl rfl) ?_
          refine r_not (wn_f rfl rfl (by decide) rfl rfl) ?_
          refine r_not (wn_f rfl rfl (by decide) rfl rfl) ?_
          refine r_not (wn_f rfl rfl (by decide) rfl rfl) ?_
          refine r_not (wn_f rfl rfl (by decide) rfl rfl) ?_
          refine r_not (wn_f rfl rfl (by decide) rfl rfl) ?_
          refine r_not (wn_f rfl rfl (by decide) rfl rfl) ?_
          refine r_not (wn_f rfl rfl (by decide) rfl rfl) ?_
          refine r_pick_t (.bool true) rfl rfl rfl ?_
          refine r_nil ?_
          refine n_cut ⟨true, upk (ac rfl (ac rfl (ac rfl (ac rfl (ac rfl (ac rfl an)))))), H65.d.d.u2.d.u2.d.u1, hm⟩
        · refine r_fa FA59_5 ⟨b62, 5, none⟩ rfl rfl ?_ (wn_t rfl rfl (by decide) rfl hb1356)
          refine r_ld1 (.int .i64 y35.Tax) LD3 rfl ((H65.g0).cell _ rfl) ?_ (wn_t rfl rfl (by decide) rfl hb1356)
          refine r_pure (.bool (y35.Tax != 0)) rfl ?_ (wn_t rfl rfl (by decide) rfl hb1356)
          refine r_pick_f (.bool (y35.Tax != 0)) hb1356 rfl rfl ?_
          refine r_pure (.bool (y35.Tax != 0)) rfl ?_
          rcases ite_some hm with ⟨hb1357, hm⟩ | ⟨hb1357, hm⟩
          · refine r_not (wn_f rfl rfl (by decide) rfl hb1357) ?_
            refine r_not (wn_f rfl rfl (by decide) rfl hb1357) ?_
            refine r_not (wn_f rfl rfl (by decide) rfl hb1357) ?_
            refine r_pick_t (.bool true) hb1357 rfl rfl ?_
            refine r_pure (.bool true) rfl ?_
            refine r_not (wn_f rfl rfl (by decide) rfl rfl) ?_
            refine r_not (wn_f rfl rfl (by decide) rfl rfl) ?_
            refine r_not (wn_f rfl rfl (by decide) rfl rfl) ?_
            refine r_not (wn_f rfl rfl (by decide) rfl rfl) ?_
            refine r_pick_t (.bool true) rfl rfl rfl ?_
            refine r_pure (.bool true) rfl ?_
            refine r_not (wn_f rfl rfl (by decide) rfl rfl) ?_
            refine r_not (wn_f rfl rfl (by decide) rfl rfl) ?_
            refine r_not (wn_f rfl rfl (by decide) rfl rfl) ?_
            refine r_not (wn_f rfl rfl (by decide) rfl rfl) ?_
            refine r_pick_t (.bool true) rfl rfl rfl ?_
            refine r_pure (.bool true) rfl ?_
            refine r_not (wn_f rfl rfl (by decide) rfl rfl) ?_
            refine r_not (wn_f rfl rfl (by decide) rfl rfl) ?_
            refine r_not (wn_f rfl rfl (by decide) rfl rfl) ?_
            refine r_not (wn_f rfl rfl (by decide) rfl rfl) ?_
            refine r_not (wn_f rfl rfl (by decide) rfl rfl) ?_
            refine r_not (wn_f rfl rfl (by decide) rfl rfl) ?_
            refine r_not (wn_f rfl rfl (by decide) rfl rfl) ?_
            refine r_not (wn_f rfl rfl (by decide) rfl rfl) ?_
            refine r_not (wn_f rfl rfl (by decide) rfl rfl) ?_
            refine r_pick_t (.bool true) rfl rfl rfl ?_
            refine r_nil ?_
            refine n_cut ⟨true, upk (ac rfl (ac rfl (ac rfl (ac rfl (ac rfl (ac rfl an)))))), H65.d.d.u2.d.u2.d.u1, hm⟩
          · refine r_fa FA59_4 ⟨b62, 4, none⟩ rfl rfl ?_ (wn_t rfl rfl (by decide) rfl hb1357)
            refine r_ld1 (.int .i64 y35.Taxable) LD3 rfl ((H65.g0).cell _ rfl) ?_ (wn_t rfl rfl (by decide) rfl hb1357)
            refine r_pure (.bool (y35.Taxable != 0)) rfl ?_ (wn_t rfl rfl (by decide) rfl hb1357)
            refine r_pick_f (.bool (y35.Taxable != 0)) hb1357 rfl rfl ?_
            refine r_pure (.bool (y35.Taxable != 0)) rfl ?_
            rcases ite_some hm with ⟨hb1358, hm⟩ | ⟨hb1358, hm⟩
            · refine r_not (wn_f rfl rfl (by decide) rfl hb1358) ?_
              refine r_not (wn_f rfl rfl (by decide) rfl hb1358) ?_
              refine r_not (wn_f rfl rfl (by decide) rfl hb1358) ?_
              refine r_not (wn_f rfl rfl (by decide) rfl hb1358) ?_
              refine r_pick_t (.bool true) hb1358 rfl rfl ?_
              refine r_pure (.bool true) rfl ?_
              refine r_not (wn_f rfl rfl (by decide) rfl rfl) ?_
              refine r_not (wn_f rfl rfl (by decide) rfl rfl) ?_
              refine r_not (wn_f rfl rfl (by decide) rfl rfl) ?_
              refine r_not (wn_f rfl rfl (by decide) rfl rfl) ?_
              refine r_pick_t (.bool true) rfl rfl rfl ?_
              refine r_pure (.bool true) rfl ?_
              refine r_not (wn_f rfl rfl (by decide) rfl rfl) ?_
              refine r_not (wn_f rfl rfl (by decide) rfl rfl) ?_
              refine r_not (wn_f rfl rfl (by decide) rfl rfl) ?_
              refine r_not (wn_f rfl rfl (by decide) rfl rfl) ?_
              refine r_not (wn_f rfl rfl (by decide) rfl rfl) ?_
              refine r_not (wn_f rfl rfl (by decide) rfl rfl) ?_
              refine r_not (wn_f rfl rfl (by decide) rfl rfl) ?_
              refine r_not (wn_f rfl rfl (by decide) rfl rfl) ?_
              refine r_not (wn_f rfl rfl (by decide) rfl rfl) ?_
              refine r_pick_t (.bool true) rfl rfl rfl ?_
              refine r_nil ?_
              refine n_cut ⟨true, upk (ac rfl (ac rfl (ac rfl (ac rfl (ac rfl (ac rfl an)))))), H65.d.d.u2.d.u2.d.u1, hm⟩
            · refine r_pure (.pointer (some ⟨b51, 0, none⟩)) rfl ?_ (wn_t rfl rfl (by decide) rfl hb1358)
              obtain ⟨y1359, hy1360, hm⟩ := bind_some hm
              refine r_callf Try.call23 (vintage_Losses_Left_ok b51 (⟨o41.f_l⟩ : vintage_Losses) A52 o41.f_l.length c54 rfl (((H65).g3).cap) (fun _ H => (H.g3.rd)) (fun _ H => (H.g2)) y1359 H65 hy1360) ?_ (wn_t rfl rfl (by decide) rfl hb1358)
              rintro e1362 wd1361 ⟨rfl, H1364⟩
              refine ⟨_, rfl, ?_⟩
              refine r_pure (.int .i64 (w64 (1 + y1))) rfl ?_ (wn_t rfl rfl (by decide) rfl hb1358)
              refine r_pure (.bool (y1359 != w64 (1 + y1))) rfl ?_ (wn_t rfl rfl (by decide) rfl hb1358)
              refine r_pick_f (.bool (y1359 != w64 (1 + y1))) hb1358 rfl rfl ?_
              refine r_pure (.bool (y1359 != w64 (1 + y1))) rfl ?_
              rcases ite_some hm with ⟨hb1365, hm⟩ | ⟨hb1365, hm⟩
              · refine r_not (wn_f rfl rfl (by decide) rfl hb1365) ?_
                refine r_not (wn_f rfl rfl (by decide) rfl hb1365) ?_
                refine r_not (wn_f rfl rfl (by decide) rfl hb1365) ?_
                refine r_not (wn_f rfl rfl (by decide) rfl hb1365) ?_
                refine r_pick_t (.bool true) hb1365 rfl rfl ?_
                refine r_pure (.bool true) rfl ?_
                refine r_not (wn_f rfl rfl (by decide) rfl rfl) ?_
                refine r_not (wn_f rfl rfl (by decide) rfl rfl) ?_
                refine r_not (wn_f rfl rfl (by decide) rfl rfl) ?_
                refine r_not (wn_f rfl rfl (by decide) rfl rfl) ?_
                refine r_not (wn_f rfl rfl (by decide) rfl rfl) ?_
                refine r_not (wn_f rfl rfl (by decide) rfl rfl) ?_
                refine r_not (wn_f rfl rfl (by decide) rfl rfl) ?_
                refine r_not (wn_f rfl rfl (by decide) rfl rfl) ?_
                refine r_not (wn_f rfl rfl (by decide) rfl rfl) ?_
                refine r_pick_t (.bool true) rfl rfl rfl ?_
                refine r_nil ?_
                refine n_cut ⟨true, upk (ac rfl (ac rfl (ac rfl (ac rfl (ac rfl (ac rfl an)))))), H1364.d.d.u2.d.u2.d.u1, hm⟩
              · refine r_pure (.pointer (some ⟨b51, 0, none⟩)) rfl ?_ (wn_t rfl rfl (by decide) rfl hb1365)
                obtain ⟨y1366, hy1367, hm⟩ := bind_some hm
                refine r_callf Try.call22 (vintage_Losses_Rows_ok b51 (⟨o41.f_l⟩ : vintage_Losses) A52 o41.f_l.length c54 rfl (((H1364).g3).cap) (fun _ H => (H.g3.rd)) (fun _ H => (H.g2)) y1366 H1364 hy1367) ?_ (wn_t rfl rfl (by decide) rfl hb1365)
                rintro e1369 wd1368 ⟨A1372, n1373, c1374, rfl, H1371⟩
                obtain rfl := (H1371.g0).leneq
                refine ⟨_, rfl, ?_⟩
                refine r_len Try.underlying26 rfl ?_ (wn_t rfl rfl (by decide) rfl hb1365)
                refine r_pure (.bool ((y1366.length : Int) != 1)) rfl ?_ (wn_t rfl rfl (by decide) rfl hb1365)
                refine r_pick_f (.bool ((y1366.length : Int) != 1)) hb1365 rfl rfl ?_
                refine r_pure (.bool ((y1366.length : Int) != 1)) rfl ?_
                rcases ite_some hm with ⟨hb1375, hm⟩ | ⟨hb1375, hm⟩
                · refine r_not (wn_f rfl rfl (by decide) rfl hb1375) ?_
                  refine r_not (wn_f rfl rfl (by decide) rfl hb1375) ?_
                  refine r_not (wn_f rfl rfl (by decide) rfl hb1375) ?_
                  refine r_not (wn_f rfl rfl (by decide) rfl hb1375) ?_
                  refine r_not (wn_f rfl rfl (by decide) rfl hb1375) ?_
                  refine r_not (wn_f rfl rfl (by decide) rfl hb1375) ?_
                  refine r_not (wn_f rfl rfl (by decide) rfl hb1375) ?_
                  refine r_not (wn_f rfl rfl (by decide) rfl hb1375) ?_
                  refine r_not (wn_f rfl rfl (by decide) rfl hb1375) ?_
                  refine r_pick_t (.bool true) hb1375 rfl rfl ?_
                  refine r_nil ?_
                  refine n_cut ⟨true, upk (ac rfl (ac rfl (ac rfl (ac rfl (ac rfl (ac rfl an)))))), H1371.d.d.d.u2.d.u2.d.u1, hm⟩
                · refine r_pure (.pointer (some ⟨b51, 0, none⟩)) rfl ?_ (wn_t rfl rfl (by decide) rfl hb1375)
                  obtain ⟨y1376, hy1377, hm⟩ := bind_some hm
                  refine r_callf Try.call22 (vintage_Losses_Rows_ok b51 (⟨o41.f_l⟩ : vintage_Losses) A52 o41.f_l.length c54 rfl (((H1371).g4).cap) (fun _ H => (H.g4.rd)) (fun _ H => (H.g3)) y1376 H1371 hy1377) ?_ (wn_t rfl rfl (by decide) rfl hb1375)
                  rintro e1379 wd1378 ⟨A1382, n1383, c1384, rfl, H1381⟩
                  obtain rfl := (H1381.g0).leneq
                  refine ⟨_, rfl, ?_⟩
                  obtain ⟨⟨h01385, h11386⟩, hm⟩ := gd_some hm
                  have hj1387 := rd_get h01385 h11386
                  have hA1388 := (H1381.g0.rd).adO hj1387
                  refine r_ix IX26 rfl rfl hA1388 h01385 h11386 ?_ (wn_t rfl rfl (by decide) rfl hb1375)
                  refine r_ldA [.int .i64 ((rd y1376 0).Origin), .int .i64 ((rd y1376 0).Expiry), .int .i64 ((rd y1376 0).Left)] LD38 rfl rfl ((H1381.g0.rd).csA hA1388 hj1387) ?_ (wn_t rfl rfl (by decide) rfl hb1375)
                  refine r_pure (.int .i64 (w64 (1 + y13))) rfl ?_ (wn_t rfl rfl (by decide) rfl hb1375)
                  refine r_pure (.int .i64 (w64 (3 + w64 (1 + y13)))) rfl ?_ (wn_t rfl rfl (by decide) rfl hb1375)
                  refine r_pure (.int .i64 (w64 (1 + y1))) rfl ?_ (wn_t rfl rfl (by decide) rfl hb1375)
                  refine r_build [.int .i64 3, .int .i64 (w64 (3 + w64 (1 + y13))), .int .i64 (w64 (1 + y1))] FL38 rfl ?_ (wn_t rfl rfl (by decide) rfl hb1375)
                  refine r_neS (EQ38 ((rd y1376 0).Origin) 3 ((rd y1376 0).Expiry) (w64 (3 + w64 (1 + y13))) ((rd y1376 0).Left) (w64 (1 + y1))) (by decide) Try.eqGuardType38 rfl rfl ?_ (wn_t rfl rfl (by decide) rfl hb1375)
                  refine r_pick_f (.bool (!(((rd y1376 0).Origin) == 3 && (((rd y1376 0).Expiry) == (w64 (3 + w64 (1 + y13))) && (((rd y1376 0).Left) == (w64 (1 + y1))))))) hb1375 rfl rfl ?_
                  refine r_nil ?_
                  refine n_cut ⟨!(((rd y1376 0).Origin) == 3 && (((rd y1376 0).Expiry) == (w64 (3 + w64 (1 + y13))) && (((rd y1376 0).Left) == (w64 (1 + y1))))), upk (ac rfl (ac rfl (ac rfl (ac rfl (ac rfl (ac rfl an)))))), H1381.d.d.d.d.u2.d.u2.d.u1, hm⟩
    · rintro ρ w ⟨q67, ⟨base, rfl⟩, H68, hm⟩
      unfold scutagelaw15_CurrentYears.j2 at hm
      rcases ite_some hm with ⟨hb69, hm⟩ | ⟨hb69, hm⟩
      · refine st_condt hb69 rfl ?_
        refine st_seq ?_
        refine st_region ?_
        refine r_pure (.bool false) rfl ?_
        refine r_seq ?_
        have hq_ := Option.some.inj hm
        subst hq_
        refine st_ret1 rfl rfl (Nat.le_of_ble_eq_true rfl) rfl ?_
        exact ⟨rfl, H68.d.d⟩
      · refine st_condf hb69 rfl ?_
        refine st_skip ?_
        refine n_sq ?_
        refine st_seq ?_
        refine st_region ?_
        refine r_pure (.pointer (some ⟨b51, 0, none⟩)) rfl ?_
        refine r_pure (.int .i64 (w64 (2 * y7))) rfl ?_
        refine r_pure (.int .i64 (w64 (1 + y13))) rfl ?_
        refine r_pure (.int .i64 (w64 (1 + y19))) rfl ?_
        refine r_pure (.int .i64 (w64 (3 + w64 (1 + y19)))) rfl ?_
        obtain ⟨⟨y70, y71, y72⟩, hy73, hm⟩ := bind_some hm
        refine r_callf Try.call35 (current_Tax_ok b51 (⟨o41.f_l⟩ : vintage_Losses) A52 o41.f_l.length c54 rfl (((H68).g0).cap) (fun _ H => (H.g0.rd)) (fun _ H => (H.g1)) (w64 (2 * y7)) 0 0 500000 (w64 (1 + y13)) (w64 (3 + w64 (1 + y19))) 250000 y70 y71 y72 H68 hy73) ?_
        rintro e75 wd74 (⟨hn79, A80, n81, c82, rfl, H77⟩ | ⟨o76, hn79, A83, n84, c85, b86, A87, n88, c89, rfl, H78⟩)
        · subst hn79
          obtain rfl := (H77.g0).leneq
          have hm : (if (y72 != 0) = true then scutagelaw15_CurrentYears.j3 else scutagelaw15_CurrentYears.j3) = some r0_ := hm
          refine ⟨_, rfl, ?_⟩
          refine r_pure (.tuple #[.agg #[.int .i64 y70.Income, .int .i64 y70.Expired, .int .i64 y70.Used, .int .i64 y70.New, .int .i64 y70.Taxable, .int .i64 y70.Tax, .slice A80 y70.Vector.length c82], .pointer none, .int .i64 y72]) rfl ?_
          refine r_pure (.agg #[.int .i64 y70.Income, .int .i64 y70.Expired, .int .i64 y70.Used, .int .i64 y70.New, .int .i64 y70.Taxable, .int .i64 y70.Tax, .slice A80 y70.Vector.length c82]) rfl ?_
          refine r_pure (.pointer none) rfl ?_
          refine r_pure (.int .i64 y72) rfl ?_
          refine r_alloc [.int .i64 0, .int .i64 0, .int .i64 0, .int .i64 0, .int .i64 0, .int .i64 0, .slice none 0 0] Try.zeroValue59 H77 rfl ?_
          intro b90 wd92 H91
          refine r_stA [.int .i64 y70.Income, .int .i64 y70.Expired, .int .i64 y70.Used, .int .i64 y70.New, .int .i64 y70.Taxable, .int .i64 y70.Tax, .slice A80 y70.Vector.length c82] LD59 rfl rfl rfl rfl H91 (Nat.le_of_ble_eq_true rfl) rfl ?_
          intro wd94 H93
          refine r_pure (.pointer none) rfl ?_
          refine r_pure (.int .i64 y72) rfl ?_
          refine r_seq ?_
          refine st_seq ?_
          refine st_cut (fun ρ w => (∃ base, ρ = updl base [(0, .int .i64 (w64 (1 + y1))), (1, .int .i64 (w64 (2 * y7))), (2, .int .i64 (w64 (1 + y13))), (3, .int .i64 (w64 (1 + y19))), (10, .pointer (some ⟨b51, 0, none⟩)), (12, .pointer (some ⟨b90, 0, none⟩)), (13, .pointer none), (96, .bool true)]) ∧ Hp w0 (Row K38 (.slice A52 o41.f_l.length c54) o41.f_l :: Bx b51 75 [.slice A52 o41.f_l.length c54] :: Row K3 (.slice A80 y70.Vector.length c82) y70.Vector :: Bx b90 59 [.int .i64 y70.Income, .int .i64 y70.Expired, .int .i64 y70.Used, .int .i64 y70.New, .int .i64 y70.Taxable, .int .i64 y70.Tax, .slice A80 y70.Vector.length c82] :: Γ) w ∧ scutagelaw15_CurrentYears.j3 = some r0_) ?_ ?_
          · refine st_region ?_
            refine r_pure (.int .i64 y72) rfl ?_
            refine r_pure (.bool (y72 != 0)) rfl ?_
            refine r_pure (.bool (y72 != 0)) rfl ?_
            rcases ite_some hm with ⟨hb96, hm⟩ | ⟨hb96, hm⟩
            · refine r_not (wn_f rfl rfl (by decide) rfl hb96) ?_
              refine r_not (wn_f rfl rfl (by decide) rfl hb96) ?_
              refine r_pick_t (.bool true) hb96 rfl rfl ?_
              refine r_nil ?_
              refine n_cut ⟨upk (ac rfl (ac rfl (ac rfl (ac rfl (ac rfl (ac rfl (ac rfl (ac rfl an)))))))), H93.u1.u3.u3, hm⟩
            · refine r_pure (.pointer none) rfl ?_ (wn_t rfl rfl (by decide) rfl hb96)
              refine r_eqn Try.underlying23 rfl rfl ?_ (wn_t rfl rfl (by decide) rfl hb96)
              refine r_pick_f (.bool true) hb96 rfl rfl ?_
              refine r_nil ?_
              refine n_cut ⟨upk (ac rfl (ac rfl (ac rfl (ac rfl (ac rfl (ac rfl (ac rfl (ac rfl an)))))))), H93.u1.u3.u3, hm⟩
          · rintro ρ w ⟨⟨base, rfl⟩, H95, hm⟩
            unfold scutagelaw15_CurrentYears.j3 at hm
            refine st_condt rfl rfl ?_
            refine st_seq ?_
            refine st_region ?_
            refine r_pure (.bool false) rfl ?_
            refine r_seq ?_
            have hq_ := Option.some.inj hm
            subst hq_
            refine st_ret1 rfl rfl (Nat.le_of_ble_eq_true rfl) rfl ?_
            exact ⟨rfl, H95.d.d.d.d⟩
        · subst hn79
          obtain rfl := (H78.g0).leneq
          obtain rfl := (H78.g2).leneq
          have hm : (if (y72 != 0) = true then scutagelaw15_CurrentYears.j4 y19 y13 y70 y1 y7 o76 o41 true else scutagelaw15_CurrentYears.j4 y19 y13 y70 y1 y7 o76 o41 false) = some r0_ := hm
          refine ⟨_, rfl, ?_⟩
          refine r_pure (.tuple #[.agg #[.int .i64 y70.Income, .int .i64 y70.Expired, .int .i64 y70.Used, .int .i64 y70.New, .int .i64 y70.Taxable, .int .i64 y70.Tax, .slice A83 y70.Vector.length c85], .pointer (some ⟨b86, 0, none⟩), .int .i64 y72]) rfl ?_
          refine r_pure (.agg #[.int .i64 y70.Income, .int .i64 y70.Expired, .int .i64 y70.Used, .int .i64 y70.New, .int .i64 y70.Taxable, .int .i64 y70.Tax, .slice A83 y70.Vector.length c85]) rfl ?_
          refine r_pure (.pointer (some ⟨b86, 0, none⟩)) rfl ?_
          refine r_pure (.int .i64 y72) rfl ?_
          refine r_alloc [.int .i64 0, .int .i64 0, .int .i64 0, .int .i64 0, .int .i64 0, .int .i64 0, .slice none 0 0] Try.zeroValue59 H78 rfl ?_
          intro b97 wd99 H98
          refine r_stA [.int .i64 y70.Income, .int .i64 y70.Expired, .int .i64 y70.Used, .int .i64 y70.New, .int .i64 y70.Taxable, .int .i64 y70.Tax, .slice A83 y70.Vector.length c85] LD59 rfl rfl rfl rfl H98 (Nat.le_of_ble_eq_true rfl) rfl ?_
          intro wd101 H100
          refine r_pure (.pointer (some ⟨b86, 0, none⟩)) rfl ?_
          refine r_pure (.int .i64 y72) rfl ?_
          refine r_seq ?_
          refine st_seq ?_
          refine st_cut (fun ρ w => ∃ q102 : Bool, (∃ base, ρ = updl base [(0, .int .i64 (w64 (1 + y1))), (1, .int .i64 (w64 (2 * y7))), (2, .int .i64 (w64 (1 + y13))), (3, .int .i64 (w64 (1 + y19))), (10, .pointer (some ⟨b51, 0, none⟩)), (12, .pointer (some ⟨b97, 0, none⟩)), (13, .pointer (some ⟨b86, 0, none⟩)), (96, .bool q102)]) ∧ Hp w0 (Row K38 (.slice A52 o41.f_l.length c54) o41.f_l :: Bx b51 75 [.slice A52 o41.f_l.length c54] :: Row K3 (.slice A83 y70.Vector.length c85) y70.Vector :: Bx b97 59 [.int .i64 y70.Income, .int .i64 y70.Expired, .int .i64 y70.Used, .int .i64 y70.New, .int .i64 y70.Taxable, .int .i64 y70.Tax, .slice A83 y70.Vector.length c85] :: Row K38 (.slice A87 o76.f_l.length c89) o76.f_l :: Bx b86 75 [.slice A87 o76.f_l.length c89] :: Γ) w ∧ scutagelaw15_CurrentYears.j4 y19 y13 y70 y1 y7 o76 o41 q102 = some r0_) ?_ ?_
          · refine st_region ?_
            refine r_pure (.int .i64 y72) rfl ?_
            refine r_pure (.bool (y72 != 0)) rfl ?_
            refine r_pure (.bool (y72 != 0)) rfl ?_
            rcases ite_some hm with ⟨hb1354, hm⟩ | ⟨hb1354, hm⟩
            · refine r_not (wn_f rfl rfl (by decide) rfl hb1354) ?_
              refine r_not (wn_f rfl rfl (by decide) rfl hb1354) ?_
              refine r_pick_t (.bool true) hb1354 rfl rfl ?_
              refine r_nil ?_
              refine n_cut ⟨true, upk (ac rfl (ac rfl (ac rfl (ac rfl (ac rfl (ac rfl (ac rfl (ac rfl an)))))))), H100.u2.u3.u2.u3.u5.u5, hm⟩
            · refine r_pure (.pointer (some ⟨b86, 0, none⟩)) rfl ?_ (wn_t rfl rfl (by decide) rfl hb1354)
              refine r_eqn Try.underlying23 rfl rfl ?_ (wn_t rfl rfl (by decide) rfl hb1354)
              refine r_pick_f (.bool false) hb1354 rfl rfl ?_
              refine r_nil ?_
              refine n_cut ⟨false, upk (ac rfl (ac rfl (ac rfl (ac rfl (ac rfl (ac rfl (ac rfl (ac rfl an)))))))), H100.u2.u3.u2.u3.u5.u5, hm⟩
          · rintro ρ w ⟨q102, ⟨base, rfl⟩, H103, hm⟩
            unfold scutagelaw15_CurrentYears.j4 at hm
            rcases ite_some hm with ⟨hb104, hm⟩ | ⟨hb104, hm⟩
            · refine st_condt hb104 rfl ?_
              refine st_seq ?_
              refine st_region ?_
              refine r_pure (.bool false) rfl ?_
              refine r_seq ?_
              have hq_ := Option.some.inj hm
              subst hq_
              refine st_ret1 rfl rfl (Nat.le_of_ble_eq_true rfl) rfl ?_
              exact ⟨rfl, H103.d.d.d.d.d.d⟩
            · refine st_condf hb104 rfl ?_
              refine st_skip ?_
              refine n_sq ?_
              refine st_seq ?_
              refine st_seq ?_
              refine st_region ?_
              refine r_pure (.int .i64 (w64 (1 + y19))) rfl ?_
              refine r_pure (.int .i64 (w64 (1 + y13))) rfl ?_
              refine r_pure (.bool (decide (w64 (1 + y19) > w64 (1 + y13)))) rfl ?_
              refine r_seq ?_
              rcases ite_some hm with ⟨hb105, hm⟩ | ⟨hb105, hm⟩
              · refine st_condt hb105 rfl ?_
                refine st_cut (fun ρ w => ∃ q106 : Bool, (∃ base, ρ = updl base [(8, .bool q106)]) ∧ Hp w0 (Γ) w ∧ scutagelaw15_CurrentYears.j5 q106 = some r0_) ?_ ?_
                · refine st_region ?_
                  refine r_fa FA59_1 ⟨b97, 1, none⟩ rfl rfl ?_
                  refine r_ld1 (.int .i64 y70.Expired) LD3 rfl ((H103.g3).cell _ rfl) ?_
                  refine r_pure (.int .i64 (w64 (1 + y1))) rfl ?_
                  refine r_pure (.bool (y70.Expired == w64 (1 + y1))) rfl ?_
                  refine r_pure (.bool (y70.Expired == w64 (1 + y1))) rfl ?_
                  rcases ite_some hm with ⟨hb108, hm⟩ | ⟨hb108, hm⟩
                  · refine r_fa FA59_2 ⟨b97, 2, none⟩ rfl rfl ?_ (wn_t rfl rfl (by decide) rfl hb108)
                    refine r_ld1 (.int .i64 y70.Used) LD3 rfl ((H103.g3).cell _ rfl) ?_ (wn_t rfl rfl (by decide) rfl hb108)
                    refine r_pure (.bool (y70.Used == 0)) rfl ?_ (wn_t rfl rfl (by decide) rfl hb108)
                    refine r_pick_t (.bool (y70.Used == 0)) hb108 rfl rfl ?_
                    refine r_pure (.bool (y70.Used == 0)) rfl ?_
                    rcases ite_some hm with ⟨hb109, hm⟩ | ⟨hb109, hm⟩
                    · refine r_fa FA59_4 ⟨b97, 4, none⟩ rfl rfl ?_ (wn_t rfl rfl (by decide) rfl hb109)
                      refine r_ld1 (.int .i64 y70.Taxable) LD3 rfl ((H103.g3).cell _ rfl) ?_ (wn_t rfl rfl (by decide) rfl hb109)
                      refine r_pure (.int .i64 (w64 (2 * y7))) rfl ?_ (wn_t rfl rfl (by decide) rfl hb109)
                      refine r_pure (.bool (y70.Taxable == w64 (2 * y7))) rfl ?_ (wn_t rfl rfl (by decide) rfl hb109)
                      refine r_pick_t (.bool (y70.Taxable == w64 (2 * y7))) hb109 rfl rfl ?_
                      refine r_pure (.bool (y70.Taxable == w64 (2 * y7))) rfl ?_
                      rcases ite_some hm with ⟨hb110, hm⟩ | ⟨hb110, hm⟩
                      · refine r_pure (.pointer (some ⟨b86, 0, none⟩)) rfl ?_ (wn_t rfl rfl (by decide) rfl hb110)
                        obtain ⟨y111, hy112, hm⟩ := bind_some hm
                        refine r_callf Try.call23 (vintage_Losses_Left_ok b86 (⟨o76.f_l⟩ : vintage_Losses) A87 o76.f_l.length c89 rfl (((H103).g4).cap) (fun _ H => (H.g4.rd)) (fun _ H => (H.g5)) y111 H103 hy112) ?_ (wn_t rfl rfl (by decide) rfl hb110)
                        rintro e114 wd113 ⟨rfl, H116⟩
                        refine ⟨_, rfl, ?_⟩
                        refine r_pure (.bool (y111 == 0)) rfl ?_ (wn_t rfl rfl (by decide) rfl hb110)
                        refine r_pick_t (.bool (y111 == 0)) hb110 rfl rfl ?_
                        refine r_pure (.bool (y111 == 0)) rfl ?_
                        rcases ite_some hm with ⟨hb117, hm⟩ | ⟨hb117, hm⟩
                        · refine r_pure (.pointer (some ⟨b51, 0, none⟩)) rfl ?_ (wn_t rfl rfl (by decide) rfl hb117)
                          obtain ⟨y118, hy119, hm⟩ := bind_some hm
                          refine r_callf Try.call23 (vintage_Losses_Left_ok b51 (⟨o41.f_l⟩ : vintage_Losses) A52 o41.f_l.length c54 rfl (((H116).g0).cap) (fun _ H => (H.g0.rd)) (fun _ H => (H.g1)) y118 H116 hy119) ?_ (wn_t rfl rfl (by decide) rfl hb117)
                          rintro e121 wd120 ⟨rfl, H123⟩
                          refine ⟨_, rfl, ?_⟩
                          refine r_pure (.int .i64 (w64 (1 + y1))) rfl ?_ (wn_t rfl rfl (by decide) rfl hb117)
                          refine r_pure (.bool (y118 == w64 (1 + y1))) rfl ?_ (wn_t rfl rfl (by decide) rfl hb117)
                          refine r_pick_t (.bool (y118 == w64 (1 + y1))) hb117 rfl rfl ?_
                          refine r_pure (.bool (y118 == w64 (1 + y1))) rfl ?_
                          rcases ite_some hm with ⟨hb124, hm⟩ | ⟨hb124, hm⟩
                          · obtain ⟨y125, hy126, hm⟩ := bind_some hm
                            refine r_callf Try.call36 (scutagelaw15_wakes_ok  y125 H123 hy126) ?_ (wn_t rfl rfl (by decide) rfl hb124)
                            rintro e128 wd127 ⟨rfl, H130⟩
                            refine ⟨_, rfl, ?_⟩
                            refine r_pick_t (.bool y125) hb124 rfl rfl ?_
                            refine r_pure (.bool y125) rfl ?_
                            refine r_nil ?_
                            refine n_cut ⟨y125, upk (ac rfl an), H130.d.d.d.d.d.d, hm⟩
                          · refine r_not (wn_f rfl rfl (by decide) rfl hb124) ?_
                            refine r_pick_f (.bool false) hb124 rfl rfl ?_
                            refine r_pure (.bool false) rfl ?_
                            refine r_nil ?_
                            refine n_cut ⟨false, upk (ac rfl an), H123.d.d.d.d.d.d, hm⟩
                        · refine r_not (wn_f rfl rfl (by decide) rfl hb117) ?_
                          refine r_not (wn_f rfl rfl (by decide) rfl hb117) ?_
                          refine r_not (wn_f rfl rfl (by decide) rfl hb117) ?_
                          refine r_not (wn_f rfl rfl (by decide) rfl hb117) ?_
                          refine r_pick_f (.bool false) hb117 rfl rfl ?_
                          refine r_pure (.bool false) rfl ?_
                          refine r_not (wn_f rfl rfl (by decide) rfl rfl) ?_
                          refine r_pick_f (.bool false) rfl rfl rfl ?_
                          refine r_pure (.bool false) rfl ?_
                          refine r_nil ?_
                          refine n_cut ⟨false, upk (ac rfl an), H116.d.d.d.d.d.d, hm⟩
                      · refine r_not (wn_f rfl rfl (by decide) rfl hb110) ?_
                        refine r_not (wn_f rfl rfl (by decide) rfl hb110) ?_
                        refine r_not (wn_f rfl rfl (by decide) rfl hb110) ?_
                        refine r_pick_f (.bool false) hb110 rfl rfl ?_
                        refine r_pure (.bool false) rfl ?_
                        refine r_not (wn_f rfl rfl (by decide) rfl rfl) ?_
                        refine r_not (wn_f rfl rfl (by decide) rfl rfl) ?_
                        refine r_not (wn_f rfl rfl (by decide) rfl rfl) ?_
                        refine r_not (wn_f rfl rfl (by decide) rfl rfl) ?_
                        refine r_pick_f (.bool false) rfl rfl rfl ?_
                        refine r_pure (.bool false) rfl ?_
                        refine r_not (wn_f rfl rfl (by decide) rfl rfl) ?_
                        refine r_pick_f (.bool false) rfl rfl rfl ?_
                        refine r_pure (.bool false) rfl ?_
                        refine r_nil ?_
                        refine n_cut ⟨false, upk (ac rfl an), H103.d.d.d.d.d.d, hm⟩
                    · refine r_not (wn_f rfl rfl (by decide) rfl hb109) ?_
                      refine r_not (wn_f rfl rfl (by decide) rfl hb109) ?_
                      refine r_not (wn_f rfl rfl (by decide) rfl hb109) ?_
                      refine r_not (wn_f rfl rfl (by decide) rfl hb109) ?_
                      refine r_pick_f (.bool false) hb109 rfl rfl ?_
                      refine r_pure (.bool false) rfl ?_
                      refine r_not (wn_f rfl rfl (by decide) rfl rfl) ?_
                      refine r_not (wn_f rfl rfl (by decide) rfl rfl) ?_
                      refine r_not (wn_f rfl rfl (by decide) rfl rfl) ?_
                      refine r_pick_f (.bool false) rfl rfl rfl ?_
                      refine r_pure (.bool false) rfl ?_
                      refine r_not (wn_f rfl rfl (by decide) rfl rfl) ?_
                      refine r_not (wn_f rfl rfl (by decide) rfl rfl) ?_
                      refine r_not (wn_f rfl rfl (by decide) rfl rfl) ?_
                      refine r_not (wn_f rfl rfl (by decide) rfl rfl) ?_
                      refine r_pick_f (.bool false) rfl rfl rfl ?_
                      refine r_pure (.bool false) rfl ?_
                      refine r_not (wn_f rfl rfl (by decide) rfl rfl) ?_
                      refine r_pick_f (.bool false) rfl rfl rfl ?_
                      refine r_pure (.bool false) rfl ?_
                      refine r_nil ?_
                      refine n_cut ⟨false, upk (ac rfl an), H103.d.d.d.d.d.d, hm⟩
                  · refine r_not (wn_f rfl rfl (by decide) rfl hb108) ?_
                    refine r_not (wn_f rfl rfl (by decide) rfl hb108) ?_
                    refine r_not (wn_f rfl rfl (by decide) rfl hb108) ?_
                    refine r_pick_f (.bool false) hb108 rfl rfl ?_
                    refine r_pure (.bool false) rfl ?_
                    refine r_not (wn_f rfl rfl (by decide) rfl rfl) ?_
                    refine r_not (wn_f rfl rfl (by decide) rfl rfl) ?_
                    refine r_not (wn_f rfl rfl (by decide) rfl rfl) ?_
                    refine r_not (wn_f rfl rfl (by decide) rfl rfl) ?_
                    refine r_pick_f (.bool false) rfl rfl rfl ?_
                    refine r_pure (.bool false) rfl ?_
                    refine r_not (wn_f rfl rfl (by decide) rfl rfl) ?_
                    refine r_not (wn_f rfl rfl (by decide) rfl rfl) ?_
                    refine r_not (wn_f rfl rfl (by decide) rfl rfl) ?_
                    refine r_pick_f (.bool false) rfl rfl rfl ?_
                    refine r_pure (.bool false) rfl ?_
                    refine r_not (wn_f rfl rfl (by decide) rfl rfl) ?_
                    refine r_not (wn_f rfl rfl (by decide) rfl rfl) ?_
                    refine r_not (wn_f rfl rfl (by decide) rfl rfl) ?_
                    refine r_not (wn_f rfl rfl (by decide) rfl rfl) ?_
                    refine r_pick_f (.bool false) rfl rfl rfl ?_
                    refine r_pure (.bool false) rfl ?_
                    refine r_not (wn_f rfl rfl (by decide) rfl rfl) ?_
                    refine r_pick_f (.bool false) rfl rfl rfl ?_
                    refine r_pure (.bool false) rfl ?_
                    refine r_nil ?_
                    refine n_cut ⟨false, upk (ac rfl an), H103.d.d.d.d.d.d, hm⟩
                · rintro ρ w ⟨q106, ⟨base, rfl⟩, H107, hm⟩
                  unfold scutagelaw15_CurrentYears.j5 at hm
                  have hq_ := Option.some.inj hm
                  subst hq_
                  refine st_ret1 rfl rfl (Nat.le_of_ble_eq_true rfl) rfl ?_
                  exact ⟨rfl, H107⟩
              · refine st_condf hb105 rfl ?_
                refine st_skip ?_
                refine n_sq ?_
                refine st_seq ?_
                refine st_region ?_
                refine r_pure (.int .i64 (w64 (1 + y1))) rfl ?_
                refine r_pure (.int .i64 (w64 (2 * y7))) rfl ?_
                refine r_quo (by decide) rfl rfl ?_
                refine r_min rfl rfl ?_
                refine r_pure (.int .i64 (mn (w64 (1 + y1)) (w64 (Int.tdiv (w64 (2 * y7)) 2)))) rfl ?_
                refine r_seq ?_
                refine st_cut (fun ρ w => ∃ q131 : Bool, (∃ base, ρ = updl base [(8, .bool q131)]) ∧ Hp w0 (Γ) w ∧ scutagelaw15_CurrentYears.j6 q131 = some r0_) ?_ ?_
                · rcases ite_some hm with ⟨hb134, hm⟩ | ⟨hb134, hm⟩
                  · rcases ite_some hm with ⟨hb135, hm⟩ | ⟨hb135, hm⟩
                    · rcases ite_some hm with ⟨hb136, hm⟩ | ⟨hb136, hm⟩
                      · obtain ⟨y137, hy138, hm⟩ := bind_some hm
                        rcases ite_some hm with ⟨hb143, hm⟩ | ⟨hb143, hm⟩
                        · obtain ⟨y144, hy145, hm⟩ := bind_some hm
                          obtain ⟨y153, hy154, hm⟩ := bind_some hm
                          rcases ite_some hm with ⟨hb159, hm⟩ | ⟨hb159, hm⟩
                          · obtain ⟨y160, hy161, hm⟩ := bind_some hm
                            refine Flow.run' [[], [0], [0, 1], [0, 1, 2], [0, 1, 2, 3], [0, 1, 2, 3, 4], [0, 1, 2, 3], [0, 1, 2, 3, 4, 5, 6], [0, 1, 2, 3, 4, 5, 6, 7], [0, 1, 2, 3, 4, 5, 6, 7, 8], [0, 1, 2, 3, 4, 5, 6, 7, 8, 9], [0, 1, 2, 3, 4, 5, 6, 7, 8, 9, 10], [0, 1, 2, 3, 4, 5, 6, 7, 8, 9], [0, 1, 2, 3, 4, 5, 6, 7, 8, 9], [0, 1, 2, 3, 4, 5, 6, 7, 8, 9, 12, 13], [0, 1, 2, 3, 4, 5, 6, 7, 8, 9, 10, 11, 12, 13, 14], [0, 1, 2, 3, 4, 5, 6, 7, 8, 9, 10, 11, 12, 13, 14, 15], [0, 1, 2, 3, 4, 5, 6, 7, 8, 9, 10, 11, 12, 13, 14, 15, 16], [0, 1, 2, 3, 4, 5, 6, 7, 8, 9, 10, 11, 12, 13, 14, 15, 16, 17], [0, 1, 2, 3, 4, 5, 6, 7, 8, 9, 10, 11, 12, 13, 14, 15, 16, 17, 18], [0, 1, 2, 3, 4, 5, 6, 7, 8, 9, 10, 11, 12, 13, 14, 15, 16, 17], [0, 1, 2, 3, 4, 5, 6, 7, 8, 9, 10, 11, 12, 13, 14, 15, 16, 17], [0, 1, 2, 3, 4, 5, 6, 7, 8, 9, 10, 11, 12, 13, 14, 15, 16, 17, 20, 21], [0, 1, 2, 3, 4, 5, 6, 7, 8, 9, 10, 11, 12, 13, 14, 15, 16, 17, 18, 19, 20, 21, 22], [0, 1, 2, 3, 4, 5, 6, 7, 8, 9, 10, 11, 12, 13, 14, 15, 16, 17, 18, 19, 20, 21, 22, 23], [0, 1, 2, 3, 4, 5, 6, 7, 8, 9, 10, 11, 12, 13, 14, 15, 16, 17, 18, 19, 20, 21, 22, 23, 24], [0, 1, 2, 3, 4, 5, 6, 7, 8, 9, 10, 11, 12, 13, 14, 15, 16, 17, 18, 19, 20, 21, 22, 23, 24, 25], [0, 1, 2, 3, 4, 5, 6, 7, 8, 9, 10, 11, 12, 13, 14, 15, 16, 17, 18, 19, 20, 21, 22, 23, 24, 25, 26], [0, 1, 2, 3, 4, 5, 6, 7, 8, 9, 10, 11, 12, 13, 14, 15, 16, 17, 18, 19, 20, 21, 22, 23, 24, 25], [0, 1, 2, 3, 4, 5, 6, 7, 8, 9, 10, 11, 12, 13, 14, 15, 16, 17, 18, 19, 20, 21, 22, 23, 24, 25], [0, 1, 2, 3, 4, 5, 6, 7, 8, 9, 10, 11, 12, 13, 14, 15, 16, 17, 18, 19, 20, 21, 22, 23, 24, 25, 28, 29], [0, 1, 2, 3, 4, 5, 6, 7, 8, 9, 10, 11, 12, 13, 14, 15, 16, 17, 18, 19, 20, 21, 22, 23, 24, 25, 26, 27, 28, 29, 30], [0, 1, 2, 3, 4, 5, 6, 7, 8, 9, 10, 11, 12, 13, 14, 15, 16, 17, 18, 19, 20, 21, 22, 23, 24, 25, 26, 27, 28, 29, 30, 31], [0, 1, 2, 3, 4, 5, 6, 7, 8, 9, 10, 11, 12, 13, 14, 15, 16, 17, 18, 19, 20, 21, 22, 23, 24, 25, 26, 27, 28, 29, 30, 31, 32], [0, 1, 2, 3, 4, 5, 6, 7, 8, 9, 10, 11, 12, 13, 14, 15, 16, 17, 18, 19, 20, 21, 22, 23, 24, 25, 26, 27, 28, 29, 30, 31, 32, 33], [0, 1, 2, 3, 4, 5, 6, 7, 8, 9, 10, 11, 12, 13, 14, 15, 16, 17, 18, 19, 20, 21, 22, 23, 24, 25, 26, 27, 28, 29, 30, 31, 32, 33, 34], [0, 1, 2, 3, 4, 5, 6, 7, 8, 9, 10, 11, 12, 13, 14, 15, 16, 17, 18, 19, 20, 21, 22, 23, 24, 25, 26, 27, 28, 29, 30, 31, 32, 33, 34, 35]] [(133, 0), (134, 1), (135, 2), (136, 3), (137, 4), (138, 5), (139, 6), (140, 7), (141, 8), (142, 9), (143, 10), (144, 11), (145, 12), (146, 13), (147, 14), (148, 15), (149, 16), (150, 17), (151, 18), (152, 19), (153, 20), (154, 21), (155, 22), (156, 23), (157, 24), (158, 25), (159, 26), (160, 27), (161, 28), (162, 29), (163, 30), (164, 31), (165, 32), (166, 33), (167, 34), (168, 35), (8, 36)] [(fun η133 v => v.1 = .pointer (some ⟨b97, 1, none⟩)), (fun η133 v => v.1 = .int .i64 y70.Expired), (fun η133 v => v.1 = .bool (y70.Expired == 0)), (fun η133 v => v.1 = .bool (y70.Expired == 0)), (fun η133 v => v.1 = .pointer (some ⟨b97, 2, none⟩)), (fun η133 v => v.1 = .int .i64 y70.Used), (fun η133 v => v.1 = .int .i64 (mn (w64 (1 + y1)) (w64 (Int.tdiv (w64 (2 * y7)) 2)))), (fun η133 v => v.1 = .bool (y70.Used == mn (w64 (1 + y1)) (w64 (Int.tdiv (w64 (2 * y7)) 2)))), (fun η133 v => v.1 = .bool (y70.Used == mn (w64 (1 + y1)) (w64 (Int.tdiv (w64 (2 * y7)) 2)))), (fun η133 v => v.1 = .bool (y70.Used == mn (w64 (1 + y1)) (w64 (Int.tdiv (w64 (2 * y7)) 2)))), (fun η133 v => v.1 = .pointer (some ⟨b97, 4, none⟩)), (fun η133 v => v.1 = .int .i64 y70.Taxable), (fun η133 v => v.1 = .int .i64 (w64 (2 * y7))), (fun η133 v => v.1 = .int .i64 (mn (w64 (1 + y1)) (w64 (Int.tdiv (w64 (2 * y7)) 2)))), (fun η133 v => v.1 = .int .i64 (w64 (w64 (2 * y7) - mn (w64 (1 + y1)) (w64 (Int.tdiv (w64 (2 * y7)) 2))))), (fun η133 v => v.1 = .bool (y70.Taxable == w64 (w64 (2 * y7) - mn (w64 (1 + y1)) (w64 (Int.tdiv (w64 (2 * y7)) 2))))), (fun η133 v => v.1 = .bool (y70.Taxable == w64 (w64 (2 * y7) - mn (w64 (1 + y1)) (w64 (Int.tdiv (w64 (2 * y7)) 2))))), (fun η133 v => v.1 = .bool (y70.Taxable == w64 (w64 (2 * y7) - mn (w64 (1 + y1)) (w64 (Int.tdiv (w64 (2 * y7)) 2))))), (fun η133 v => v.1 = .pointer (some ⟨b86, 0, none⟩)), (fun η133 v => v.1 = .int .i64 y137), (fun η133 v => v.1 = .int .i64 (w64 (1 + y1))), (fun η133 v => v.1 = .int .i64 (mn (w64 (1 + y1)) (w64 (Int.tdiv (w64 (2 * y7)) 2)))), (fun η133 v => v.1 = .int .i64 (w64 (w64 (1 + y1) - mn (w64 (1 + y1)) (w64 (Int.tdiv (w64 (2 * y7)) 2))))), (fun η133 v => v.1 = .bool (y137 == w64 (w64 (1 + y1) - mn (w64 (1 + y1)) (w64 (Int.tdiv (w64 (2 * y7)) 2))))), (fun η133 v => v.1 = .bool (y137 == w64 (w64 (1 + y1) - mn (w64 (1 + y1)) (w64 (Int.tdiv (w64 (2 * y7)) 2))))), (fun η133 v => v.1 = .bool (y137 == w64 (w64 (1 + y1) - mn (w64 (1 + y1)) (w64 (Int.tdiv (w64 (2 * y7)) 2))))), (fun η133 v => v.1 = .pointer (some ⟨b97, 6, none⟩)), (fun η133 v => v.1 = .slice A83 y70.Vector.length c85), (fun η133 v => v.1 = .int .i64 (w64 (2 * y7))), (fun η133 v => v.1 = .int .i64 (mn (w64 (1 + y1)) (w64 (Int.tdiv (w64 (2 * y7)) 2)))), (fun η133 v => v.1 = .slice (vA (v.1)) y144.length (vC (v.1))), (fun η133 v => v.1 = .bool y153), (fun η133 v => v.1 = .bool y153), (fun η133 v => v.1 = .bool y153), (fun η133 v => v.1 = .bool y160), (fun η133 v => v.1 = .bool y160), (fun η133 v => v.1 = .bool y160)] [⟨(some 30), none, fun η133 => Row K3 (.slice (vA ((η133 30).1)) y144.length (vC ((η133 30).1))) y144⟩] rfl (by kernel_rfl) (by kernel_rfl) H103 ⟨?_, ?_, ?_, ?_, ?_, ?_, ?_, ?_, ?_, ?_, ?_, ?_, ?_, ?_, ?_, ?_, ?_, ?_, ?_, ?_, ?_, ?_, ?_, ?_, ?_, ?_, ?_, ?_, ?_, ?_, ?_, ?_, ?_, ?_, ?_, ?_, ?_, trivial⟩ ?_
                            · intro η133 wd169 Δ170 hE166 hR167 H168
                              have H168 : Hp w0 ((Δ170 ++ (Row K38 (.slice A52 o41.f_l.length c54) o41.f_l :: Bx b51 75 [.slice A52 o41.f_l.length c54] :: Row K3 (.slice A83 y70.Vector.length c85) y70.Vector :: Bx b97 59 [.int .i64 y70.Income, .int .i64 y70.Expired, .int .i64 y70.Used, .int .i64 y70.New, .int .i64 y70.Taxable, .int .i64 y70.Tax, .slice A83 y70.Vector.length c85] :: Row K38 (.slice A87 o76.f_l.length c89) o76.f_l :: Bx b86 75 [.slice A87 o76.f_l.length c89] :: Γ))) wd169 := H168
                              refine sp_op [(12, .pointer (some ⟨b97, 0, none⟩))] (ac rfl an) ?_
                              refine r_fa FA59_1 ⟨b97, 1, none⟩ rfl rfl ?_
                              exact r_nil (n_lp ⟨_, rfl, undef, rfl, H168⟩)
                            · intro η133 wd174 Δ175 hE171 hR172 H173
                              have H173 : Hp w0 ((Δ175 ++ (Row K38 (.slice A52 o41.f_l.length c54) o41.f_l :: Bx b51 75 [.slice A52 o41.f_l.length c54] :: Row K3 (.slice A83 y70.Vector.length c85) y70.Vector :: Bx b97 59 [.int .i64 y70.Income, .int .i64 y70.Expired, .int .i64 y70.Used, .int .i64 y70.New, .int .i64 y70.Taxable, .int .i64 y70.Tax, .slice A83 y70.Vector.length c85] :: Row K38 (.slice A87 o76.f_l.length c89) o76.f_l :: Bx b86 75 [.slice A87 o76.f_l.length c89] :: Γ))) wd174 := H173
                              refine sp_op [(133, .pointer (some ⟨b97, 1, none⟩))] (ac (hE171 0 (by decide)) an) ?_
                              refine r_ld1 (.int .i64 y70.Expired) LD3 rfl (((H173).tl.g3).cell _ rfl) ?_
                              exact r_nil (n_lp ⟨_, rfl, undef, rfl, H173⟩)
                            · intro η133 wd179 Δ180 hE176 hR177 H178
                              have H178 : Hp w0 ((Δ180 ++ (Row K38 (.slice A52 o41.f_l.length c54) o41.f_l :: Bx b51 75 [.slice A52 o41.f_l.length c54] :: Row K3 (.slice A83 y70.Vector.length c85) y70.Vector :: Bx b97 59 [.int .i64 y70.Income, .int .i64 y70.Expired, .int .i64 y70.Used, .int .i64 y70.New, .int .i64 y70.Taxable, .int .i64 y70.Tax, .slice A83 y70.Vector.length c85] :: Row K38 (.slice A87 o76.f_l.length c89) o76.f_l :: Bx b86 75 [.slice A87 o76.f_l.length c89] :: Γ))) wd179 := H178
                              refine sp_op [(134, .int .i64 y70.Expired)] (ac (hE176 1 (by decide)) an) ?_
                              refine r_pure (.bool (y70.Expired == 0)) rfl ?_
                              exact r_nil (n_lp ⟨_, rfl, undef, rfl, H178⟩)
                            · intro η133 wd184 Δ185 hE181 hR182 H183
                              have H183 : Hp w0 ((Δ185 ++ (Row K38 (.slice A52 o41.f_l.length c54) o41.f_l :: Bx b51 75 [.slice A52 o41.f_l.length c54] :: Row K3 (.slice A83 y70.Vector.length c85) y70.Vector :: Bx b97 59 [.int .i64 y70.Income, .int .i64 y70.Expired, .int .i64 y70.Used, .int .i64 y70.New, .int .i64 y70.Taxable, .int .i64 y70.Tax, .slice A83 y70.Vector.length c85] :: Row K38 (.slice A87 o76.f_l.length c89) o76.f_l :: Bx b86 75 [.slice A87 o76.f_l.length c89] :: Γ))) wd184 := H183
                              refine sp_op [(135, .bool (y70.Expired == 0))] (ac (hE181 2 (by decide)) an) ?_
                              refine r_pure (.bool (y70.Expired == 0)) rfl ?_
                              exact r_nil (n_lp ⟨_, rfl, undef, rfl, H183⟩)
                            · intro η133 wd189 Δ190 hE186 hR187 H188
                              have H188 : Hp w0 ((Δ190 ++ (Row K38 (.slice A52 o41.f_l.length c54) o41.f_l :: Bx b51 75 [.slice A52 o41.f_l.length c54] :: Row K3 (.slice A83 y70.Vector.length c85) y70.Vector :: Bx b97 59 [.int .i64 y70.Income, .int .i64 y70.Expired, .int .i64 y70.Used, .int .i64 y70.New, .int .i64 y70.Taxable, .int .i64 y70.Tax, .slice A83 y70.Vector.length c85] :: Row K38 (.slice A87 o76.f_l.length c89) o76.f_l :: Bx b86 75 [.slice A87 o76.f_l.length c89] :: Γ))) wd189 := H188
                              refine sp_op [(12, .pointer (some ⟨b97, 0, none⟩)), (136, .bool (y70.Expired == 0))] (ac rfl (ac (hE186 3 (by decide)) an)) ?_
                              refine r_fa FA59_2 ⟨b97, 2, none⟩ rfl rfl ?_ (wn_t rfl rfl (by decide) rfl hb134)
                              exact r_nil (n_lp ⟨_, rfl, undef, rfl, H188⟩)
                            · intro η133 wd194 Δ195 hE191 hR192 H193
                              have H193 : Hp w0 ((Δ195 ++ (Row K38 (.slice A52 o41.f_l.length c54) o41.f_l :: Bx b51 75 [.slice A52 o41.f_l.length c54] :: Row K3 (.slice A83 y70.Vector.length c85) y70.Vector :: Bx b97 59 [.int .i64 y70.Income, .int .i64 y70.Expired, .int .i64 y70.Used, .int .i64 y70.New, .int .i64 y70.Taxable, .int .i64 y70.Tax, .slice A83 y70.Vector.length c85] :: Row K38 (.slice A87 o76.f_l.length c89) o76.f_l :: Bx b86 75 [.slice A87 o76.f_l.length c89] :: Γ))) wd194 := H193
                              refine sp_op [(136, .bool (y70.Expired == 0)), (137, .pointer (some ⟨b97, 2, none⟩))] (ac (hE191 3 (by decide)) (ac (hE191 4 (by decide)) an)) ?_
                              refine r_ld1 (.int .i64 y70.Used) LD3 rfl (((H193).tl.g3).cell _ rfl) ?_ (wn_t rfl rfl (by decide) rfl hb134)
                              exact r_nil (n_lp ⟨_, rfl, undef, rfl, H193⟩)
                            · intro η133 wd199 Δ200 hE196 hR197 H198
                              have H198 : Hp w0 ((Δ200 ++ (Row K38 (.slice A52 o41.f_l.length c54) o41.f_l :: Bx b51 75 [.slice A52 o41.f_l.length c54] :: Row K3 (.slice A83 y70.Vector.length c85) y70.Vector :: Bx b97 59 [.int .i64 y70.Income, .int .i64 y70.Expired, .int .i64 y70.Used, .int .i64 y70.New, .int .i64 y70.Taxable, .int .i64 y70.Tax, .slice A83 y70.Vector.length c85] :: Row K38 (.slice A87 o76.f_l.length c89) o76.f_l :: Bx b86 75 [.slice A87 o76.f_l.length c89] :: Γ))) wd199 := H198
                              refine sp_op [(14, .int .i64 (mn (w64 (1 + y1)) (w64 (Int.tdiv (w64 (2 * y7)) 2)))), (136, .bool (y70.Expired == 0))] (ac rfl (ac (hE196 3 (by decide)) an)) ?_
                              refine r_pure (.int .i64 (mn (w64 (1 + y1)) (w64 (Int.tdiv (w64 (2 * y7)) 2)))) rfl ?_ (wn_t rfl rfl (by decide) rfl hb134)
                              exact r_nil (n_lp ⟨_, rfl, undef, rfl, H198⟩)
                            · intro η133 wd204 Δ205 hE201 hR202 H203
                              have H203 : Hp w0 ((Δ205 ++ (Row K38 (.slice A52 o41.f_l.length c54) o41.f_l :: Bx b51 75 [.slice A52 o41.f_l.length c54] :: Row K3 (.slice A83 y70.Vector.length c85) y70.Vector :: Bx b97 59 [.int .i64 y70.Income, .int .i64 y70.Expired, .int .i64 y70.Used, .int .i64 y70.New, .int .i64 y70.Taxable, .int .i64 y70.Tax, .slice A83 y70.Vector.length c85] :: Row K38 (.slice A87 o76.f_l.length c89) o76.f_l :: Bx b86 75 [.slice A87 o76.f_l.length c89] :: Γ))) wd204 := H203
                              refine sp_op [(136, .bool (y70.Expired == 0)), (138, .int .i64 y70.Used), (139, .int .i64 (mn (w64 (1 + y1)) (w64 (Int.tdiv (w64 (2 * y7)) 2))))] (ac (hE201 3 (by decide)) (ac (hE201 5 (by decide)) (ac (hE201 6 (by decide)) an))) ?_
                              refine r_pure (.bool (y70.Used == mn (w64 (1 + y1)) (w64 (Int.tdiv (w64 (2 * y7)) 2)))) rfl ?_ (wn_t rfl rfl (by decide) rfl hb134)
                              exact r_nil (n_lp ⟨_, rfl, undef, rfl, H203⟩)
                            · intro η133 wd209 Δ210 hE206 hR207 H208
                              have H208 : Hp w0 ((Δ210 ++ (Row K38 (.slice A52 o41.f_l.length c54) o41.f_l :: Bx b51 75 [.slice A52 o41.f_l.length c54] :: Row K3 (.slice A83 y70.Vector.length c85) y70.Vector :: Bx b97 59 [.int .i64 y70.Income, .int .i64 y70.Expired, .int .i64 y70.Used, .int .i64 y70.New, .int .i64 y70.Taxable, .int .i64 y70.Tax, .slice A83 y70.Vector.length c85] :: Row K38 (.slice A87 o76.f_l.length c89) o76.f_l :: Bx b86 75 [.slice A87 o76.f_l.length c89] :: Γ))) wd209 := H208
                              refine sp_op [(136, .bool (y70.Expired == 0)), (140, .bool (y70.Used == mn (w64 (1 + y1)) (w64 (Int.tdiv (w64 (2 * y7)) 2))))] (ac (hE206 3 (by decide)) (ac (hE206 7 (by decide)) an)) ?_
                              refine r_pick_t (.bool (y70.Used == mn (w64 (1 + y1)) (w64 (Int.tdiv (w64 (2 * y7)) 2)))) hb134 rfl rfl ?_
                              exact r_nil (n_lp ⟨_, rfl, undef, rfl, H208⟩)
                            · intro η133 wd214 Δ215 hE211 hR212 H213
                              have H213 : Hp w0 ((Δ215 ++ (Row K38 (.slice A52 o41.f_l.length c54) o41.f_l :: Bx b51 75 [.slice A52 o41.f_l.length c54] :: Row K3 (.slice A83 y70.Vector.length c85) y70.Vector :: Bx b97 59 [.int .i64 y70.Income, .int .i64 y70.Expired, .int .i64 y70.Used, .int .i64 y70.New, .int .i64 y70.Taxable, .int .i64 y70.Tax, .slice A83 y70.Vector.length c85] :: Row K38 (.slice A87 o76.f_l.length c89) o76.f_l :: Bx b86 75 [.slice A87 o76.f_l.length c89] :: Γ))) wd214 := H213
                              refine sp_op [(141, .bool (y70.Used == mn (w64 (1 + y1)) (w64 (Int.tdiv (w64 (2 * y7)) 2))))] (ac (hE211 8 (by decide)) an) ?_
                              refine r_pure (.bool (y70.Used == mn (w64 (1 + y1)) (w64 (Int.tdiv (w64 (2 * y7)) 2)))) rfl ?_
                              exact r_nil (n_lp ⟨_, rfl, undef, rfl, H213⟩)
                            · intro η133 wd219 Δ220 hE216 hR217 H218
                              have H218 : Hp w0 ((Δ220 ++ (Row K38 (.slice A52 o41.f_l.length c54) o41.f_l :: Bx b51 75 [.slice A52 o41.f_l.length c54] :: Row K3 (.slice A83 y70.Vector.length c85) y70.Vector :: Bx b97 59 [.int .i64 y70.Income, .int .i64 y70.Expired, .int .i64 y70.Used, .int .i64 y70.New, .int .i64 y70.Taxable, .int .i64 y70.Tax, .slice A83 y70.Vector.length c85] :: Row K38 (.slice A87 o76.f_l.length c89) o76.f_l :: Bx b86 75 [.slice A87 o76.f_l.length c89] :: Γ))) wd219 := H218
                              refine sp_op [(12, .pointer (some ⟨b97, 0, none⟩)), (142, .bool (y70.Used == mn (w64 (1 + y1)) (w64 (Int.tdiv (w64 (2 * y7)) 2))))] (ac rfl (ac (hE216 9 (by decide)) an)) ?_
                              refine r_fa FA59_4 ⟨b97, 4, none⟩ rfl rfl ?_ (wn_t rfl rfl (by decide) rfl hb135)
                              exact r_nil (n_lp ⟨_, rfl, undef, rfl, H218⟩)
                            · intro η133 wd224 Δ225 hE221 hR222 H223
                              have H223 : Hp w0 ((Δ225 ++ (Row K38 (.slice A52 o41.f_l.length c54) o41.f_l :: Bx b51 75 [.slice A52 o41.f_l.length c54] :: Row K3 (.slice A83 y70.Vector.length c85) y70.Vector :: Bx b97 59 [.int .i64 y70.Income, .int .i64 y70.Expired, .int .i64 y70.Used, .int .i64 y70.New, .int .i64 y70.Taxable, .int .i64 y70.Tax, .slice A83 y70.Vector.length c85] :: Row K38 (.slice A87 o76.f_l.length c89) o76.f_l :: Bx b86 75 [.slice A87 o76.f_l.length c89] :: Γ))) wd224 := H223
                              refine sp_op [(142, .bool (y70.Used == mn (w64 (1 + y1)) (w64 (Int.tdiv (w64 (2 * y7)) 2)))), (143, .pointer (some ⟨b97, 4, none⟩))] (ac (hE221 9 (by decide)) (ac (hE221 10 (by decide)) an)) ?_
                              refine r_ld1 (.int .i64 y70.Taxable) LD3 rfl (((H223).tl.g3).cell _ rfl) ?_ (wn_t rfl rfl (by decide) rfl hb135)
                              exact r_nil (n_lp ⟨_, rfl, undef, rfl, H223⟩)
                            · intro η133 wd229 Δ230 hE226 hR227 H228
                              have H228 : Hp w0 ((Δ230 ++ (Row K38 (.slice A52 o41.f_l.length c54) o41.f_l :: Bx b51 75 [.slice A52 o41.f_l.length c54] :: Row K3 (.slice A83 y70.Vector.length c85) y70.Vector :: Bx b97 59 [.int .i64 y70.Income, .int .i64 y70.Expired, .int .i64 y70.Used, .int .i64 y70.New, .int .i64 y70.Taxable, .int .i64 y70.Tax, .slice A83 y70.Vector.length c85] :: Row K38 (.slice A87 o76.f_l.length c89) o76.f_l :: Bx b86 75 [.slice A87 o76.f_l.length c89] :: Γ))) wd229 := H228
                              refine sp_op [(1, .int .i64 (w64 (2 * y7))), (142, .bool (y70.Used == mn (w64 (1 + y1)) (w64 (Int.tdiv (w64 (2 * y7)) 2))))] (ac rfl (ac (hE226 9 (by decide)) an)) ?_
                              refine r_pure (.int .i64 (w64 (2 * y7))) rfl ?_ (wn_t rfl rfl (by decide) rfl hb135)
                              exact r_nil (n_lp ⟨_, rfl, undef, rfl, H228⟩)
                            · intro η133 wd234 Δ235 hE231 hR232 H233
                              have H233 : Hp w0 ((Δ235 ++ (Row K38 (.slice A52 o41.f_l.length c54) o41.f_l :: Bx b51 75 [.slice A52 o41.f_l.length c54] :: Row K3 (.slice A83 y70.Vector.length c85) y70.Vector :: Bx b97 59 [.int .i64 y70.Income, .int .i64 y70.Expired, .int .i64 y70.Used, .int .i64 y70.New, .int .i64 y70.Taxable, .int .i64 y70.Tax, .slice A83 y70.Vector.length c85] :: Row K38 (.slice A87 o76.f_l.length c89) o76.f_l :: Bx b86 75 [.slice A87 o76.f_l.length c89] :: Γ))) wd234 := H233
                              refine sp_op [(14, .int .i64 (mn (w64 (1 + y1)) (w64 (Int.tdiv (w64 (2 * y7)) 2)))), (142, .bool (y70.Used == mn (w64 (1 + y1)) (w64 (Int.tdiv (w64 (2 * y7)) 2))))] (ac rfl (ac (hE231 9 (by decide)) an)) ?_
                              refine r_pure (.int .i64 (mn (w64 (1 + y1)) (w64 (Int.tdiv (w64 (2 * y7)) 2)))) rfl ?_ (wn_t rfl rfl (by decide) rfl hb135)
                              exact r_nil (n_lp ⟨_, rfl, undef, rfl, H233⟩)
                            · intro η133 wd239 Δ240 hE236 hR237 H238
                              have H238 : Hp w0 ((Δ240 ++ (Row K38 (.slice A52 o41.f_l.length c54) o41.f_l :: Bx b51 75 [.slice A52 o41.f_l.length c54] :: Row K3 (.slice A83 y70.Vector.length c85) y70.Vector :: Bx b97 59 [.int .i64 y70.Income, .int .i64 y70.Expired, .int .i64 y70.Used, .int .i64 y70.New, .int .i64 y70.Taxable, .int .i64 y70.Tax, .slice A83 y70.Vector.length c85] :: Row K38 (.slice A87 o76.f_l.length c89) o76.f_l :: Bx b86 75 [.slice A87 o76.f_l.length c89] :: Γ))) wd239 := H238
                              refine sp_op [(142, .bool (y70.Used == mn (w64 (1 + y1)) (w64 (Int.tdiv (w64 (2 * y7)) 2)))), (145, .int .i64 (w64 (2 * y7))), (146, .int .i64 (mn (w64 (1 + y1)) (w64 (Int.tdiv (w64 (2 * y7)) 2))))] (ac (hE236 9 (by decide)) (ac (hE236 12 (by decide)) (ac (hE236 13 (by decide)) an))) ?_
                              refine r_pure (.int .i64 (w64 (w64 (2 * y7) - mn (w64 (1 + y1)) (w64 (Int.tdiv (w64 (2 * y7)) 2))))) rfl ?_ (wn_t rfl rfl (by decide) rfl hb135)
                              exact r_nil (n_lp ⟨_, rfl, undef, rfl, H238⟩)
                            · intro η133 wd244 Δ245 hE241 hR242 H243
                              have H243 : Hp w0 ((Δ245 ++ (Row K38 (.slice A52 o41.f_l.length c54) o41.f_l :: Bx b51 75 [.slice A52 o41.f_l.length c54] :: Row K3 (.slice A83 y70.Vector.length c85) y70.Vector :: Bx b97 59 [.int .i64 y70.Income, .int .i64 y70.Expired, .int .i64 y70.Used, .int .i64 y70.New, .int .i64 y70.Taxable, .int .i64 y70.Tax, .slice A83 y70.Vector.length c85] :: Row K38 (.slice A87 o76.f_l.length c89) o76.f_l :: Bx b86 75 [.slice A87 o76.f_l.length c89] :: Γ))) wd244 := H243
                              refine sp_op [(142, .bool (y70.Used == mn (w64 (1 + y1)) (w64 (Int.tdiv (w64 (2 * y7)) 2)))), (144, .int .i64 y70.Taxable), (147, .int .i64 (w64 (w64 (2 * y7) - mn (w64 (1 + y1)) (w64 (Int.tdiv (w64 (2 * y7)) 2)))))] (ac (hE241 9 (by decide)) (ac (hE241 11 (by decide)) (ac (hE241 14 (by decide)) an))) ?_
                              refine r_pure (.bool (y70.Taxable == w64 (w64 (2 * y7) - mn (w64 (1 + y1)) (w64 (Int.tdiv (w64 (2 * y7)) 2))))) rfl ?_ (wn_t rfl rfl (by decide) rfl hb135)
                              exact r_nil (n_lp ⟨_, rfl, undef, rfl, H243⟩)
                            · intro η133 wd249 Δ250 hE246 hR247 H248
                              have H248 : Hp w0 ((Δ250 ++ (Row K38 (.slice A52 o41.f_l.length c54) o41.f_l :: Bx b51 75 [.slice A52 o41.f_l.length c54] :: Row K3 (.slice A83 y70.Vector.length c85) y70.Vector :: Bx b97 59 [.int .i64 y70.Income, .int .i64 y70.Expired, .int .i64 y70.Used, .int .i64 y70.New, .int .i64 y70.Taxable, .int .i64 y70.Tax, .slice A83 y70.Vector.length c85] :: Row K38 (.slice A87 o76.f_l.length c89) o76.f_l :: Bx b86 75 [.slice A87 o76.f_l.length c89] :: Γ))) wd249 := H248
                              refine sp_op [(142, .bool (y70.Used == mn (w64 (1 + y1)) (w64 (Int.tdiv (w64 (2 * y7)) 2)))), (148, .bool (y70.Taxable == w64 (w64 (2 * y7) - mn (w64 (1 + y1)) (w64 (Int.tdiv (w64 (2 * y7)) 2)))))] (ac (hE246 9 (by decide)) (ac (hE246 15 (by decide)) an)) ?_
                              refine r_pick_t (.bool (y70.Taxable == w64 (w64 (2 * y7) - mn (w64 (1 + y1)) (w64 (Int.tdiv (w64 (2 * y7)) 2))))) hb135 rfl rfl ?_
                              exact r_nil (n_lp ⟨_, rfl, undef, rfl, H248⟩)
                            · intro η133 wd254 Δ255 hE251 hR252 H253
                              have H253 : Hp w0 ((Δ255 ++ (Row K38 (.slice A52 o41.f_l.length c54) o41.f_l :: Bx b51 75 [.slice A52 o41.f_l.length c54] :: Row K3 (.slice A83 y70.Vector.length c85) y70.Vector :: Bx b97 59 [.int .i64 y70.Income, .int .i64 y70.Expired, .int .i64 y70.Used, .int .i64 y70.New, .int .i64 y70.Taxable, .int .i64 y70.Tax, .slice A83 y70.Vector.length c85] :: Row K38 (.slice A87 o76.f_l.length c89) o76.f_l :: Bx b86 75 [.slice A87 o76.f_l.length c89] :: Γ))) wd254 := H253
                              refine sp_op [(149, .bool (y70.Taxable == w64 (w64 (2 * y7) - mn (w64 (1 + y1)) (w64 (Int.tdiv (w64 (2 * y7)) 2)))))] (ac (hE251 16 (by decide)) an) ?_
                              refine r_pure (.bool (y70.Taxable == w64 (w64 (2 * y7) - mn (w64 (1 + y1)) (w64 (Int.tdiv (w64 (2 * y7)) 2))))) rfl ?_
                              exact r_nil (n_lp ⟨_, rfl, undef, rfl, H253⟩)
                            · intro η133 wd259 Δ260 hE256 hR257 H258
                              have H258 : Hp w0 ((Δ260 ++ (Row K38 (.slice A52 o41.f_l.length c54) o41.f_l :: Bx b51 75 [.slice A52 o41.f_l.length c54] :: Row K3 (.slice A83 y70.Vector.length c85) y70.Vector :: Bx b97 59 [.int .i64 y70.Income, .int .i64 y70.Expired, .int .i64 y70.Used, .int .i64 y70.New, .int .i64 y70.Taxable, .int .i64 y70.Tax, .slice A83 y70.Vector.length c85] :: Row K38 (.slice A87 o76.f_l.length c89) o76.f_l :: Bx b86 75 [.slice A87 o76.f_l.length c89] :: Γ))) wd259 := H258
                              refine sp_op [(13, .pointer (some ⟨b86, 0, none⟩)), (150, .bool (y70.Taxable == w64 (w64 (2 * y7) - mn (w64 (1 + y1)) (w64 (Int.tdiv (w64 (2 * y7)) 2)))))] (ac rfl (ac (hE256 17 (by decide)) an)) ?_
                              refine r_pure (.pointer (some ⟨b86, 0, none⟩)) rfl ?_ (wn_t rfl rfl (by decide) rfl hb136)
                              exact r_nil (n_lp ⟨_, rfl, undef, rfl, H258⟩)
                            · intro η133 wd264 Δ265 hE261 hR262 H263
                              have H263 : Hp w0 ((Δ265 ++ (Row K38 (.slice A52 o41.f_l.length c54) o41.f_l :: Bx b51 75 [.slice A52 o41.f_l.length c54] :: Row K3 (.slice A83 y70.Vector.length c85) y70.Vector :: Bx b97 59 [.int .i64 y70.Income, .int .i64 y70.Expired, .int .i64 y70.Used, .int .i64 y70.New, .int .i64 y70.Taxable, .int .i64 y70.Tax, .slice A83 y70.Vector.length c85] :: Row K38 (.slice A87 o76.f_l.length c89) o76.f_l :: Bx b86 75 [.slice A87 o76.f_l.length c89] :: Γ))) wd264 := H263
                              refine sp_op [(150, .bool (y70.Taxable == w64 (w64 (2 * y7) - mn (w64 (1 + y1)) (w64 (Int.tdiv (w64 (2 * y7)) 2))))), (151, .pointer (some ⟨b86, 0, none⟩))] (ac (hE261 17 (by decide)) (ac (hE261 18 (by decide)) an)) ?_
                              refine r_callf Try.call23 (vintage_Losses_Left_ok b86 (⟨o76.f_l⟩ : vintage_Losses) A87 o76.f_l.length c89 rfl ((((H263)).tl.g4).cap) (fun _ H => ((H).tl.g4.rd)) (fun _ H => ((H).tl.g5)) y137 H263 hy138) ?_ (wn_t rfl rfl (by decide) rfl hb136)
                              rintro e269 wd268 ⟨rfl, H271⟩
                              refine ⟨_, rfl, ?_⟩
                              exact r_nil (n_lp ⟨_, rfl, undef, rfl, H271⟩)
                            · intro η133 wd275 Δ276 hE272 hR273 H274
                              have H274 : Hp w0 ((Δ276 ++ (Row K38 (.slice A52 o41.f_l.length c54) o41.f_l :: Bx b51 75 [.slice A52 o41.f_l.length c54] :: Row K3 (.slice A83 y70.Vector.length c85) y70.Vector :: Bx b97 59 [.int .i64 y70.Income, .int .i64 y70.Expired, .int .i64 y70.Used, .int .i64 y70.New, .int .i64 y70.Taxable, .int .i64 y70.Tax, .slice A83 y70.Vector.length c85] :: Row K38 (.slice A87 o76.f_l.length c89) o76.f_l :: Bx b86 75 [.slice A87 o76.f_l.length c89] :: Γ))) wd275 := H274
                              refine sp_op [(0, .int .i64 (w64 (1 + y1))), (150, .bool (y70.Taxable == w64 (w64 (2 * y7) - mn (w64 (1 + y1)) (w64 (Int.tdiv (w64 (2 * y7)) 2)))))] (ac rfl (ac (hE272 17 (by decide)) an)) ?_
                              refine r_pure (.int .i64 (w64 (1 + y1))) rfl ?_ (wn_t rfl rfl (by decide) rfl hb136)
                              exact r_nil (n_lp ⟨_, rfl, undef, rfl, H274⟩)
                            · intro η133 wd280 Δ281 hE277 hR278 H279
                              have H279 : Hp w0 ((Δ281 ++ (Row K38 (.slice A52 o41.f_l.length c54) o41.f_l :: Bx b51 75 [.slice A52 o41.f_l.length c54] :: Row K3 (.slice A83 y70.Vector.length c85) y70.Vector :: Bx b97 59 [.int .i64 y70.Income, .int .i64 y70.Expired, .int .i64 y70.Used, .int .i64 y70.New, .int .i64 y70.Taxable, .int .i64 y70.Tax, .slice A83 y70.Vector.length c85] :: Row K38 (.slice A87 o76.f_l.length c89) o76.f_l :: Bx b86 75 [.slice A87 o76.f_l.length c89] :: Γ))) wd280 := H279
                              refine sp_op [(14, .int .i64 (mn (w64 (1 + y1)) (w64 (Int.tdiv (w64 (2 * y7)) 2)))), (150, .bool (y70.Taxable == w64 (w64 (2 * y7) - mn (w64 (1 + y1)) (w64 (Int.tdiv (w64 (2 * y7)) 2)))))] (ac rfl (ac (hE277 17 (by decide)) an)) ?_
                              refine r_pure (.int .i64 (mn (w64 (1 + y1)) (w64 (Int.tdiv (w64 (2 * y7)) 2)))) rfl ?_ (wn_t rfl rfl (by decide) rfl hb136)
                              exact r_nil (n_lp ⟨_, rfl, undef, rfl, H279⟩)
                            · intro η133 wd285 Δ286 hE282 hR283 H284
                              have H284 : Hp w0 ((Δ286 ++ (Row K38 (.slice A52 o41.f_l.length c54) o41.f_l :: Bx b51 75 [.slice A52 o41.f_l.length c54] :: Row K3 (.slice A83 y70.Vector.length c85) y70.Vector :: Bx b97 59 [.int .i64 y70.Income, .int .i64 y70.Expired, .int .i64 y70.Used, .int .i64 y70.New, .int .i64 y70.Taxable, .int .i64 y70.Tax, .slice A83 y70.Vector.length c85] :: Row K38 (.slice A87 o76.f_l.length c89) o76.f_l :: Bx b86 75 [.slice A87 o76.f_l.length c89] :: Γ))) wd285 := H284
                              refine sp_op [(150, .bool (y70.Taxable == w64 (w64 (2 * y7) - mn (w64 (1 + y1)) (w64 (Int.tdiv (w64 (2 * y7)) 2))))), (153, .int .i64 (w64 (1 + y1))), (154, .int .i64 (mn (w64 (1 + y1)) (w64 (Int.tdiv (w64 (2 * y7)) 2))))] (ac (hE282 17 (by decide)) (ac (hE282 20 (by decide)) (ac (hE282 21 (by decide)) an))) ?_
                              refine r_pure (.int .i64 (w64 (w64 (1 + y1) - mn (w64 (1 + y1)) (w64 (Int.tdiv (w64 (2 * y7)) 2))))) rfl ?_ (wn_t rfl rfl (by decide) rfl hb136)
                              exact r_nil (n_lp ⟨_, rfl, undef, rfl, H284⟩)
                            · intro η133 wd290 Δ291 hE287 hR288 H289
                              have H289 : Hp w0 ((Δ291 ++ (Row K38 (.slice A52 o41.f_l.length c54) o41.f_l :: Bx b51 75 [.slice A52 o41.f_l.length c54] :: Row K3 (.slice A83 y70.Vector.length c85) y70.Vector :: Bx b97 59 [.int .i64 y70.Income, .int .i64 y70.Expired, .int .i64 y70.Used, .int .i64 y70.New, .int .i64 y70.Taxable, .int .i64 y70.Tax, .slice A83 y70.Vector.length c85] :: Row K38 (.slice A87 o76.f_l.length c89) o76.f_l :: Bx b86 75 [.slice A87 o76.f_l.length c89] :: Γ))) wd290 := H289
                              refine sp_op [(150, .bool (y70.Taxable == w64 (w64 (2 * y7) - mn (w64 (1 + y1)) (w64 (Int.tdiv (w64 (2 * y7)) 2))))), (152, .int .i64 y137), (155, .int .i64 (w64 (w64 (1 + y1) - mn (w64 (1 + y1)) (w64 (Int.tdiv (w64 (2 * y7)) 2)))))] (ac (hE287 17 (by decide)) (ac (hE287 19 (by decide)) (ac (hE287 22 (by decide)) an))) ?_
                              refine r_pure (.bool (y137 == w64 (w64 (1 + y1) - mn (w64 (1 + y1)) (w64 (Int.tdiv (w64 (2 * y7)) 2))))) rfl ?_ (wn_t rfl rfl (by decide) rfl hb136)
                              exact r_nil (n_lp ⟨_, rfl, undef, rfl, H289⟩)
                            · intro η133 wd295 Δ296 hE292 hR293 H294
                              have H294 : Hp w0 ((Δ296 ++ (Row K38 (.slice A52 o41.f_l.length c54) o41.f_l :: Bx b51 75 [.slice A52 o41.f_l.length c54] :: Row K3 (.slice A83 y70.Vector.length c85) y70.Vector :: Bx b97 59 [.int .i64 y70.Income, .int .i64 y70.Expired, .int .i64 y70.Used, .int .i64 y70.New, .int .i64 y70.Taxable, .int .i64 y70.Tax, .slice A83 y70.Vector.length c85] :: Row K38 (.slice A87 o76.f_l.length c89) o76.f_l :: Bx b86 75 [.slice A87 o76.f_l.length c89] :: Γ))) wd295 := H294
                              refine sp_op [(150, .bool (y70.Taxable == w64 (w64 (2 * y7) - mn (w64 (1 + y1)) (w64 (Int.tdiv (w64 (2 * y7)) 2))))), (156, .bool (y137 == w64 (w64 (1 + y1) - mn (w64 (1 + y1)) (w64 (Int.tdiv (w64 (2 * y7)) 2)))))] (ac (hE292 17 (by decide)) (ac (hE292 23 (by decide)) an)) ?_
                              refine r_pick_t (.bool (y137 == w64 (w64 (1 + y1) - mn (w64 (1 + y1)) (w64 (Int.tdiv (w64 (2 * y7)) 2))))) hb136 rfl rfl ?_
                              exact r_nil (n_lp ⟨_, rfl, undef, rfl, H294⟩)
                            · intro η133 wd300 Δ301 hE297 hR298 H299
                              have H299 : Hp w0 ((Δ301 ++ (Row K38 (.slice A52 o41.f_l.length c54) o41.f_l :: Bx b51 75 [.slice A52 o41.f_l.length c54] :: Row K3 (.slice A83 y70.Vector.length c85) y70.Vector :: Bx b97 59 [.int .i64 y70.Income, .int .i64 y70.Expired, .int .i64 y70.Used, .int .i64 y70.New, .int .i64 y70.Taxable, .int .i64 y70.Tax, .slice A83 y70.Vector.length c85] :: Row K38 (.slice A87 o76.f_l.length c89) o76.f_l :: Bx b86 75 [.slice A87 o76.f_l.length c89] :: Γ))) wd300 := H299
                              refine sp_op [(157, .bool (y137 == w64 (w64 (1 + y1) - mn (w64 (1 + y1)) (w64 (Int.tdiv (w64 (2 * y7)) 2)))))] (ac (hE297 24 (by decide)) an) ?_
                              refine r_pure (.bool (y137 == w64 (w64 (1 + y1) - mn (w64 (1 + y1)) (w64 (Int.tdiv (w64 (2 * y7)) 2))))) rfl ?_
                              exact r_nil (n_lp ⟨_, rfl, undef, rfl, H299⟩)
                            · intro η133 wd305 Δ306 hE302 hR303 H304
                              have H304 : Hp w0 ((Δ306 ++ (Row K38 (.slice A52 o41.f_l.length c54) o41.f_l :: Bx b51 75 [.slice A52 o41.f_l.length c54] :: Row K3 (.slice A83 y70.Vector.length c85) y70.Vector :: Bx b97 59 [.int .i64 y70.Income, .int .i64 y70.Expired, .int .i64 y70.Used, .int .i64 y70.New, .int .i64 y70.Taxable, .int .i64 y70.Tax, .slice A83 y70.Vector.length c85] :: Row K38 (.slice A87 o76.f_l.length c89) o76.f_l :: Bx b86 75 [.slice A87 o76.f_l.length c89] :: Γ))) wd305 := H304
                              refine sp_op [(12, .pointer (some ⟨b97, 0, none⟩)), (158, .bool (y137 == w64 (w64 (1 + y1) - mn (w64 (1 + y1)) (w64 (Int.tdiv (w64 (2 * y7)) 2)))))] (ac rfl (ac (hE302 25 (by decide)) an)) ?_
                              refine r_fa FA59_6 ⟨b97, 6, none⟩ rfl rfl ?_ (wn_t rfl rfl (by decide) rfl hb143)
                              exact r_nil (n_lp ⟨_, rfl, undef, rfl, H304⟩)
                            · intro η133 wd310 Δ311 hE307 hR308 H309
                              have H309 : Hp w0 ((Δ311 ++ (Row K38 (.slice A52 o41.f_l.length c54) o41.f_l :: Bx b51 75 [.slice A52 o41.f_l.length c54] :: Row K3 (.slice A83 y70.Vector.length c85) y70.Vector :: Bx b97 59 [.int .i64 y70.Income, .int .i64 y70.Expired, .int .i64 y70.Used, .int .i64 y70.New, .int .i64 y70.Taxable, .int .i64 y70.Tax, .slice A83 y70.Vector.length c85] :: Row K38 (.slice A87 o76.f_l.length c89) o76.f_l :: Bx b86 75 [.slice A87 o76.f_l.length c89] :: Γ))) wd310 := H309
                              refine sp_op [(158, .bool (y137 == w64 (w64 (1 + y1) - mn (w64 (1 + y1)) (w64 (Int.tdiv (w64 (2 * y7)) 2))))), (159, .pointer (some ⟨b97, 6, none⟩))] (ac (hE307 25 (by decide)) (ac (hE307 26 (by decide)) an)) ?_
                              refine r_ld1 (.slice A83 y70.Vector.length c85) LD29 rfl (((H309).tl.g3).cell _ rfl) ?_ (wn_t rfl rfl (by decide) rfl hb143)
                              exact r_nil (n_lp ⟨_, rfl, undef, rfl, H309⟩)
                            · intro η133 wd315 Δ316 hE312 hR313 H314
                              have H314 : Hp w0 ((Δ316 ++ (Row K38 (.slice A52 o41.f_l.length c54) o41.f_l :: Bx b51 75 [.slice A52 o41.f_l.length c54] :: Row K3 (.slice A83 y70.Vector.length c85) y70.Vector :: Bx b97 59 [.int .i64 y70.Income, .int .i64 y70.Expired, .int .i64 y70.Used, .int .i64 y70.New, .int .i64 y70.Taxable, .int .i64 y70.Tax, .slice A83 y70.Vector.length c85] :: Row K38 (.slice A87 o76.f_l.length c89) o76.f_l :: Bx b86 75 [.slice A87 o76.f_l.length c89] :: Γ))) wd315 := H314
                              refine sp_op [(1, .int .i64 (w64 (2 * y7))), (158, .bool (y137 == w64 (w64 (1 + y1) - mn (w64 (1 + y1)) (w64 (Int.tdiv (w64 (2 * y7)) 2)))))] (ac rfl (ac (hE312 25 (by decide)) an)) ?_
                              refine r_pure (.int .i64 (w64 (2 * y7))) rfl ?_ (wn_t rfl rfl (by decide) rfl hb143)
                              exact r_nil (n_lp ⟨_, rfl, undef, rfl, H314⟩)
                            · intro η133 wd320 Δ321 hE317 hR318 H319
                              have H319 : Hp w0 ((Δ321 ++ (Row K38 (.slice A52 o41.f_l.length c54) o41.f_l :: Bx b51 75 [.slice A52 o41.f_l.length c54] :: Row K3 (.slice A83 y70.Vector.length c85) y70.Vector :: Bx b97 59 [.int .i64 y70.Income, .int .i64 y70.Expired, .int .i64 y70.Used, .int .i64 y70.New, .int .i64 y70.Taxable, .int .i64 y70.Tax, .slice A83 y70.Vector.length c85] :: Row K38 (.slice A87 o76.f_l.length c89) o76.f_l :: Bx b86 75 [.slice A87 o76.f_l.length c89] :: Γ))) wd320 := H319
                              refine sp_op [(14, .int .i64 (mn (w64 (1 + y1)) (w64 (Int.tdiv (w64 (2 * y7)) 2)))), (158, .bool (y137 == w64 (w64 (1 + y1) - mn (w64 (1 + y1)) (w64 (Int.tdiv (w64 (2 * y7)) 2)))))] (ac rfl (ac (hE317 25 (by decide)) an)) ?_
                              refine r_pure (.int .i64 (mn (w64 (1 + y1)) (w64 (Int.tdiv (w64 (2 * y7)) 2)))) rfl ?_ (wn_t rfl rfl (by decide) rfl hb143)
                              exact r_nil (n_lp ⟨_, rfl, undef, rfl, H319⟩)
                            · intro η133 wd325 Δ326 hE322 hR323 H324
                              have H324 : Hp w0 ((Δ326 ++ (Row K38 (.slice A52 o41.f_l.length c54) o41.f_l :: Bx b51 75 [.slice A52 o41.f_l.length c54] :: Row K3 (.slice A83 y70.Vector.length c85) y70.Vector :: Bx b97 59 [.int .i64 y70.Income, .int .i64 y70.Expired, .int .i64 y70.Used, .int .i64 y70.New, .int .i64 y70.Taxable, .int .i64 y70.Tax, .slice A83 y70.Vector.length c85] :: Row K38 (.slice A87 o76.f_l.length c89) o76.f_l :: Bx b86 75 [.slice A87 o76.f_l.length c89] :: Γ))) wd325 := H324
                              refine sp_op [(158, .bool (y137 == w64 (w64 (1 + y1) - mn (w64 (1 + y1)) (w64 (Int.tdiv (w64 (2 * y7)) 2))))), (161, .int .i64 (w64 (2 * y7))), (162, .int .i64 (mn (w64 (1 + y1)) (w64 (Int.tdiv (w64 (2 * y7)) 2))))] (ac (hE322 25 (by decide)) (ac (hE322 28 (by decide)) (ac (hE322 29 (by decide)) an))) ?_
                              refine r_callf Try.call37 (scutagelaw15_vector_ok (w64 (2 * y7)) (mn (w64 (1 + y1)) (w64 (Int.tdiv (w64 (2 * y7)) 2))) y144 H324 hy145) ?_ (wn_t rfl rfl (by decide) rfl hb143)
                              rintro e330 wd329 ⟨A333, n334, c335, rfl, H332⟩
                              obtain rfl := (H332.g0).leneq
                              refine ⟨_, rfl, ?_⟩
                              exact r_nil (n_lp ⟨_, rfl, (.tuple #[.slice A333 y144.length c335]), rfl, H332⟩)
                            · intro η133 wd339 Δ340 hE336 hR337 H338
                              have H338 : Hp w0 ((Δ340 ++ (Row K38 (.slice A52 o41.f_l.length c54) o41.f_l :: Bx b51 75 [.slice A52 o41.f_l.length c54] :: Row K3 (.slice A83 y70.Vector.length c85) y70.Vector :: Bx b97 59 [.int .i64 y70.Income, .int .i64 y70.Expired, .int .i64 y70.Used, .int .i64 y70.New, .int .i64 y70.Taxable, .int .i64 y70.Tax, .slice A83 y70.Vector.length c85] :: Row K38 (.slice A87 o76.f_l.length c89) o76.f_l :: Bx b86 75 [.slice A87 o76.f_l.length c89] :: Γ))) wd339 := H338
                              refine sp_op [(158, .bool (y137 == w64 (w64 (1 + y1) - mn (w64 (1 + y1)) (w64 (Int.tdiv (w64 (2 * y7)) 2))))), (160, .slice A83 y70.Vector.length c85), (163, .slice (vA ((η133 30).1)) y144.length (vC ((η133 30).1)))] (ac (hE336 25 (by decide)) (ac (hE336 27 (by decide)) (ac (hE336 30 (by decide)) an))) ?_
                              refine r_callf Try.call20 (scutagekeep_Same_int_ok y70.Vector A83 y70.Vector.length c85 rfl ((((H338)).tl.g2).cap) (fun _ H => ((H).tl.g2.rd)) y144 (vA ((η133 30).1)) y144.length (vC ((η133 30).1)) rfl (((show (Row K3 (.slice (vA ((η133 30).1)) y144.length (vC ((η133 30).1))) y144) _ from ((H338)).memr (hR337 _ (List.mem_of_getElem? (i := 0) rfl) rfl))).cap) (fun _ H => ((show (Row K3 (.slice (vA ((η133 30).1)) y144.length (vC ((η133 30).1))) y144) _ from (H).memr (hR337 _ (List.mem_of_getElem? (i := 0) rfl) rfl)).rd)) y153 H338 hy154) ?_ (wn_t rfl rfl (by decide) rfl hb143)
                              rintro e344 wd343 ⟨rfl, H346⟩
                              refine ⟨_, rfl, ?_⟩
                              exact r_nil (n_lp ⟨_, rfl, undef, rfl, H346⟩)
                            · intro η133 wd350 Δ351 hE347 hR348 H349
                              have H349 : Hp w0 ((Δ351 ++ (Row K38 (.slice A52 o41.f_l.length c54) o41.f_l :: Bx b51 75 [.slice A52 o41.f_l.length c54] :: Row K3 (.slice A83 y70.Vector.length c85) y70.Vector :: Bx b97 59 [.int .i64 y70.Income, .int .i64 y70.Expired, .int .i64 y70.Used, .int .i64 y70.New, .int .i64 y70.Taxable, .int .i64 y70.Tax, .slice A83 y70.Vector.length c85] :: Row K38 (.slice A87 o76.f_l.length c89) o76.f_l :: Bx b86 75 [.slice A87 o76.f_l.length c89] :: Γ))) wd350 := H349
                              refine sp_op [(158, .bool (y137 == w64 (w64 (1 + y1) - mn (w64 (1 + y1)) (w64 (Int.tdiv (w64 (2 * y7)) 2))))), (164, .bool y153)] (ac (hE347 25 (by decide)) (ac (hE347 31 (by decide)) an)) ?_
                              refine r_pick_t (.bool y153) hb143 rfl rfl ?_
                              exact r_nil (n_lp ⟨_, rfl, undef, rfl, H349⟩)
                            · intro η133 wd355 Δ356 hE352 hR353 H354
                              have H354 : Hp w0 ((Δ356 ++ (Row K38 (.slice A52 o41.f_l.length c54) o41.f_l :: Bx b51 75 [.slice A52 o41.f_l.length c54] :: Row K3 (.slice A83 y70.Vector.length c85) y70.Vector :: Bx b97 59 [.int .i64 y70.Income, .int .i64 y70.Expired, .int .i64 y70.Used, .int .i64 y70.New, .int .i64 y70.Taxable, .int .i64 y70.Tax, .slice A83 y70.Vector.length c85] :: Row K38 (.slice A87 o76.f_l.length c89) o76.f_l :: Bx b86 75 [.slice A87 o76.f_l.length c89] :: Γ))) wd355 := H354
                              refine sp_op [(165, .bool y153)] (ac (hE352 32 (by decide)) an) ?_
                              refine r_pure (.bool y153) rfl ?_
                              exact r_nil (n_lp ⟨_, rfl, undef, rfl, H354⟩)
                            · intro η133 wd360 Δ361 hE357 hR358 H359
                              have H359 : Hp w0 ((Δ361 ++ (Row K38 (.slice A52 o41.f_l.length c54) o41.f_l :: Bx b51 75 [.slice A52 o41.f_l.length c54] :: Row K3 (.slice A83 y70.Vector.length c85) y70.Vector :: Bx b97 59 [.int .i64 y70.Income, .int .i64 y70.Expired, .int .i64 y70.Used, .int .i64 y70.New, .int .i64 y70.Taxable, .int .i64 y70.Tax, .slice A83 y70.Vector.length c85] :: Row K38 (.slice A87 o76.f_l.length c89) o76.f_l :: Bx b86 75 [.slice A87 o76.f_l.length c89] :: Γ))) wd360 := H359
                              refine sp_op [(166, .bool y153)] (ac (hE357 33 (by decide)) an) ?_
                              refine r_callf Try.call36 (scutagelaw15_wakes_ok  y160 H359 hy161) ?_ (wn_t rfl rfl (by decide) rfl hb159)
                              rintro e365 wd364 ⟨rfl, H367⟩
                              refine ⟨_, rfl, ?_⟩
                              exact r_nil (n_lp ⟨_, rfl, undef, rfl, H367⟩)
                            · intro η133 wd371 Δ372 hE368 hR369 H370
                              have H370 : Hp w0 ((Δ372 ++ (Row K38 (.slice A52 o41.f_l.length c54) o41.f_l :: Bx b51 75 [.slice A52 o41.f_l.length c54] :: Row K3 (.slice A83 y70.Vector.length c85) y70.Vector :: Bx b97 59 [.int .i64 y70.Income, .int .i64 y70.Expired, .int .i64 y70.Used, .int .i64 y70.New, .int .i64 y70.Taxable, .int .i64 y70.Tax, .slice A83 y70.Vector.length c85] :: Row K38 (.slice A87 o76.f_l.length c89) o76.f_l :: Bx b86 75 [.slice A87 o76.f_l.length c89] :: Γ))) wd371 := H370
                              refine sp_op [(166, .bool y153), (167, .bool y160)] (ac (hE368 33 (by decide)) (ac (hE368 34 (by decide)) an)) ?_
                              refine r_pick_t (.bool y160) hb159 rfl rfl ?_
                              exact r_nil (n_lp ⟨_, rfl, undef, rfl, H370⟩)
                            · intro η133 wd376 Δ377 hE373 hR374 H375
                              have H375 : Hp w0 ((Δ377 ++ (Row K38 (.slice A52 o41.f_l.length c54) o41.f_l :: Bx b51 75 [.slice A52 o41.f_l.length c54] :: Row K3 (.slice A83 y70.Vector.length c85) y70.Vector :: Bx b97 59 [.int .i64 y70.Income, .int .i64 y70.Expired, .int .i64 y70.Used, .int .i64 y70.New, .int .i64 y70.Taxable, .int .i64 y70.Tax, .slice A83 y70.Vector.length c85] :: Row K38 (.slice A87 o76.f_l.length c89) o76.f_l :: Bx b86 75 [.slice A87 o76.f_l.length c89] :: Γ))) wd376 := H375
                              refine sp_op [(168, .bool y160)] (ac (hE373 35 (by decide)) an) ?_
                              refine r_pure (.bool y160) rfl ?_
                              exact r_nil (n_lp ⟨_, rfl, undef, rfl, H375⟩)
                            · intro η133 wd379 hV380 H378
                              have H381 : Hp w0 (Row K3 (.slice (vA ((η133 30).1)) y144.length (vC ((η133 30).1))) y144 :: Row K38 (.slice A52 o41.f_l.length c54) o41.f_l :: Bx b51 75 [.slice A52 o41.f_l.length c54] :: Row K3 (.slice A83 y70.Vector.length c85) y70.Vector :: Bx b97 59 [.int .i64 y70.Income, .int .i64 y70.Expired, .int .i64 y70.Used, .int .i64 y70.New, .int .i64 y70.Taxable, .int .i64 y70.Tax, .slice A83 y70.Vector.length c85] :: Row K38 (.slice A87 o76.f_l.length c89) o76.f_l :: Bx b86 75 [.slice A87 o76.f_l.length c89] :: Γ) wd379 := H378
                              refine n_frame [(8, .bool y160)] (ac (hV380 36 rfl) an) ?_
                              refine n_cut ⟨y160, upk (ac rfl an), H381.d.d.d.d.d.d.d, hm⟩
                          · refine Flow.run' [[], [0], [0, 1], [0, 1, 2], [0, 1, 2, 3], [0, 1, 2, 3, 4], [0, 1, 2, 3], [0, 1, 2, 3, 4, 5, 6], [0, 1, 2, 3, 4, 5, 6, 7], [0, 1, 2, 3, 4, 5, 6, 7, 8], [0, 1, 2, 3, 4, 5, 6, 7, 8, 9], [0, 1, 2, 3, 4, 5, 6, 7, 8, 9, 10], [0, 1, 2, 3, 4, 5, 6, 7, 8, 9], [0, 1, 2, 3, 4, 5, 6, 7, 8, 9], [0, 1, 2, 3, 4, 5, 6, 7, 8, 9, 12, 13], [0, 1, 2, 3, 4, 5, 6, 7, 8, 9, 10, 11, 12, 13, 14], [0, 1, 2, 3, 4, 5, 6, 7, 8, 9, 10, 11, 12, 13, 14, 15], [0, 1, 2, 3, 4, 5, 6, 7, 8, 9, 10, 11, 12, 13, 14, 15, 16], [0, 1, 2, 3, 4, 5, 6, 7, 8, 9, 10, 11, 12, 13, 14, 15, 16, 17], [0, 1, 2, 3, 4, 5, 6, 7, 8, 9, 10, 11, 12, 13, 14, 15, 16, 17, 18], [0, 1, 2, 3, 4, 5, 6, 7, 8, 9, 10, 11, 12, 13, 14, 15, 16, 17], [0, 1, 2, 3, 4, 5, 6, 7, 8, 9, 10, 11, 12, 13, 14, 15, 16, 17], [0, 1, 2, 3, 4, 5, 6, 7, 8, 9, 10, 11, 12, 13, 14, 15, 16, 17, 20, 21], [0, 1, 2, 3, 4, 5, 6, 7, 8, 9, 10, 11, 12, 13, 14, 15, 16, 17, 18, 19, 20, 21, 22], [0, 1, 2, 3, 4, 5, 6, 7, 8, 9, 10, 11, 12, 13, 14, 15, 16, 17, 18, 19, 20, 21, 22, 23], [0, 1, 2, 3, 4, 5, 6, 7, 8, 9, 10, 11, 12, 13, 14, 15, 16, 17, 18, 19, 20, 21, 22, 23, 24], [0, 1, 2, 3, 4, 5, 6, 7, 8, 9, 10, 11, 12, 13, 14, 15, 16, 17, 18, 19, 20, 21, 22, 23, 24, 25], [0, 1, 2, 3, 4, 5, 6, 7, 8, 9, 10, 11, 12, 13, 14, 15, 16, 17, 18, 19, 20, 21, 22, 23, 24, 25, 26], [0, 1, 2, 3, 4, 5, 6, 7, 8, 9, 10, 11, 12, 13, 14, 15, 16, 17, 18, 19, 20, 21, 22, 23, 24, 25], [0, 1, 2, 3, 4, 5, 6, 7, 8, 9, 10, 11, 12, 13, 14, 15, 16, 17, 18, 19, 20, 21, 22, 23, 24, 25], [0, 1, 2, 3, 4, 5, 6, 7, 8, 9, 10, 11, 12, 13, 14, 15, 16, 17, 18, 19, 20, 21, 22, 23, 24, 25, 28, 29], [0, 1, 2, 3, 4, 5, 6, 7, 8, 9, 10, 11, 12, 13, 14, 15, 16, 17, 18, 19, 20, 21, 22, 23, 24, 25, 26, 27, 28, 29, 30], [0, 1, 2, 3, 4, 5, 6, 7, 8, 9, 10, 11, 12, 13, 14, 15, 16, 17, 18, 19, 20, 21, 22, 23, 24, 25, 26, 27, 28, 29, 30, 31], [0, 1, 2, 3, 4, 5, 6, 7, 8, 9, 10, 11, 12, 13, 14, 15, 16, 17, 18, 19, 20, 21, 22, 23, 24, 25, 26, 27, 28, 29, 30, 31, 32], [0, 1, 2, 3, 4, 5, 6, 7, 8, 9, 10, 11, 12, 13, 14, 15, 16, 17, 18, 19, 20, 21, 22, 23, 24, 25, 26, 27, 28, 29, 30, 31, 32, 33], [0, 1, 2, 3, 4, 5, 6, 7, 8, 9, 10, 11, 12, 13, 14, 15, 16, 17, 18, 19, 20, 21, 22, 23, 24, 25, 26, 27, 28, 29, 30, 31, 32, 33, 34], [0, 1, 2, 3, 4, 5, 6, 7, 8, 9, 10, 11, 12, 13, 14, 15, 16, 17, 18, 19, 20, 21, 22, 23, 24, 25, 26, 27, 28, 29, 30, 31, 32, 33, 34, 35]] [(133, 0), (134, 1), (135, 2), (136, 3), (137, 4), (138, 5), (139, 6), (140, 7), (141, 8), (142, 9), (143, 10), (144, 11), (145, 12), (146, 13), (147, 14), (148, 15), (149, 16), (150, 17), (151, 18), (152, 19), (153, 20), (154, 21), (155, 22), (156, 23), (157, 24), (158, 25), (159, 26), (160, 27), (161, 28), (162, 29), (163, 30), (164, 31), (165, 32), (166, 33), (167, 34), (168, 35), (8, 36)] [(fun η133 v => v.1 = .pointer (some ⟨b97, 1, none⟩)), (fun η133 v => v.1 = .int .i64 y70.Expired), (fun η133 v => v.1 = .bool (y70.Expired == 0)), (fun η133 v => v.1 = .bool (y70.Expired == 0)), (fun η133 v => v.1 = .pointer (some ⟨b97, 2, none⟩)), (fun η133 v => v.1 = .int .i64 y70.Used), (fun η133 v => v.1 = .int .i64 (mn (w64 (1 + y1)) (w64 (Int.tdiv (w64 (2 * y7)) 2)))), (fun η133 v => v.1 = .bool (y70.Used == mn (w64 (1 + y1)) (w64 (Int.tdiv (w64 (2 * y7)) 2)))), (fun η133 v => v.1 = .bool (y70.Used == mn (w64 (1 + y1)) (w64 (Int.tdiv (w64 (2 * y7)) 2)))), (fun η133 v => v.1 = .bool (y70.Used == mn (w64 (1 + y1)) (w64 (Int.tdiv (w64 (2 * y7)) 2)))), (fun η133 v => v.1 = .pointer (some ⟨b97, 4, none⟩)), (fun η133 v => v.1 = .int .i64 y70.Taxable), (fun η133 v => v.1 = .int .i64 (w64 (2 * y7))), (fun η133 v => v.1 = .int .i64 (mn (w64 (1 + y1)) (w64 (Int.tdiv (w64 (2 * y7)) 2)))), (fun η133 v => v.1 = .int .i64 (w64 (w64 (2 * y7) - mn (w64 (1 + y1)) (w64 (Int.tdiv (w64 (2 * y7)) 2))))), (fun η133 v => v.1 = .bool (y70.Taxable == w64 (w64 (2 * y7) - mn (w64 (1 + y1)) (w64 (Int.tdiv (w64 (2 * y7)) 2))))), (fun η133 v => v.1 = .bool (y70.Taxable == w64 (w64 (2 * y7) - mn (w64 (1 + y1)) (w64 (Int.tdiv (w64 (2 * y7)) 2))))), (fun η133 v => v.1 = .bool (y70.Taxable == w64 (w64 (2 * y7) - mn (w64 (1 + y1)) (w64 (Int.tdiv (w64 (2 * y7)) 2))))), (fun η133 v => v.1 = .pointer (some ⟨b86, 0, none⟩)), (fun η133 v => v.1 = .int .i64 y137), (fun η133 v => v.1 = .int .i64 (w64 (1 + y1))), (fun η133 v => v.1 = .int .i64 (mn (w64 (1 + y1)) (w64 (Int.tdiv (w64 (2 * y7)) 2)))), (fun η133 v => v.1 = .int .i64 (w64 (w64 (1 + y1) - mn (w64 (1 + y1)) (w64 (Int.tdiv (w64 (2 * y7)) 2))))), (fun η133 v => v.1 = .bool (y137 == w64 (w64 (1 + y1) - mn (w64 (1 + y1)) (w64 (Int.tdiv (w64 (2 * y7)) 2))))), (fun η133 v => v.1 = .bool (y137 == w64 (w64 (1 + y1) - mn (w64 (1 + y1)) (w64 (Int.tdiv (w64 (2 * y7)) 2))))), (fun η133 v => v.1 = .bool (y137 == w64 (w64 (1 + y1) - mn (w64 (1 + y1)) (w64 (Int.tdiv (w64 (2 * y7)) 2))))), (fun η133 v => v.1 = .pointer (some ⟨b97, 6, none⟩)), (fun η133 v => v.1 = .slice A83 y70.Vector.length c85), (fun η133 v => v.1 = .int .i64 (w64 (2 * y7))), (fun η133 v => v.1 = .int .i64 (mn (w64 (1 + y1)) (w64 (Int.tdiv (w64 (2 * y7)) 2)))), (fun η133 v => v.1 = .slice (vA (v.1)) y144.length (vC (v.1))), (fun η133 v => v.1 = .bool y153), (fun η133 v => v.1 = .bool y153), (fun η133 v => v.1 = .bool y153), (fun η133 v => v.1 = undef), (fun η133 v => v.1 = .bool false), (fun η133 v => v.1 = .bool false)] [⟨(some 30), none, fun η133 => Row K3 (.slice (vA ((η133 30).1)) y144.length (vC ((η133 30).1))) y144⟩] rfl (by kernel_rfl) (by kernel_rfl) H103 ⟨?_, ?_, ?_, ?_, ?_, ?_, ?_, ?_, ?_, ?_, ?_, ?_, ?_, ?_, ?_, ?_, ?_, ?_, ?_, ?_, ?_, ?_, ?_, ?_, ?_, ?_, ?_, ?_, ?_, ?_, ?_, ?_, ?_, ?_, ?_, ?_, ?_, trivial⟩ ?_
                            · intro η133 wd385 Δ386 hE382 hR383 H384
                              have H384 : Hp w0 ((Δ386 ++ (Row K38 (.slice A52 o41.f_l.length c54) o41.f_l :: Bx b51 75 [.slice A52 o41.f_l.length c54] :: Row K3 (.slice A83 y70.Vector.length c85) y70.Vector :: Bx b97 59 [.int .i64 y70.Income, .int .i64 y70.Expired, .int .i64 y70.Used, .int .i64 y70.New, .int .i64 y70.Taxable, .int .i64 y70.Tax, .slice A83 y70.Vector.length c85] :: Row K38 (.slice A87 o76.f_l.length c89) o76.f_l :: Bx b86 75 [.slice A87 o76.f_l.length c89] :: Γ))) wd385 := H384
                              refine sp_op [(12, .pointer (some ⟨b97, 0, none⟩))] (ac rfl an) ?_
                              refine r_fa FA59_1 ⟨b97, 1, none⟩ rfl rfl ?_
                              exact r_nil (n_lp ⟨_, rfl, undef, rfl, H384⟩)
                            · intro η133 wd390 Δ391 hE387 hR388 H389
                              have H389 : Hp w0 ((Δ391 ++ (Row K38 (.slice A52 o41.f_l.length c54) o41.f_l :: Bx b51 75 [.slice A52 o41.f_l.length c54] :: Row K3 (.slice A83 y70.Vector.length c85) y70.Vector :: Bx b97 59 [.int .i64 y70.Income, .int .i64 y70.Expired, .int .i64 y70.Used, .int .i64 y70.New, .int .i64 y70.Taxable, .int .i64 y70.Tax, .slice A83 y70.Vector.length c85] :: Row K38 (.slice A87 o76.f_l.length c89) o76.f_l :: Bx b86 75 [.slice A87 o76.f_l.length c89] :: Γ))) wd390 := H389
                              refine sp_op [(133, .pointer (some ⟨b97, 1, none⟩))] (ac (hE387 0 (by decide)) an) ?_
                              refine r_ld1 (.int .i64 y70.Expired) LD3 rfl (((H389).tl.g3).cell _ rfl) ?_
                              exact r_nil (n_lp ⟨_, rfl, undef, rfl, H389⟩)
                            · intro η133 wd395 Δ396 hE392 hR393 H394
                              have H394 : Hp w0 ((Δ396 ++ (Row K38 (.slice A52 o41.f_l.length c54) o41.f_l :: Bx b51 75 [.slice A52 o41.f_l.length c54] :: Row K3 (.slice A83 y70.Vector.length c85) y70.Vector :: Bx b97 59 [.int .i64 y70.Income, .int .i64 y70.Expired, .int .i64 y70.Used, .int .i64 y70.New, .int .i64 y70.Taxable, .int .i64 y70.Tax, .slice A83 y70.Vector.length c85] :: Row K38 (.slice A87 o76.f_l.length c89) o76.f_l :: Bx b86 75 [.slice A87 o76.f_l.length c89] :: Γ))) wd395 := H394
                              refine sp_op [(134, .int .i64 y70.Expired)] (ac (hE392 1 (by decide)) an) ?_
                              refine r_pure (.bool (y70.Expired == 0)) rfl ?_
                              exact r_nil (n_lp ⟨_, rfl, undef, rfl, H394⟩)
                            · intro η133 wd400 Δ401 hE397 hR398 H399
                              have H399 : Hp w0 ((Δ401 ++ (Row K38 (.slice A52 o41.f_l.length c54) o41.f_l :: Bx b51 75 [.slice A52 o41.f_l.length c54] :: Row K3 (.slice A83 y70.Vector.length c85) y70.Vector :: Bx b97 59 [.int .i64 y70.Income, .int .i64 y70.Expired, .int .i64 y70.Used, .int .i64 y70.New, .int .i64 y70.Taxable, .int .i64 y70.Tax, .slice A83 y70.Vector.length c85] :: Row K38 (.slice A87 o76.f_l.length c89) o76.f_l :: Bx b86 75 [.slice A87 o76.f_l.length c89] :: Γ))) wd400 := H399
                              refine sp_op [(135, .bool (y70.Expired == 0))] (ac (hE397 2 (by decide)) an) ?_
                              refine r_pure (.bool (y70.Expired == 0)) rfl ?_
                              exact r_nil (n_lp ⟨_, rfl, undef, rfl, H399⟩)
                            · intro η133 wd405 Δ406 hE402 hR403 H404
                              have H404 : Hp w0 ((Δ406 ++ (Row K38 (.slice A52 o41.f_l.length c54) o41.f_l :: Bx b51 75 [.slice A52 o41.f_l.length c54] :: Row K3 (.slice A83 y70.Vector.length c85) y70.Vector :: Bx b97 59 [.int .i64 y70.Income, .int .i64 y70.Expired, .int .i64 y70.Used, .int .i64 y70.New, .int .i64 y70.Taxable, .int .i64 y70.Tax, .slice A83 y70.Vector.length c85] :: Row K38 (.slice A87 o76.f_l.length c89) o76.f_l :: Bx b86 75 [.slice A87 o76.f_l.length c89] :: Γ))) wd405 := H404
                              refine sp_op [(12, .pointer (some ⟨b97, 0, none⟩)), (136, .bool (y70.Expired == 0))] (ac rfl (ac (hE402 3 (by decide)) an)) ?_
                              refine r_fa FA59_2 ⟨b97, 2, none⟩ rfl rfl ?_ (wn_t rfl rfl (by decide) rfl hb134)
                              exact r_nil (n_lp ⟨_, rfl, undef, rfl, H404⟩)
                            · intro η133 wd410 Δ411 hE407 hR408 H409
                              have H409 : Hp w0 ((Δ411 ++ (Row K38 (.slice A52 o41.f_l.length c54) o41.f_l :: Bx b51 75 [.slice A52 o41.f_l.length c54] :: Row K3 (.slice A83 y70.Vector.length c85) y70.Vector :: Bx b97 59 [.int .i64 y70.Income, .int .i64 y70.Expired, .int .i64 y70.Used, .int .i64 y70.New, .int .i64 y70.Taxable, .int .i64 y70.Tax, .slice A83 y70.Vector.length c85] :: Row K38 (.slice A87 o76.f_l.length c89) o76.f_l :: Bx b86 75 [.slice A87 o76.f_l.length c89] :: Γ))) wd410 := H409
                              refine sp_op [(136, .bool (y70.Expired == 0)), (137, .pointer (some ⟨b97, 2, none⟩))] (ac (hE407 3 (by decide)) (ac (hE407 4 (by decide)) an)) ?_
                              refine r_ld1 (.int .i64 y70.Used) LD3 rfl (((H409).tl.g3).cell _ rfl) ?_ (wn_t rfl rfl (by decide) rfl hb134)
                              exact r_nil (n_lp ⟨_, rfl, undef, rfl, H409⟩)
                            · intro η133 wd415 Δ416 hE412 hR413 H414
                              have H414 : Hp w0 ((Δ416 ++ (Row K38 (.slice A52 o41.f_l.length c54) o41.f_l :: Bx b51 75 [.slice A52 o41.f_l.length c54] :: Row K3 (.slice A83 y70.Vector.length c85) y70.Vector :: Bx b97 59 [.int .i64 y70.Income, .int .i64 y70.Expired, .int .i64 y70.Used, .int .i64 y70.New, .int .i64 y70.Taxable, .int .i64 y70.Tax, .slice A83 y70.Vector.length c85] :: Row K38 (.slice A87 o76.f_l.length c89) o76.f_l :: Bx b86 75 [.slice A87 o76.f_l.length c89] :: Γ))) wd415 := H414
                              refine sp_op [(14, .int .i64 (mn (w64 (1 + y1)) (w64 (Int.tdiv (w64 (2 * y7)) 2)))), (136, .bool (y70.Expired == 0))] (ac rfl (ac (hE412 3 (by decide)) an)) ?_
                              refine r_pure (.int .i64 (mn (w64 (1 + y1)) (w64 (Int.tdiv (w64 (2 * y7)) 2)))) rfl ?_ (wn_t rfl rfl (by decide) rfl hb134)
                              exact r_nil (n_lp ⟨_, rfl, undef, rfl, H414⟩)
                            · intro η133 wd420 Δ421 hE417 hR418 H419
                              have H419 : Hp w0 ((Δ421 ++ (Row K38 (.slice A52 o41.f_l.length c54) o41.f_l :: Bx b51 75 [.slice A52 o41.f_l.length c54] :: Row K3 (.slice A83 y70.Vector.length c85) y70.Vector :: Bx b97 59 [.int .i64 y70.Income, .int .i64 y70.Expired, .int .i64 y70.Used, .int .i64 y70.New, .int .i64 y70.Taxable, .int .i64 y70.Tax, .slice A83 y70.Vector.length c85] :: Row K38 (.slice A87 o76.f_l.length c89) o76.f_l :: Bx b86 75 [.slice A87 o76.f_l.length c89] :: Γ))) wd420 := H419
                              refine sp_op [(136, .bool (y70.Expired == 0)), (138, .int .i64 y70.Used), (139, .int .i64 (mn (w64 (1 + y1)) (w64 (Int.tdiv (w64 (2 * y7)) 2))))] (ac (hE417 3 (by decide)) (ac (hE417 5 (by decide)) (ac (hE417 6 (by decide)) an))) ?_
                              refine r_pure (.bool (y70.Used == mn (w64 (1 + y1)) (w64 (Int.tdiv (w64 (2 * y7)) 2)))) rfl ?_ (wn_t rfl rfl (by decide) rfl hb134)
                              exact r_nil (n_lp ⟨_, rfl, undef, rfl, H419⟩)
                            · intro η133 wd425 Δ426 hE422 hR423 H424
                              have H424 : Hp w0 ((Δ426 ++ (Row K38 (.slice A52 o41.f_l.length c54) o41.f_l :: Bx b51 75 [.slice A52 o41.f_l.length c54] :: Row K3 (.slice A83 y70.Vector.length c85) y70.Vector :: Bx b97 59 [.int .i64 y70.Income, .int .i64 y70.Expired, .int .i64 y70.Used, .int .i64 y70.New, .int .i64 y70.Taxable, .int .i64 y70.Tax, .slice A83 y70.Vector.length c85] :: Row K38 (.slice A87 o76.f_l.length c89) o76.f_l :: Bx b86 75 [.slice A87 o76.f_l.length c89] :: Γ))) wd425 := H424
                              refine sp_op [(136, .bool (y70.Expired == 0)), (140, .bool (y70.Used == mn (w64 (1 + y1)) (w64 (Int.tdiv (w64 (2 * y7)) 2))))] (ac (hE422 3 (by decide)) (ac (hE422 7 (by decide)) an)) ?_
                              refine r_pick_t (.bool (y70.Used == mn (w64 (1 + y1)) (w64 (Int.tdiv (w64 (2 * y7)) 2)))) hb134 rfl rfl ?_
                              exact r_nil (n_lp ⟨_, rfl, undef, rfl, H424⟩)
                            · intro η133 wd430 Δ431 hE427 hR428 H429
                              have H429 : Hp w0 ((Δ431 ++ (Row K38 (.slice A52 o41.f_l.length c54) o41.f_l :: Bx b51 75 [.slice A52 o41.f_l.length c54] :: Row K3 (.slice A83 y70.Vector.length c85) y70.Vector :: Bx b97 59 [.int .i64 y70.Income, .int .i64 y70.Expired, .int .i64 y70.Used, .int .i64 y70.New, .int .i64 y70.Taxable, .int .i64 y70.Tax, .slice A83 y70.Vector.length c85] :: Row K38 (.slice A87 o76.f_l.length c89) o76.f_l :: Bx b86 75 [.slice A87 o76.f_l.length c89] :: Γ))) wd430 := H429
                              refine sp_op [(141, .bool (y70.Used == mn (w64 (1 + y1)) (w64 (Int.tdiv (w64 (2 * y7)) 2))))] (ac (hE427 8 (by decide)) an) ?_
                              refine r_pure (.bool (y70.Used == mn (w64 (1 + y1)) (w64 (Int.tdiv (w64 (2 * y7)) 2)))) rfl ?_
                              exact r_nil (n_lp ⟨_, rfl, undef, rfl, H429⟩)
                            · intro η133 wd435 Δ436 hE432 hR433 H434
                              have H434 : Hp w0 ((Δ436 ++ (Row K38 (.slice A52 o41.f_l.length c54) o41.f_l :: Bx b51 75 [.slice A52 o41.f_l.length c54] :: Row K3 (.slice A83 y70.Vector.length c85) y70.Vector :: Bx b97 59 [.int .i64 y70.Income, .int .i64 y70.Expired, .int .i64 y70.Used, .int .i64 y70.New, .int .i64 y70.Taxable, .int .i64 y70.Tax, .slice A83 y70.Vector.length c85] :: Row K38 (.slice A87 o76.f_l.length c89) o76.f_l :: Bx b86 75 [.slice A87 o76.f_l.length c89] :: Γ))) wd435 := H434
                              refine sp_op [(12, .pointer (some ⟨b97, 0, none⟩)), (142, .bool (y70.Used == mn (w64 (1 + y1)) (w64 (Int.tdiv (w64 (2 * y7)) 2))))] (ac rfl (ac (hE432 9 (by decide)) an)) ?_
                              refine r_fa FA59_4 ⟨b97, 4, none⟩ rfl rfl ?_ (wn_t rfl rfl (by decide) rfl hb135)
                              exact r_nil (n_lp ⟨_, rfl, undef, rfl, H434⟩)
                            · intro η133 wd440 Δ441 hE437 hR438 H439
                              have H439 : Hp w0 ((Δ441 ++ (Row K38 (.slice A52 o41.f_l.length c54) o41.f_l :: Bx b51 75 [.slice A52 o41.f_l.length c54] :: Row K3 (.slice A83 y70.Vector.length c85) y70.Vector :: Bx b97 59 [.int .i64 y70.Income, .int .i64 y70.Expired, .int .i64 y70.Used, .int .i64 y70.New, .int .i64 y70.Taxable, .int .i64 y70.Tax, .slice A83 y70.Vector.length c85] :: Row K38 (.slice A87 o76.f_l.length c89) o76.f_l :: Bx b86 75 [.slice A87 o76.f_l.length c89] :: Γ))) wd440 := H439
                              refine sp_op [(142, .bool (y70.Used == mn (w64 (1 + y1)) (w64 (Int.tdiv (w64 (2 * y7)) 2)))), (143, .pointer (some ⟨b97, 4, none⟩))] (ac (hE437 9 (by decide)) (ac (hE437 10 (by decide)) an)) ?_
                              refine r_ld1 (.int .i64 y70.Taxable) LD3 rfl (((H439).tl.g3).cell _ rfl) ?_ (wn_t rfl rfl (by decide) rfl hb135)
                              exact r_nil (n_lp ⟨_, rfl, undef, rfl, H439⟩)
                            · intro η133 wd445 Δ446 hE442 hR443 H444
                              have H444 : Hp w0 ((Δ446 ++ (Row K38 (.slice A52 o41.f_l.length c54) o41.f_l :: Bx b51 75 [.slice A52 o41.f_l.length c54] :: Row K3 (.slice A83 y70.Vector.length c85) y70.Vector :: Bx b97 59 [.int .i64 y70.Income, .int .i64 y70.Expired, .int .i64 y70.Used, .int .i64 y70.New, .int .i64 y70.Taxable, .int .i64 y70.Tax, .slice A83 y70.Vector.length c85] :: Row K38 (.slice A87 o76.f_l.length c89) o76.f_l :: Bx b86 75 [.slice A87 o76.f_l.length c89] :: Γ))) wd445 := H444
                              refine sp_op [(1, .int .i64 (w64 (2 * y7))), (142, .bool (y70.Used == mn (w64 (1 + y1)) (w64 (Int.tdiv (w64 (2 * y7)) 2))))] (ac rfl (ac (hE442 9 (by decide)) an)) ?_
                              refine r_pure (.int .i64 (w64 (2 * y7))) rfl ?_ (wn_t rfl rfl (by decide) rfl hb135)
                              exact r_nil (n_lp ⟨_, rfl, undef, rfl, H444⟩)
                            · intro η133 wd450 Δ451 hE447 hR448 H449
                              have H449 : Hp w0 ((Δ451 ++ (Row K38 (.slice A52 o41.f_l.length c54) o41.f_l :: Bx b51 75 [.slice A52 o41.f_l.length c54] :: Row K3 (.slice A83 y70.Vector.length c85) y70.Vector :: Bx b97 59 [.int .i64 y70.Income, .int .i64 y70.Expired, .int .i64 y70.Used, .int .i64 y70.New, .int .i64 y70.Taxable, .int .i64 y70.Tax, .slice A83 y70.Vector.length c85] :: Row K38 (.slice A87 o76.f_l.length c89) o76.f_l :: Bx b86 75 [.slice A87 o76.f_l.length c89] :: Γ))) wd450 := H449
                              refine sp_op [(14, .int .i64 (mn (w64 (1 + y1)) (w64 (Int.tdiv (w64 (2 * y7)) 2)))), (142, .bool (y70.Used == mn (w64 (1 + y1)) (w64 (Int.tdiv (w64 (2 * y7)) 2))))] (ac rfl (ac (hE447 9 (by decide)) an)) ?_
                              refine r_pure (.int .i64 (mn (w64 (1 + y1)) (w64 (Int.tdiv (w64 (2 * y7)) 2)))) rfl ?_ (wn_t rfl rfl (by decide) rfl hb135)
                              exact r_nil (n_lp ⟨_, rfl, undef, rfl, H449⟩)
                            · intro η133 wd455 Δ456 hE452 hR453 H454
                              have H454 : Hp w0 ((Δ456 ++ (Row K38 (.slice A52 o41.f_l.length c54) o41.f_l :: Bx b51 75 [.slice A52 o41.f_l.length c54] :: Row K3 (.slice A83 y70.Vector.length c85) y70.Vector :: Bx b97 59 [.int .i64 y70.Income, .int .i64 y70.Expired, .int .i64 y70.Used, .int .i64 y70.New, .int .i64 y70.Taxable, .int .i64 y70.Tax, .slice A83 y70.Vector.length c85] :: Row K38 (.slice A87 o76.f_l.length c89) o76.f_l :: Bx b86 75 [.slice A87 o76.f_l.length c89] :: Γ))) wd455 := H454
                              refine sp_op [(142, .bool (y70.Used == mn (w64 (1 + y1)) (w64 (Int.tdiv (w64 (2 * y7)) 2)))), (145, .int .i64 (w64 (2 * y7))), (146, .int .i64 (mn (w64 (1 + y1)) (w64 (Int.tdiv (w64 (2 * y7)) 2))))] (ac (hE452 9 (by decide)) (ac (hE452 12 (by decide)) (ac (hE452 13 (by decide)) an))) ?_
                              refine r_pure (.int .i64 (w64 (w64 (2 * y7) - mn (w64 (1 + y1)) (w64 (Int.tdiv (w64 (2 * y7)) 2))))) rfl ?_ (wn_t rfl rfl (by decide) rfl hb135)
                              exact r_nil (n_lp ⟨_, rfl, undef, rfl, H454⟩)
                            · intro η133 wd460 Δ461 hE457 hR458 H459
                              have H459 : Hp w0 ((Δ461 ++ (Row K38 (.slice A52 o41.f_l.length c54) o41.f_l :: Bx b51 75 [.slice A52 o41.f_l.length c54] :: Row K3 (.slice A83 y70.Vector.length c85) y70.Vector :: Bx b97 59 [.int .i64 y70.Income, .int .i64 y70.Expired, .int .i64 y70.Used, .int .i64 y70.New, .int .i64 y70.Taxable, .int .i64 y70.Tax, .slice A83 y70.Vector.length c85] :: Row K38 (.slice A87 o76.f_l.length c89) o76.f_l :: Bx b86 75 [.slice A87 o76.f_l.length c89] :: Γ))) wd460 := H459
                              refine sp_op [(142, .bool (y70.Used == mn (w64 (1 + y1)) (w64 (Int.tdiv (w64 (2 * y7)) 2)))), (144, .int .i64 y70.Taxable), (147, .int .i64 (w64 (w64 (2 * y7) - mn (w64 (1 + y1)) (w64 (Int.tdiv (w64 (2 * y7)) 2)))))] (ac (hE457 9 (by decide)) (ac (hE457 11 (by decide)) (ac (hE457 14 (by decide)) an))) ?_
                              refine r_pure (.bool (y70.Taxable == w64 (w64 (2 * y7) - mn (w64 (1 + y1)) (w64 (Int.tdiv (w64 (2 * y7)) 2))))) rfl ?_ (wn_t rfl rfl (by decide) rfl hb135)
                              exact r_nil (n_lp ⟨_, rfl, undef, rfl, H459⟩)
                            · intro η133 wd465 Δ466 hE462 hR463 H464
                              have H464 : Hp w0 ((Δ466 ++ (Row K38 (.slice A52 o41.f_l.length c54) o41.f_l :: Bx b51 75 [.slice A52 o41.f_l.length c54] :: Row K3 (.slice A83 y70.Vector.length c85) y70.Vector :: Bx b97 59 [.int .i64 y70.Income, .int .i64 y70.Expired, .int .i64 y70.Used, .int .i64 y70.New, .int .i64 y70.Taxable, .int .i64 y70.Tax, .slice A83 y70.Vector.length c85] :: Row K38 (.slice A87 o76.f_l.length c89) o76.f_l :: Bx b86 75 [.slice A87 o76.f_l.length c89] :: Γ))) wd465 := H464
                              refine sp_op [(142, .bool (y70.Used == mn (w64 (1 + y1)) (w64 (Int.tdiv (w64 (2 * y7)) 2)))), (148, .bool (y70.Taxable == w64 (w64 (2 * y7) - mn (w64 (1 + y1)) (w64 (Int.tdiv (w64 (2 * y7)) 2)))))] (ac (hE462 9 (by decide)) (ac (hE462 15 (by decide)) an)) ?_
                              refine r_pick_t (.bool (y70.Taxable == w64 (w64 (2 * y7) - mn (w64 (1 + y1)) (w64 (Int.tdiv (w64 (2 * y7)) 2))))) hb135 rfl rfl ?_
                              exact r_nil (n_lp ⟨_, rfl, undef, rfl, H464⟩)
                            · intro η133 wd470 Δ471 hE467 hR468 H469
                              have H469 : Hp w0 ((Δ471 ++ (Row K38 (.slice A52 o41.f_l.length c54) o41.f_l :: Bx b51 75 [.slice A52 o41.f_l.length c54] :: Row K3 (.slice A83 y70.Vector.length c85) y70.Vector :: Bx b97 59 [.int .i64 y70.Income, .int .i64 y70.Expired, .int .i64 y70.Used, .int .i64 y70.New, .int .i64 y70.Taxable, .int .i64 y70.Tax, .slice A83 y70.Vector.length c85] :: Row K38 (.slice A87 o76.f_l.length c89) o76.f_l :: Bx b86 75 [.slice A87 o76.f_l.length c89] :: Γ))) wd470 := H469
                              refine sp_op [(149, .bool (y70.Taxable == w64 (w64 (2 * y7) - mn (w64 (1 + y1)) (w64 (Int.tdiv (w64 (2 * y7)) 2)))))] (ac (hE467 16 (by decide)) an) ?_
                              refine r_pure (.bool (y70.Taxable == w64 (w64 (2 * y7) - mn (w64 (1 + y1)) (w64 (Int.tdiv (w64 (2 * y7)) 2))))) rfl ?_
                              exact r_nil (n_lp ⟨_, rfl, undef, rfl, H469⟩)
                            · intro η133 wd475 Δ476 hE472 hR473 H474
                              have H474 : Hp w0 ((Δ476 ++ (Row K38 (.slice A52 o41.f_l.length c54) o41.f_l :: Bx b51 75 [.slice A52 o41.f_l.length c54] :: Row K3 (.slice A83 y70.Vector.length c85) y70.Vector :: Bx b97 59 [.int .i64 y70.Income, .int .i64 y70.Expired, .int .i64 y70.Used, .int .i64 y70.New, .int .i64 y70.Taxable, .int .i64 y70.Tax, .slice A83 y70.Vector.length c85] :: Row K38 (.slice A87 o76.f_l.length c89) o76.f_l :: Bx b86 75 [.slice A87 o76.f_l.length c89] :: Γ))) wd475 := H474
                              refine sp_op [(13, .pointer (some ⟨b86, 0, none⟩)), (150, .bool (y70.Taxable == w64 (w64 (2 * y7) - mn (w64 (1 + y1)) (w64 (Int.tdiv (w64 (2 * y7)) 2)))))] (ac rfl (ac (hE472 17 (by decide)) an)) ?_
                              refine r_pure (.pointer (some ⟨b86, 0, none⟩)) rfl ?_ (wn_t rfl rfl (by decide) rfl hb136)
                              exact r_nil (n_lp ⟨_, rfl, undef, rfl, H474⟩)
                            · intro η133 wd480 Δ481 hE477 hR478 H479
                              have H479 : Hp w0 ((Δ481 ++ (Row K38 (.slice A52 o41.f_l.length c54) o41.f_l :: Bx b51 75 [.slice A52 o41.f_l.length c54] :: Row K3 (.slice A83 y70.Vector.length c85) y70.Vector :: Bx b97 59 [.int .i64 y70.Income, .int .i64 y70.Expired, .int .i64 y70.Used, .int .i64 y70.New, .int .i64 y70.Taxable, .int .i64 y70.Tax, .slice A83 y70.Vector.length c85] :: Row K38 (.slice A87 o76.f_l.length c89) o76.f_l :: Bx b86 75 [.slice A87 o76.f_l.length c89] :: Γ))) wd480 := H479
                              refine sp_op [(150, .bool (y70.Taxable == w64 (w64 (2 * y7) - mn (w64 (1 + y1)) (w64 (Int.tdiv (w64 (2 * y7)) 2))))), (151, .pointer (some ⟨b86, 0, none⟩))] (ac (hE477 17 (by decide)) (ac (hE477 18 (by decide)) an)) ?_
                              refine r_callf Try.call23 (vintage_Losses_Left_ok b86 (⟨o76.f_l⟩ : vintage_Losses) A87 o76.f_l.length c89 rfl ((((H479)).tl.g4).cap) (fun _ H => ((H).tl.g4.rd)) (fun _ H => ((H).tl.g5)) y137 H479 hy138) ?_ (wn_t rfl rfl (by decide) rfl hb136)
                              rintro e485 wd484 ⟨rfl, H487⟩
                              refine ⟨_, rfl, ?_⟩
                              exact r_nil (n_lp ⟨_, rfl, undef, rfl, H487⟩)
                            · intro η133 wd491 Δ492 hE488 hR489 H490
                              have H490 : Hp w0 ((Δ492 ++ (Row K38 (.slice A52 o41.f_l.length c54) o41.f_l :: Bx b51 75 [.slice A52 o41.f_l.length c54] :: Row K3 (.slice A83 y70.Vector.length c85) y70.Vector :: Bx b97 59 [.int .i64 y70.Income, .int .i64 y70.Expired, .int .i64 y70.Used, .int .i64 y70.New, .int .i64 y70.Taxable, .int .i64 y70.Tax, .slice A83 y70.Vector.length c85] :: Row K38 (.slice A87 o76.f_l.length c89) o76.f_l :: Bx b86 75 [.slice A87 o76.f_l.length c89] :: Γ))) wd491 := H490
                              refine sp_op [(0, .int .i64 (w64 (1 + y1))), (150, .bool (y70.Taxable == w64 (w64 (2 * y7) - mn (w64 (1 + y1)) (w64 (Int.tdiv (w64 (2 * y7)) 2)))))] (ac rfl (ac (hE488 17 (by decide)) an)) ?_
                              refine r_pure (.int .i64 (w64 (1 + y1))) rfl ?_ (wn_t rfl rfl (by decide) rfl hb136)
                              exact r_nil (n_lp ⟨_, rfl, undef, rfl, H490⟩)
                            · intro η133 wd496 Δ497 hE493 hR494 H495
                              have H495 : Hp w0 ((Δ497 ++ (Row K38 (.slice A52 o41.f_l.length c54) o41.f_l :: Bx b51 75 [.slice A52 o41.f_l.length c54] :: Row K3 (.slice A83 y70.Vector.length c85) y70.Vector :: Bx b97 59 [.int .i64 y70.Income, .int .i64 y70.Expired, .int .i64 y70.Used, .int .i64 y70.New, .int .i64 y70.Taxable, .int .i64 y70.Tax, .slice A83 y70.Vector.length c85] :: Row K38 (.slice A87 o76.f_l.length c89) o76.f_l :: Bx b86 75 [.slice A87 o76.f_l.length c89] :: Γ))) wd496 := H495
                              refine sp_op [(14, .int .i64 (mn (w64 (1 + y1)) (w64 (Int.tdiv (w64 (2 * y7)) 2)))), (150, .bool (y70.Taxable == w64 (w64 (2 * y7) - mn (w64 (1 + y1)) (w64 (Int.tdiv (w64 (2 * y7)) 2)))))] (ac rfl (ac (hE493 17 (by decide)) an)) ?_
                              refine r_pure (.int .i64 (mn (w64 (1 + y1)) (w64 (Int.tdiv (w64 (2 * y7)) 2)))) rfl ?_ (wn_t rfl rfl (by decide) rfl hb136)
                              exact r_nil (n_lp ⟨_, rfl, undef, rfl, H495⟩)
                            · intro η133 wd501 Δ502 hE498 hR499 H500
                              have H500 : Hp w0 ((Δ502 ++ (Row K38 (.slice A52 o41.f_l.length c54) o41.f_l :: Bx b51 75 [.slice A52 o41.f_l.length c54] :: Row K3 (.slice A83 y70.Vector.length c85) y70.Vector :: Bx b97 59 [.int .i64 y70.Income, .int .i64 y70.Expired, .int .i64 y70.Used, .int .i64 y70.New, .int .i64 y70.Taxable, .int .i64 y70.Tax, .slice A83 y70.Vector.length c85] :: Row K38 (.slice A87 o76.f_l.length c89) o76.f_l :: Bx b86 75 [.slice A87 o76.f_l.length c89] :: Γ))) wd501 := H500
                              refine sp_op [(150, .bool (y70.Taxable == w64 (w64 (2 * y7) - mn (w64 (1 + y1)) (w64 (Int.tdiv (w64 (2 * y7)) 2))))), (153, .int .i64 (w64 (1 + y1))), (154, .int .i64 (mn (w64 (1 + y1)) (w64 (Int.tdiv (w64 (2 * y7)) 2))))] (ac (hE498 17 (by decide)) (ac (hE498 20 (by decide)) (ac (hE498 21 (by decide)) an))) ?_
                              refine r_pure (.int .i64 (w64 (w64 (1 + y1) - mn (w64 (1 + y1)) (w64 (Int.tdiv (w64 (2 * y7)) 2))))) rfl ?_ (wn_t rfl rfl (by decide) rfl hb136)
                              exact r_nil (n_lp ⟨_, rfl, undef, rfl, H500⟩)
                            · intro η133 wd506 Δ507 hE503 hR504 H505
                              have H505 : Hp w0 ((Δ507 ++ (Row K38 (.slice A52 o41.f_l.length c54) o41.f_l :: Bx b51 75 [.slice A52 o41.f_l.length c54] :: Row K3 (.slice A83 y70.Vector.length c85) y70.Vector :: Bx b97 59 [.int .i64 y70.Income, .int .i64 y70.Expired, .int .i64 y70.Used, .int .i64 y70.New, .int .i64 y70.Taxable, .int .i64 y70.Tax, .slice A83 y70.Vector.length c85] :: Row K38 (.slice A87 o76.f_l.length c89) o76.f_l :: Bx b86 75 [.slice A87 o76.f_l.length c89] :: Γ))) wd506 := H505
                              refine sp_op [(150, .bool (y70.Taxable == w64 (w64 (2 * y7) - mn (w64 (1 + y1)) (w64 (Int.tdiv (w64 (2 * y7)) 2))))), (152, .int .i64 y137), (155, .int .i64 (w64 (w64 (1 + y1) - mn (w64 (1 + y1)) (w64 (Int.tdiv (w64 (2 * y7)) 2)))))] (ac (hE503 17 (by decide)) (ac (hE503 19 (by decide)) (ac (hE503 22 (by decide)) an))) ?_
                              refine r_pure (.bool (y137 == w64 (w64 (1 + y1) - mn (w64 (1 + y1)) (w64 (Int.tdiv (w64 (2 * y7)) 2))))) rfl ?_ (wn_t rfl rfl (by decide) rfl hb136)
                              exact r_nil (n_lp ⟨_, rfl, undef, rfl, H505⟩)
                            · intro η133 wd511 Δ512 hE508 hR509 H510
                              have H510 : Hp w0 ((Δ512 ++ (Row K38 (.slice A52 o41.f_l.length c54) o41.f_l :: Bx b51 75 [.slice A52 o41.f_l.length c54] :: Row K3 (.slice A83 y70.Vector.length c85) y70.Vector :: Bx b97 59 [.int .i64 y70.Income, .int .i64 y70.Expired, .int .i64 y70.Used, .int .i64 y70.New, .int .i64 y70.Taxable, .int .i64 y70.Tax, .slice A83 y70.Vector.length c85] :: Row K38 (.slice A87 o76.f_l.length c89) o76.f_l :: Bx b86 75 [.slice A87 o76.f_l.length c89] :: Γ))) wd511 := H510
                              refine sp_op [(150, .bool (y70.Taxable == w64 (w64 (2 * y7) - mn (w64 (1 + y1)) (w64 (Int.tdiv (w64 (2 * y7)) 2))))), (156, .bool (y137 == w64 (w64 (1 + y1) - mn (w64 (1 + y1)) (w64 (Int.tdiv (w64 (2 * y7)) 2)))))] (ac (hE508 17 (by decide)) (ac (hE508 23 (by decide)) an)) ?_
                              refine r_pick_t (.bool (y137 == w64 (w64 (1 + y1) - mn (w64 (1 + y1)) (w64 (Int.tdiv (w64 (2 * y7)) 2))))) hb136 rfl rfl ?_
                              exact r_nil (n_lp ⟨_, rfl, undef, rfl, H510⟩)
                            · intro η133 wd516 Δ517 hE513 hR514 H515
                              have H515 : Hp w0 ((Δ517 ++ (Row K38 (.slice A52 o41.f_l.length c54) o41.f_l :: Bx b51 75 [.slice A52 o41.f_l.length c54] :: Row K3 (.slice A83 y70.Vector.length c85) y70.Vector :: Bx b97 59 [.int .i64 y70.Income, .int .i64 y70.Expired, .int .i64 y70.Used, .int .i64 y70.New, .int .i64 y70.Taxable, .int .i64 y70.Tax, .slice A83 y70.Vector.length c85] :: Row K38 (.slice A87 o76.f_l.length c89) o76.f_l :: Bx b86 75 [.slice A87 o76.f_l.length c89] :: Γ))) wd516 := H515
                              refine sp_op [(157, .bool (y137 == w64 (w64 (1 + y1) - mn (w64 (1 + y1)) (w64 (Int.tdiv (w64 (2 * y7)) 2)))))] (ac (hE513 24 (by decide)) an) ?_
                              refine r_pure (.bool (y137 == w64 (w64 (1 + y1) - mn (w64 (1 + y1)) (w64 (Int.tdiv (w64 (2 * y7)) 2))))) rfl ?_
                              exact r_nil (n_lp ⟨_, rfl, undef, rfl, H515⟩)
                            · intro η133 wd521 Δ522 hE518 hR519 H520
                              have H520 : Hp w0 ((Δ522 ++ (Row K38 (.slice A52 o41.f_l.length c54) o41.f_l :: Bx b51 75 [.slice A52 o41.f_l.length c54] :: Row K3 (.slice A83 y70.Vector.length c85) y70.Vector :: Bx b97 59 [.int .i64 y70.Income, .int .i64 y70.Expired, .int .i64 y70.Used, .int .i64 y70.New, .int .i64 y70.Taxable, .int .i64 y70.Tax, .slice A83 y70.Vector.length c85] :: Row K38 (.slice A87 o76.f_l.length c89) o76.f_l :: Bx b86 75 [.slice A87 o76.f_l.length c89] :: Γ))) wd521 := H520
                              refine sp_op [(12, .pointer (some ⟨b97, 0, none⟩)), (158, .bool (y137 == w64 (w64 (1 + y1) - mn (w64 (1 + y1)) (w64 (Int.tdiv (w64 (2 * y7)) 2)))))] (ac rfl (ac (hE518 25 (by decide)) an)) ?_
                              refine r_fa FA59_6 ⟨b97, 6, none⟩ rfl rfl ?_ (wn_t rfl rfl (by decide) rfl hb143)
                              exact r_nil (n_lp ⟨_, rfl, undef, rfl, H520⟩)
                            · intro η133 wd526 Δ527 hE523 hR524 H525
                              have H525 : Hp w0 ((Δ527 ++ (Row K38 (.slice A52 o41.f_l.length c54) o41.f_l :: Bx b51 75 [.slice A52 o41.f_l.length c54] :: Row K3 (.slice A83 y70.Vector.length c85) y70.Vector :: Bx b97 59 [.int .i64 y70.Income, .int .i64 y70.Expired, .int .i64 y70.Used, .int .i64 y70.New, .int .i64 y70.Taxable, .int .i64 y70.Tax, .slice A83 y70.Vector.length c85] :: Row K38 (.slice A87 o76.f_l.length c89) o76.f_l :: Bx b86 75 [.slice A87 o76.f_l.length c89] :: Γ))) wd526 := H525
                              refine sp_op [(158, .bool (y137 == w64 (w64 (1 + y1) - mn (w64 (1 + y1)) (w64 (Int.tdiv (w64 (2 * y7)) 2))))), (159, .pointer (some ⟨b97, 6, none⟩))] (ac (hE523 25 (by decide)) (ac (hE523 26 (by decide)) an)) ?_
                              refine r_ld1 (.slice A83 y70.Vector.length c85) LD29 rfl (((H525).tl.g3).cell _ rfl) ?_ (wn_t rfl rfl (by decide) rfl hb143)
                              exact r_nil (n_lp ⟨_, rfl, undef, rfl, H525⟩)
                            · intro η133 wd531 Δ532 hE528 hR529 H530
                              have H530 : Hp w0 ((Δ532 ++ (Row K38 (.slice A52 o41.f_l.length c54) o41.f_l :: Bx b51 75 [.slice A52 o41.f_l.length c54] :: Row K3 (.slice A83 y70.Vector.length c85) y70.Vector :: Bx b97 59 [.int .i64 y70.Income, .int .i64 y70.Expired, .int .i64 y70.Used, .int .i64 y70.New, .int .i64 y70.Taxable, .int .i64 y70.Tax, .slice A83 y70.Vector.length c85] :: Row K38 (.slice A87 o76.f_l.length c89) o76.f_l :: Bx b86 75 [.slice A87 o76.f_l.length c89] :: Γ))) wd531 := H530
                              refine sp_op [(1, .int .i64 (w64 (2 * y7))), (158, .bool (y137 == w64 (w64 (1 + y1) - mn (w64 (1 + y1)) (w64 (Int.tdiv (w64 (2 * y7)) 2)))))] (ac rfl (ac (hE528 25 (by decide)) an)) ?_
                              refine r_pure (.int .i64 (w64 (2 * y7))) rfl ?_ (wn_t rfl rfl (by decide) rfl hb143)
                              exact r_nil (n_lp ⟨_, rfl, undef, rfl, H530⟩)
                            · intro η133 wd536 Δ537 hE533 hR534 H535
                              have H535 : Hp w0 ((Δ537 ++ (Row K38 (.slice A52 o41.f_l.length c54) o41.f_l :: Bx b51 75 [.slice A52 o41.f_l.length c54] :: Row K3 (.slice A83 y70.Vector.length c85) y70.Vector :: Bx b97 59 [.int .i64 y70.Income, .int .i64 y70.Expired, .int .i64 y70.Used, .int .i64 y70.New, .int .i64 y70.Taxable, .int .i64 y70.Tax, .slice A83 y70.Vector.length c85] :: Row K38 (.slice A87 o76.f_l.length c89) o76.f_l :: Bx b86 75 [.slice A87 o76.f_l.length c89] :: Γ))) wd536 := H535
                              refine sp_op [(14, .int .i64 (mn (w64 (1 + y1)) (w64 (Int.tdiv (w64 (2 * y7)) 2)))), (158, .bool (y137 == w64 (w64 (1 + y1) - mn (w64 (1 + y1)) (w64 (Int.tdiv (w64 (2 * y7)) 2)))))] (ac rfl (ac (hE533 25 (by decide)) an)) ?_
                              refine r_pure (.int .i64 (mn (w64 (1 + y1)) (w64 (Int.tdiv (w64 (2 * y7)) 2)))) rfl ?_ (wn_t rfl rfl (by decide) rfl hb143)
                              exact r_nil (n_lp ⟨_, rfl, undef, rfl, H535⟩)
                            · intro η133 wd541 Δ542 hE538 hR539 H540
                              have H540 : Hp w0 ((Δ542 ++ (Row K38 (.slice A52 o41.f_l.length c54) o41.f_l :: Bx b51 75 [.slice A52 o41.f_l.length c54] :: Row K3 (.slice A83 y70.Vector.length c85) y70.Vector :: Bx b97 59 [.int .i64 y70.Income, .int .i64 y70.Expired, .int .i64 y70.Used, .int .i64 y70.New, .int .i64 y70.Taxable, .int .i64 y70.Tax, .slice A83 y70.Vector.length c85] :: Row K38 (.slice A87 o76.f_l.length c89) o76.f_l :: Bx b86 75 [.slice A87 o76.f_l.length c89] :: Γ))) wd541 := H540
                              refine sp_op [(158, .bool (y137 == w64 (w64 (1 + y1) - mn (w64 (1 + y1)) (w64 (Int.tdiv (w64 (2 * y7)) 2))))), (161, .int .i64 (w64 (2 * y7))), (162, .int .i64 (mn (w64 (1 + y1)) (w64 (Int.tdiv (w64 (2 * y7)) 2))))] (ac (hE538 25 (by decide)) (ac (hE538 28 (by decide)) (ac (hE538 29 (by decide)) an))) ?_
                              refine r_callf Try.call37 (scutagelaw15_vector_ok (w64 (2 * y7)) (mn (w64 (1 + y1)) (w64 (Int.tdiv (w64 (2 * y7)) 2))) y144 H540 hy145) ?_ (wn_t rfl rfl (by decide) rfl hb143)
                              rintro e546 wd545 ⟨A549, n550, c551, rfl, H548⟩
                              obtain rfl := (H548.g0).leneq
                              refine ⟨_, rfl, ?_⟩
                              exact r_nil (n_lp ⟨_, rfl, (.tuple #[.slice A549 y144.length c551]), rfl, H548⟩)
                            · intro η133 wd555 Δ556 hE552 hR553 H554
                              have H554 : Hp w0 ((Δ556 ++ (Row K38 (.slice A52 o41.f_l.length c54) o41.f_l :: Bx b51 75 [.slice A52 o41.f_l.length c54] :: Row K3 (.slice A83 y70.Vector.length c85) y70.Vector :: Bx b97 59 [.int .i64 y70.Income, .int .i64 y70.Expired, .int .i64 y70.Used, .int .i64 y70.New, .int .i64 y70.Taxable, .int .i64 y70.Tax, .slice A83 y70.Vector.length c85] :: Row K38 (.slice A87 o76.f_l.length c89) o76.f_l :: Bx b86 75 [.slice A87 o76.f_l.length c89] :: Γ))) wd555 := H554
                              refine sp_op [(158, .bool (y137 == w64 (w64 (1 + y1) - mn (w64 (1 + y1)) (w64 (Int.tdiv (w64 (2 * y7)) 2))))), (160, .slice A83 y70.Vector.length c85), (163, .slice (vA ((η133 30).1)) y144.length (vC ((η133 30).1)))] (ac (hE552 25 (by decide)) (ac (hE552 27 (by decide)) (ac (hE552 30 (by decide)) an))) ?_
                              refine r_callf Try.call20 (scutagekeep_Same_int_ok y70.Vector A83 y70.Vector.length c85 rfl ((((H554)).tl.g2).cap) (fun _ H => ((H).tl.g2.rd)) y144 (vA ((η133 30).1)) y144.length (vC ((η133 30).1)) rfl (((show (Row K3 (.slice (vA ((η133 30).1)) y144.length (vC ((η133 30).1))) y144) _ from ((H554)).memr (hR553 _ (List.mem_of_getElem? (i := 0) rfl) rfl))).cap) (fun _ H => ((show (Row K3 (.slice (vA ((η133 30).1)) y144.length (vC ((η133 30).1))) y144) _ from (H).memr (hR553 _ (List.mem_of_getElem? (i := 0) rfl) rfl)).rd)) y153 H554 hy154) ?_ (wn_t rfl rfl (by decide) rfl hb143)
                              rintro e560 wd559 ⟨rfl, H562⟩
                              refine ⟨_, rfl, ?_⟩
                              exact r_nil (n_lp ⟨_, rfl, undef, rfl, H562⟩)
                            · intro η133 wd566 Δ567 hE563 hR564 H565
                              have H565 : Hp w0 ((Δ567 ++ (Row K38 (.slice A52 o41.f_l.length c54) o41.f_l :: Bx b51 75 [.slice A52 o41.f_l.length c54] :: Row K3 (.slice A83 y70.Vector.length c85) y70.Vector :: Bx b97 59 [.int .i64 y70.Income, .int .i64 y70.Expired, .int .i64 y70.Used, .int .i64 y70.New, .int .i64 y70.Taxable, .int .i64 y70.Tax, .slice A83 y70.Vector.length c85] :: Row K38 (.slice A87 o76.f_l.length c89) o76.f_l :: Bx b86 75 [.slice A87 o76.f_l.length c89] :: Γ))) wd566 := H565
                              refine sp_op [(158, .bool (y137 == w64 (w64 (1 + y1) - mn (w64 (1 + y1)) (w64 (Int.tdiv (w64 (2 * y7)) 2))))), (164, .bool y153)] (ac (hE563 25 (by decide)) (ac (hE563 31 (by decide)) an)) ?_
                              refine r_pick_t (.bool y153) hb143 rfl rfl ?_
                              exact r_nil (n_lp ⟨_, rfl, undef, rfl, H565⟩)
                            · intro η133 wd571 Δ572 hE568 hR569 H570
                              have H570 : Hp w0 ((Δ572 ++ (Row K38 (.slice A52 o41.f_l.length c54) o41.f_l :: Bx b51 75 [.slice A52 o41.f_l.length c54] :: Row K3 (.slice A83 y70.Vector.length c85) y70.Vector :: Bx b97 59 [.int .i64 y70.Income, .int .i64 y70.Expired, .int .i64 y70.Used, .int .i64 y70.New, .int .i64 y70.Taxable, .int .i64 y70.Tax, .slice A83 y70.Vector.length c85] :: Row K38 (.slice A87 o76.f_l.length c89) o76.f_l :: Bx b86 75 [.slice A87 o76.f_l.length c89] :: Γ))) wd571 := H570
                              refine sp_op [(165, .bool y153)] (ac (hE568 32 (by decide)) an) ?_
                              refine r_pure (.bool y153) rfl ?_
                              exact r_nil (n_lp ⟨_, rfl, undef, rfl, H570⟩)
                            · intro η133 wd576 Δ577 hE573 hR574 H575
                              have H575 : Hp w0 ((Δ577 ++ (Row K38 (.slice A52 o41.f_l.length c54) o41.f_l :: Bx b51 75 [.slice A52 o41.f_l.length c54] :: Row K3 (.slice A83 y70.Vector.length c85) y70.Vector :: Bx b97 59 [.int .i64 y70.Income, .int .i64 y70.Expired, .int .i64 y70.Used, .int .i64 y70.New, .int .i64 y70.Taxable, .int .i64 y70.Tax, .slice A83 y70.Vector.length c85] :: Row K38 (.slice A87 o76.f_l.length c89) o76.f_l :: Bx b86 75 [.slice A87 o76.f_l.length c89] :: Γ))) wd576 := H575
                              refine sp_op [(166, .bool y153)] (ac (hE573 33 (by decide)) an) ?_
                              refine r_not (wn_f rfl rfl (by decide) rfl hb159) ?_
                              exact r_nil (n_lp ⟨_, rfl, undef, rfl, H575⟩)
                            · intro η133 wd581 Δ582 hE578 hR579 H580
                              have H580 : Hp w0 ((Δ582 ++ (Row K38 (.slice A52 o41.f_l.length c54) o41.f_l :: Bx b51 75 [.slice A52 o41.f_l.length c54] :: Row K3 (.slice A83 y70.Vector.length c85) y70.Vector :: Bx b97 59 [.int .i64 y70.Income, .int .i64 y70.Expired, .int .i64 y70.Used, .int .i64 y70.New, .int .i64 y70.Taxable, .int .i64 y70.Tax, .slice A83 y70.Vector.length c85] :: Row K38 (.slice A87 o76.f_l.length c89) o76.f_l :: Bx b86 75 [.slice A87 o76.f_l.length c89] :: Γ))) wd581 := H580
                              refine sp_op [(166, .bool y153), (167, undef)] (ac (hE578 33 (by decide)) (ac (hE578 34 (by decide)) an)) ?_
                              refine r_pick_f (.bool false) hb159 rfl rfl ?_
                              exact r_nil (n_lp ⟨_, rfl, undef, rfl, H580⟩)
                            · intro η133 wd586 Δ587 hE583 hR584 H585
                              have H585 : Hp w0 ((Δ587 ++ (Row K38 (.slice A52 o41.f_l.length c54) o41.f_l :: Bx b51 75 [.slice A52 o41.f_l.length c54] :: Row K3 (.slice A83 y70.Vector.length c85) y70.Vector :: Bx b97 59 [.int .i64 y70.Income, .int .i64 y70.Expired, .int .i64 y70.Used, .int .i64 y70.New, .int .i64 y70.Taxable, .int .i64 y70.Tax, .slice A83 y70.Vector.length c85] :: Row K38 (.slice A87 o76.f_l.length c89) o76.f_l :: Bx b86 75 [.slice A87 o76.f_l.length c89] :: Γ))) wd586 := H585
                              refine sp_op [(168, .bool false)] (ac (hE583 35 (by decide)) an) ?_
                              refine r_pure (.bool false) rfl ?_
                              exact r_nil (n_lp ⟨_, rfl, undef, rfl, H585⟩)
                            · intro η133 wd589 hV590 H588
                              have H591 : Hp w0 (Row K3 (.slice (vA ((η133 30).1)) y144.length (vC ((η133 30).1))) y144 :: Row K38 (.slice A52 o41.f_l.length c54) o41.f_l :: Bx b51 75 [.slice A52 o41.f_l.length c54] :: Row K3 (.slice A83 y70.Vector.length c85) y70.Vector :: Bx b97 59 [.int .i64 y70.Income, .int .i64 y70.Expired, .int .i64 y70.Used, .int .i64 y70.New, .int .i64 y70.Taxable, .int .i64 y70.Tax, .slice A83 y70.Vector.length c85] :: Row K38 (.slice A87 o76.f_l.length c89) o76.f_l :: Bx b86 75 [.slice A87 o76.f_l.length c89] :: Γ) wd589 := H588
                              refine n_frame [(8, .bool false)] (ac (hV590 36 rfl) an) ?_
                              refine n_cut ⟨false, upk (ac rfl an), H591.d.d.d.d.d.d.d, hm⟩
                        · refine Flow.run' [[], [0], [0, 1], [0, 1, 2], [0, 1, 2, 3], [0, 1, 2, 3, 4], [0, 1, 2, 3], [0, 1, 2, 3, 4, 5, 6], [0, 1, 2, 3, 4, 5, 6, 7], [0, 1, 2, 3, 4, 5, 6, 7, 8], [0, 1, 2, 3, 4, 5, 6, 7, 8, 9], [0, 1, 2, 3, 4, 5, 6, 7, 8, 9, 10], [0, 1, 2, 3, 4, 5, 6, 7, 8, 9], [0, 1, 2, 3, 4, 5, 6, 7, 8, 9], [0, 1, 2, 3, 4, 5, 6, 7, 8, 9, 12, 13], [0, 1, 2, 3, 4, 5, 6, 7, 8, 9, 10, 11, 12, 13, 14], [0, 1, 2, 3, 4, 5, 6, 7, 8, 9, 10, 11, 12, 13, 14, 15], [0, 1, 2, 3, 4, 5, 6, 7, 8, 9, 10, 11, 12, 13, 14, 15, 16], [0, 1, 2, 3, 4, 5, 6, 7, 8, 9, 10, 11, 12, 13, 14, 15, 16, 17], [0, 1, 2, 3, 4, 5, 6, 7, 8, 9, 10, 11, 12, 13, 14, 15, 16, 17, 18], [0, 1, 2, 3, 4, 5, 6, 7, 8, 9, 10, 11, 12, 13, 14, 15, 16, 17], [0, 1, 2, 3, 4, 5, 6, 7, 8, 9, 10, 11, 12, 13, 14, 15, 16, 17], [0, 1, 2, 3, 4, 5, 6, 7, 8, 9, 10, 11, 12, 13, 14, 15, 16, 17, 20, 21], [0, 1, 2, 3, 4, 5, 6, 7, 8, 9, 10, 11, 12, 13, 14, 15, 16, 17, 18, 19, 20, 21, 22], [0, 1, 2, 3, 4, 5, 6, 7, 8, 9, 10, 11, 12, 13, 14, 15, 16, 17, 18, 19, 20, 21, 22, 23], [0, 1, 2, 3, 4, 5, 6, 7, 8, 9, 10, 11, 12, 13, 14, 15, 16, 17, 18, 19, 20, 21, 22, 23, 24], [0, 1, 2, 3, 4, 5, 6, 7, 8, 9, 10, 11, 12, 13, 14, 15, 16, 17, 18, 19, 20, 21, 22, 23, 24, 25], [0, 1, 2, 3, 4, 5, 6, 7, 8, 9, 10, 11, 12, 13, 14, 15, 16, 17, 18, 19, 20, 21, 22, 23, 24, 25, 26], [0, 1, 2, 3, 4, 5, 6, 7, 8, 9, 10, 11, 12, 13, 14, 15, 16, 17, 18, 19, 20, 21, 22, 23, 24, 25], [0, 1, 2, 3, 4, 5, 6, 7, 8, 9, 10, 11, 12, 13, 14, 15, 16, 17, 18, 19, 20, 21, 22, 23, 24, 25], [0, 1, 2, 3, 4, 5, 6, 7, 8, 9, 10, 11, 12, 13, 14, 15, 16, 17, 18, 19, 20, 21, 22, 23, 24, 25, 28, 29], [0, 1, 2, 3, 4, 5, 6, 7, 8, 9, 10, 11, 12, 13, 14, 15, 16, 17, 18, 19, 20, 21, 22, 23, 24, 25, 26, 27, 28, 29, 30], [0, 1, 2, 3, 4, 5, 6, 7, 8, 9, 10, 11, 12, 13, 14, 15, 16, 17, 18, 19, 20, 21, 22, 23, 24, 25, 26, 27, 28, 29, 30, 31], [0, 1, 2, 3, 4, 5, 6, 7, 8, 9, 10, 11, 12, 13, 14, 15, 16, 17, 18, 19, 20, 21, 22, 23, 24, 25, 26, 27, 28, 29, 30, 31, 32], [0, 1, 2, 3, 4, 5, 6, 7, 8, 9, 10, 11, 12, 13, 14, 15, 16, 17, 18, 19, 20, 21, 22, 23, 24, 25, 26, 27, 28, 29, 30, 31, 32, 33], [0, 1, 2, 3, 4, 5, 6, 7, 8, 9, 10, 11, 12, 13, 14, 15, 16, 17, 18, 19, 20, 21, 22, 23, 24, 25, 26, 27, 28, 29, 30, 31, 32, 33, 34], [0, 1, 2, 3, 4, 5, 6, 7, 8, 9, 10, 11, 12, 13, 14, 15, 16, 17, 18, 19, 20, 21, 22, 23, 24, 25, 26, 27, 28, 29, 30, 31, 32, 33, 34, 35]] [(133, 0), (134, 1), (135, 2), (136, 3), (137, 4), (138, 5), (139, 6), (140, 7), (141, 8), (142, 9), (143, 10), (144, 11), (145, 12), (146, 13), (147, 14), (148, 15), (149, 16), (150, 17), (151, 18), (152, 19), (153, 20), (154, 21), (155, 22), (156, 23), (157, 24), (158, 25), (159, 26), (160, 27), (161, 28), (162, 29), (163, 30), (164, 31), (165, 32), (166, 33), (167, 34), (168, 35), (8, 36)] [(fun η133 v => v.1 = .pointer (some ⟨b97, 1, none⟩)), (fun η133 v => v.1 = .int .i64 y70.Expired), (fun η133 v => v.1 = .bool (y70.Expired == 0)), (fun η133 v => v.1 = .bool (y70.Expired == 0)), (fun η133 v => v.1 = .pointer (some ⟨b97, 2, none⟩)), (fun η133 v => v.1 = .int .i64 y70.Used), (fun η133 v => v.1 = .int .i64 (mn (w64 (1 + y1)) (w64 (Int.tdiv (w64 (2 * y7)) 2)))), (fun η133 v => v.1 = .bool (y70.Used == mn (w64 (1 + y1)) (w64 (Int.tdiv (w64 (2 * y7)) 2)))), (fun η133 v => v.1 = .bool (y70.Used == mn (w64 (1 + y1)) (w64 (Int.tdiv (w64 (2 * y7)) 2)))), (fun η133 v => v.1 = .bool (y70.Used == mn (w64 (1 + y1)) (w64 (Int.tdiv (w64 (2 * y7)) 2)))), (fun η133 v => v.1 = .pointer (some ⟨b97, 4, none⟩)), (fun η133 v => v.1 = .int .i64 y70.Taxable), (fun η133 v => v.1 = .int .i64 (w64 (2 * y7))), (fun η133 v => v.1 = .int .i64 (mn (w64 (1 + y1)) (w64 (Int.tdiv (w64 (2 * y7)) 2)))), (fun η133 v => v.1 = .int .i64 (w64 (w64 (2 * y7) - mn (w64 (1 + y1)) (w64 (Int.tdiv (w64 (2 * y7)) 2))))), (fun η133 v => v.1 = .bool (y70.Taxable == w64 (w64 (2 * y7) - mn (w64 (1 + y1)) (w64 (Int.tdiv (w64 (2 * y7)) 2))))), (fun η133 v => v.1 = .bool (y70.Taxable == w64 (w64 (2 * y7) - mn (w64 (1 + y1)) (w64 (Int.tdiv (w64 (2 * y7)) 2))))), (fun η133 v => v.1 = .bool (y70.Taxable == w64 (w64 (2 * y7) - mn (w64 (1 + y1)) (w64 (Int.tdiv (w64 (2 * y7)) 2))))), (fun η133 v => v.1 = .pointer (some ⟨b86, 0, none⟩)), (fun η133 v => v.1 = .int .i64 y137), (fun η133 v => v.1 = .int .i64 (w64 (1 + y1))), (fun η133 v => v.1 = .int .i64 (mn (w64 (1 + y1)) (w64 (Int.tdiv (w64 (2 * y7)) 2)))), (fun η133 v => v.1 = .int .i64 (w64 (w64 (1 + y1) - mn (w64 (1 + y1)) (w64 (Int.tdiv (w64 (2 * y7)) 2))))), (fun η133 v => v.1 = .bool (y137 == w64 (w64 (1 + y1) - mn (w64 (1 + y1)) (w64 (Int.tdiv (w64 (2 * y7)) 2))))), (fun η133 v => v.1 = .bool (y137 == w64 (w64 (1 + y1) - mn (w64 (1 + y1)) (w64 (Int.tdiv (w64 (2 * y7)) 2))))), (fun η133 v => v.1 = .bool (y137 == w64 (w64 (1 + y1) - mn (w64 (1 + y1)) (w64 (Int.tdiv (w64 (2 * y7)) 2))))), (fun η133 v => v.1 = undef), (fun η133 v => v.1 = undef), (fun η133 v => v.1 = undef), (fun η133 v => v.1 = undef), (fun η133 v => v.1 = undef), (fun η133 v => v.1 = undef), (fun η133 v => v.1 = .bool false), (fun η133 v => v.1 = .bool false), (fun η133 v => v.1 = undef), (fun η133 v => v.1 = .bool false), (fun η133 v => v.1 = .bool false)] [] rfl (by kernel_rfl) (by kernel_rfl) H103 ⟨?_, ?_, ?_, ?_, ?_, ?_, ?_, ?_, ?_, ?_, ?_, ?_, ?_, ?_, ?_, ?_, ?_, ?_, ?_, ?_, ?_, ?_, ?_, ?_, ?_, ?_, ?_, ?_, ?_, ?_, ?_, ?_, ?_, ?_, ?_, ?_, ?_, trivial⟩ ?_
                          · intro η133 wd595 Δ596 hE592 hR593 H594
                            have H594 : Hp w0 ((Δ596 ++ (Row K38 (.slice A52 o41.f_l.length c54) o41.f_l :: Bx b51 75 [.slice A52 o41.f_l.length c54] :: Row K3 (.slice A83 y70.Vector.length c85) y70.Vector :: Bx b97 59 [.int .i64 y70.Income, .int .i64 y70.Expired, .int .i64 y70.Used, .int .i64 y70.New, .int .i64 y70.Taxable, .int .i64 y70.Tax, .slice A83 y70.Vector.length c85] :: Row K38 (.slice A87 o76.f_l.length c89) o76.f_l :: Bx b86 75 [.slice A87 o76.f_l.length c89] :: Γ))) wd595 := H594
                            refine sp_op [(12, .pointer (some ⟨b97, 0, none⟩))] (ac rfl an) ?_
                            refine r_fa FA59_1 ⟨b97, 1, none⟩ rfl rfl ?_
                            exact r_nil (n_lp ⟨_, rfl, undef, rfl, H594⟩)
                          · intro η133 wd600 Δ601 hE597 hR598 H599
                            have H599 : Hp w0 ((Δ601 ++ (Row K38 (.slice A52 o41.f_l.length c54) o41.f_l :: Bx b51 75 [.slice A52 o41.f_l.length c54] :: Row K3 (.slice A83 y70.Vector.length c85) y70.Vector :: Bx b97 59 [.int .i64 y70.Income, .int .i64 y70.Expired, .int .i64 y70.Used, .int .i64 y70.New, .int .i64 y70.Taxable, .int .i64 y70.Tax, .slice A83 y70.Vector.length c85] :: Row K38 (.slice A87 o76.f_l.length c89) o76.f_l :: Bx b86 75 [.slice A87 o76.f_l.length c89] :: Γ))) wd600 := H599
                            refine sp_op [(133, .pointer (some ⟨b97, 1, none⟩))] (ac (hE597 0 (by decide)) an) ?_
                            refine r_ld1 (.int .i64 y70.Expired) LD3 rfl (((H599).tl.g3).cell _ rfl) ?_
                            exact r_nil (n_lp ⟨_, rfl, undef, rfl, H599⟩)
                          · intro η133 wd605 Δ606 hE602 hR603 H604
                            have H604 : Hp w0 ((Δ606 ++ (Row K38 (.slice A52 o41.f_l.length c54) o41.f_l :: Bx b51 75 [.slice A52 o41.f_l.length c54] :: Row K3 (.slice A83 y70.Vector.length c85) y70.Vector :: Bx b97 59 [.int .i64 y70.Income, .int .i64 y70.Expired, .int .i64 y70.Used, .int .i64 y70.New, .int .i64 y70.Taxable, .int .i64 y70.Tax, .slice A83 y70.Vector.length c85] :: Row K38 (.slice A87 o76.f_l.length c89) o76.f_l :: Bx b86 75 [.slice A87 o76.f_l.length c89] :: Γ))) wd605 := H604
                            refine sp_op [(134, .int .i64 y70.Expired)] (ac (hE602 1 (by decide)) an) ?_
                            refine r_pure (.bool (y70.Expired == 0)) rfl ?_
                            exact r_nil (n_lp ⟨_, rfl, undef, rfl, H604⟩)
                          · intro η133 wd610 Δ611 hE607 hR608 H609
                            have H609 : Hp w0 ((Δ611 ++ (Row K38 (.slice A52 o41.f_l.length c54) o41.f_l :: Bx b51 75 [.slice A52 o41.f_l.length c54] :: Row K3 (.slice A83 y70.Vector.length c85) y70.Vector :: Bx b97 59 [.int .i64 y70.Income, .int .i64 y70.Expired, .int .i64 y70.Used, .int .i64 y70.New, .int .i64 y70.Taxable, .int .i64 y70.Tax, .slice A83 y70.Vector.length c85] :: Row K38 (.slice A87 o76.f_l.length c89) o76.f_l :: Bx b86 75 [.slice A87 o76.f_l.length c89] :: Γ))) wd610 := H609
                            refine sp_op [(135, .bool (y70.Expired == 0))] (ac (hE607 2 (by decide)) an) ?_
                            refine r_pure (.bool (y70.Expired == 0)) rfl ?_
                            exact r_nil (n_lp ⟨_, rfl, undef, rfl, H609⟩)
                          · intro η133 wd615 Δ616 hE612 hR613 H614
                            have H614 : Hp w0 ((Δ616 ++ (Row K38 (.slice A52 o41.f_l.length c54) o41.f_l :: Bx b51 75 [.slice A52 o41.f_l.length c54] :: Row K3 (.slice A83 y70.Vector.length c85) y70.Vector :: Bx b97 59 [.int .i64 y70.Income, .int .i64 y70.Expired, .int .i64 y70.Used, .int .i64 y70.New, .int .i64 y70.Taxable, .int .i64 y70.Tax, .slice A83 y70.Vector.length c85] :: Row K38 (.slice A87 o76.f_l.length c89) o76.f_l :: Bx b86 75 [.slice A87 o76.f_l.length c89] :: Γ))) wd615 := H614
                            refine sp_op [(12, .pointer (some ⟨b97, 0, none⟩)), (136, .bool (y70.Expired == 0))] (ac rfl (ac (hE612 3 (by decide)) an)) ?_
                            refine r_fa FA59_2 ⟨b97, 2, none⟩ rfl rfl ?_ (wn_t rfl rfl (by decide) rfl hb134)
                            exact r_nil (n_lp ⟨_, rfl, undef, rfl, H614⟩)
                          · intro η133 wd620 Δ621 hE617 hR618 H619
                            have H619 : Hp w0 ((Δ621 ++ (Row K38 (.slice A52 o41.f_l.length c54) o41.f_l :: Bx b51 75 [.slice A52 o41.f_l.length c54] :: Row K3 (.slice A83 y70.Vector.length c85) y70.Vector :: Bx b97 59 [.int .i64 y70.Income, .int .i64 y70.Expired, .int .i64 y70.Used, .int .i64 y70.New, .int .i64 y70.Taxable, .int .i64 y70.Tax, .slice A83 y70.Vector.length c85] :: Row K38 (.slice A87 o76.f_l.length c89) o76.f_l :: Bx b86 75 [.slice A87 o76.f_l.length c89] :: Γ))) wd620 := H619
                            refine sp_op [(136, .bool (y70.Expired == 0)), (137, .pointer (some ⟨b97, 2, none⟩))] (ac (hE617 3 (by decide)) (ac (hE617 4 (by decide)) an)) ?_
                            refine r_ld1 (.int .i64 y70.Used) LD3 rfl (((H619).tl.g3).cell _ rfl) ?_ (wn_t rfl rfl (by decide) rfl hb134)
                            exact r_nil (n_lp ⟨_, rfl, undef, rfl, H619⟩)
                          · intro η133 wd625 Δ626 hE622 hR623 H624
                            have H624 : Hp w0 ((Δ626 ++ (Row K38 (.slice A52 o41.f_l.length c54) o41.f_l :: Bx b51 75 [.slice A52 o41.f_l.length c54] :: Row K3 (.slice A83 y70.Vector.length c85) y70.Vector :: Bx b97 59 [.int .i64 y70.Income, .int .i64 y70.Expired, .int .i64 y70.Used, .int .i64 y70.New, .int .i64 y70.Taxable, .int .i64 y70.Tax, .slice A83 y70.Vector.length c85] :: Row K38 (.slice A87 o76.f_l.length c89) o76.f_l :: Bx b86 75 [.slice A87 o76.f_l.length c89] :: Γ))) wd625 := H624
                            refine sp_op [(14, .int .i64 (mn (w64 (1 + y1)) (w64 (Int.tdiv (w64 (2 * y7)) 2)))), (136, .bool (y70.Expired == 0))] (ac rfl (ac (hE622 3 (by decide)) an)) ?_
                            refine r_pure (.int .i64 (mn (w64 (1 + y1)) (w64 (Int.tdiv (w64 (2 * y7)) 2)))) rfl ?_ (wn_t rfl rfl (by decide) rfl hb134)
                            exact r_nil (n_lp ⟨_, rfl, undef, rfl, H624⟩)
                          · intro η133 wd630 Δ631 hE627 hR628 H629
                            have H629 : Hp w0 ((Δ631 ++ (Row K38 (.slice A52 o41.f_l.length c54) o41.f_l :: Bx b51 75 [.slice A52 o41.f_l.length c54] :: Row K3 (.slice A83 y70.Vector.length c85) y70.Vector :: Bx b97 59 [.int .i64 y70.Income, .int .i64 y70.Expired, .int .i64 y70.Used, .int .i64 y70.New, .int .i64 y70.Taxable, .int .i64 y70.Tax, .slice A83 y70.Vector.length c85] :: Row K38 (.slice A87 o76.f_l.length c89) o76.f_l :: Bx b86 75 [.slice A87 o76.f_l.length c89] :: Γ))) wd630 := H629
                            refine sp_op [(136, .bool (y70.Expired == 0)), (138, .int .i64 y70.Used), (139, .int .i64 (mn (w64 (1 + y1)) (w64 (Int.tdiv (w64 (2 * y7)) 2))))] (ac (hE627 3 (by decide)) (ac (hE627 5 (by decide)) (ac (hE627 6 (by decide)) an))) ?_
                            refine r_pure (.bool (y70.Used == mn (w64 (1 + y1)) (w64 (Int.tdiv (w64 (2 * y7)) 2)))) rfl ?_ (wn_t rfl rfl (by decide) rfl hb134)
                            exact r_nil (n_lp ⟨_, rfl, undef, rfl, H629⟩)
                          · intro η133 wd635 Δ636 hE632 hR633 H634
                            have H634 : Hp w0 ((Δ636 ++ (Row K38 (.slice A52 o41.f_l.length c54) o41.f_l :: Bx b51 75 [.slice A52 o41.f_l.length c54] :: Row K3 (.slice A83 y70.Vector.length c85) y70.Vector :: Bx b97 59 [.int .i64 y70.Income, .int .i64 y70.Expired, .int .i64 y70.Used, .int .i64 y70.New, .int .i64 y70.Taxable, .int .i64 y70.Tax, .slice A83 y70.Vector.length c85] :: Row K38 (.slice A87 o76.f_l.length c89) o76.f_l :: Bx b86 75 [.slice A87 o76.f_l.length c89] :: Γ))) wd635 := H634
                            refine sp_op [(136, .bool (y70.Expired == 0)), (140, .bool (y70.Used == mn (w64 (1 + y1)) (w64 (Int.tdiv (w64 (2 * y7)) 2))))] (ac (hE632 3 (by decide)) (ac (hE632 7 (by decide)) an)) ?_
                            refine r_pick_t (.bool (y70.Used == mn (w64 (1 + y1)) (w64 (Int.tdiv (w64 (2 * y7)) 2)))) hb134 rfl rfl ?_
                            exact r_nil (n_lp ⟨_, rfl, undef, rfl, H634⟩)
                          · intro η133 wd640 Δ641 hE637 hR638 H639
                            have H639 : Hp w0 ((Δ641 ++ (Row K38 (.slice A52 o41.f_l.length c54) o41.f_l :: Bx b51 75 [.slice A52 o41.f_l.length c54] :: Row K3 (.slice A83 y70.Vector.length c85) y70.Vector :: Bx b97 59 [.int .i64 y70.Income, .int .i64 y70.Expired, .int .i64 y70.Used, .int .i64 y70.New, .int .i64 y70.Taxable, .int .i64 y70.Tax, .slice A83 y70.Vector.length c85] :: Row K38 (.slice A87 o76.f_l.length c89) o76.f_l :: Bx b86 75 [.slice A87 o76.f_l.length c89] :: Γ))) wd640 := H639
                            refine sp_op [(141, .bool (y70.Used == mn (w64 (1 + y1)) (w64 (Int.tdiv (w64 (2 * y7)) 2))))] (ac (hE637 8 (by decide)) an) ?_
                            refine r_pure (.bool (y70.Used == mn (w64 (1 + y1)) (w64 (Int.tdiv (w64 (2 * y7)) 2)))) rfl ?_
                            exact r_nil (n_lp ⟨_, rfl, undef, rfl, H639⟩)
                          · intro η133 wd645 Δ646 hE642 hR643 H644
                            have H644 : Hp w0 ((Δ646 ++ (Row K38 (.slice A52 o41.f_l.length c54) o41.f_l :: Bx b51 75 [.slice A52 o41.f_l.length c54] :: Row K3 (.slice A83 y70.Vector.length c85) y70.Vector :: Bx b97 59 [.int .i64 y70.Income, .int .i64 y70.Expired, .int .i64 y70.Used, .int .i64 y70.New, .int .i64 y70.Taxable, .int .i64 y70.Tax, .slice A83 y70.Vector.length c85] :: Row K38 (.slice A87 o76.f_l.length c89) o76.f_l :: Bx b86 75 [.slice A87 o76.f_l.length c89] :: Γ))) wd645 := H644
                            refine sp_op [(12, .pointer (some ⟨b97, 0, none⟩)), (142, .bool (y70.Used == mn (w64 (1 + y1)) (w64 (Int.tdiv (w64 (2 * y7)) 2))))] (ac rfl (ac (hE642 9 (by decide)) an)) ?_
                            refine r_fa FA59_4 ⟨b97, 4, none⟩ rfl rfl ?_ (wn_t rfl rfl (by decide) rfl hb135)
                            exact r_nil (n_lp ⟨_, rfl, undef, rfl, H644⟩)
                          · intro η133 wd650 Δ651 hE647 hR648 H649
                            have H649 : Hp w0 ((Δ651 ++ (Row K38 (.slice A52 o41.f_l.length c54) o41.f_l :: Bx b51 75 [.slice A52 o41.f_l.length c54] :: Row K3 (.slice A83 y70.Vector.length c85) y70.Vector :: Bx b97 59 [.int .i64 y70.Income, .int .i64 y70.Expired, .int .i64 y70.Used, .int .i64 y70.New, .int .i64 y70.Taxable, .int .i64 y70.Tax, .slice A83 y70.Vector.length c85] :: Row K38 (.slice A87 o76.f_l.length c89) o76.f_l :: Bx b86 75 [.slice A87 o76.f_l.length c89] :: Γ))) wd650 := H649
                            refine sp_op [(142, .bool (y70.Used == mn (w64 (1 + y1)) (w64 (Int.tdiv (w64 (2 * y7)) 2)))), (143, .pointer (some ⟨b97, 4, none⟩))] (ac (hE647 9 (by decide)) (ac (hE647 10 (by decide)) an)) ?_
                            refine r_ld1 (.int .i64 y70.Taxable) LD3 rfl (((H649).tl.g3).cell _ rfl) ?_ (wn_t rfl rfl (by decide) rfl hb135)
                            exact r_nil (n_lp ⟨_, rfl, undef, rfl, H649⟩)
                          · intro η133 wd655 Δ656 hE652 hR653 H654
                            have H654 : Hp w0 ((Δ656 ++ (Row K38 (.slice A52 o41.f_l.length c54) o41.f_l :: Bx b51 75 [.slice A52 o41.f_l.length c54] :: Row K3 (.slice A83 y70.Vector.length c85) y70.Vector :: Bx b97 59 [.int .i64 y70.Income, .int .i64 y70.Expired, .int .i64 y70.Used, .int .i64 y70.New, .int .i64 y70.Taxable, .int .i64 y70.Tax, .slice A83 y70.Vector.length c85] :: Row K38 (.slice A87 o76.f_l.length c89) o76.f_l :: Bx b86 75 [.slice A87 o76.f_l.length c89] :: Γ))) wd655 := H654
                            refine sp_op [(1, .int .i64 (w64 (2 * y7))), (142, .bool (y70.Used == mn (w64 (1 + y1)) (w64 (Int.tdiv (w64 (2 * y7)) 2))))] (ac rfl (ac (hE652 9 (by decide)) an)) ?_
                            refine r_pure (.int .i64 (w64 (2 * y7))) rfl ?_ (wn_t rfl rfl (by decide) rfl hb135)
                            exact r_nil (n_lp ⟨_, rfl, undef, rfl, H654⟩)
                          · intro η133 wd660 Δ661 hE657 hR658 H659
                            have H659 : Hp w0 ((Δ661 ++ (Row K38 (.slice A52 o41.f_l.length c54) o41.f_l :: Bx b51 75 [.slice A52 o41.f_l.length c54] :: Row K3 (.slice A83 y70.Vector.length c85) y70.Vector :: Bx b97 59 [.int .i64 y70.Income, .int .i64 y70.Expired, .int .i64 y70.Used, .int .i64 y70.New, .int .i64 y70.Taxable, .int .i64 y70.Tax, .slice A83 y70.Vector.length c85] :: Row K38 (.slice A87 o76.f_l.length c89) o76.f_l :: Bx b86 75 [.slice A87 o76.f_l.length c89] :: Γ))) wd660 := H659
                            refine sp_op [(14, .int .i64 (mn (w64 (1 + y1)) (w64 (Int.tdiv (w64 (2 * y7)) 2)))), (142, .bool (y70.Used == mn (w64 (1 + y1)) (w64 (Int.tdiv (w64 (2 * y7)) 2))))] (ac rfl (ac (hE657 9 (by decide)) an)) ?_
                            refine r_pure (.int .i64 (mn (w64 (1 + y1)) (w64 (Int.tdiv (w64 (2 * y7)) 2)))) rfl ?_ (wn_t rfl rfl (by decide) rfl hb135)
                            exact r_nil (n_lp ⟨_, rfl, undef, rfl, H659⟩)
                          · intro η133 wd665 Δ666 hE662 hR663 H664
                            have H664 : Hp w0 ((Δ666 ++ (Row K38 (.slice A52 o41.f_l.length c54) o41.f_l :: Bx b51 75 [.slice A52 o41.f_l.length c54] :: Row K3 (.slice A83 y70.Vector.length c85) y70.Vector :: Bx b97 59 [.int .i64 y70.Income, .int .i64 y70.Expired, .int .i64 y70.Used, .int .i64 y70.New, .int .i64 y70.Taxable, .int .i64 y70.Tax, .slice A83 y70.Vector.length c85] :: Row K38 (.slice A87 o76.f_l.length c89) o76.f_l :: Bx b86 75 [.slice A87 o76.f_l.length c89] :: Γ))) wd665 := H664
                            refine sp_op [(142, .bool (y70.Used == mn (w64 (1 + y1)) (w64 (Int.tdiv (w64 (2 * y7)) 2)))), (145, .int .i64 (w64 (2 * y7))), (146, .int .i64 (mn (w64 (1 + y1)) (w64 (Int.tdiv (w64 (2 * y7)) 2))))] (ac (hE662 9 (by decide)) (ac (hE662 12 (by decide)) (ac (hE662 13 (by decide)) an))) ?_
                            refine r_pure (.int .i64 (w64 (w64 (2 * y7) - mn (w64 (1 + y1)) (w64 (Int.tdiv (w64 (2 * y7)) 2))))) rfl ?_ (wn_t rfl rfl (by decide) rfl hb135)
                            exact r_nil (n_lp ⟨_, rfl, undef, rfl, H664⟩)
                          · intro η133 wd670 Δ671 hE667 hR668 H669
                            have H669 : Hp w0 ((Δ671 ++ (Row K38 (.slice A52 o41.f_l.length c54) o41.f_l :: Bx b51 75 [.slice A52 o41.f_l.length c54] :: Row K3 (.slice A83 y70.Vector.length c85) y70.Vector :: Bx b97 59 [.int .i64 y70.Income, .int .i64 y70.Expired, .int .i64 y70.Used, .int .i64 y70.New, .int .i64 y70.Taxable, .int .i64 y70.Tax, .slice A83 y70.Vector.length c85] :: Row K38 (.slice A87 o76.f_l.length c89) o76.f_l :: Bx b86 75 [.slice A87 o76.f_l.length c89] :: Γ))) wd670 := H669
                            refine sp_op [(142, .bool (y70.Used == mn (w64 (1 + y1)) (w64 (Int.tdiv (w64 (2 * y7)) 2)))), (144, .int .i64 y70.Taxable), (147, .int .i64 (w64 (w64 (2 * y7) - mn (w64 (1 + y1)) (w64 (Int.tdiv (w64 (2 * y7)) 2)))))] (ac (hE667 9 (by decide)) (ac (hE667 11 (by decide)) (ac (hE667 14 (by decide)) an))) ?_
                            refine r_pure (.bool (y70.Taxable == w64 (w64 (2 * y7) - mn (w64 (1 + y1)) (w64 (Int.tdiv (w64 (2 * y7)) 2))))) rfl ?_ (wn_t rfl rfl (by decide) rfl hb135)
                            exact r_nil (n_lp ⟨_, rfl, undef, rfl, H669⟩)
                          · intro η133 wd675 Δ676 hE672 hR673 H674
                            have H674 : Hp w0 ((Δ676 ++ (Row K38 (.slice A52 o41.f_l.length c54) o41.f_l :: Bx b51 75 [.slice A52 o41.f_l.length c54] :: Row K3 (.slice A83 y70.Vector.length c85) y70.Vector :: Bx b97 59 [.int .i64 y70.Income, .int .i64 y70.Expired, .int .i64 y70.Used, .int .i64 y70.New, .int .i64 y70.Taxable, .int .i64 y70.Tax, .slice A83 y70.Vector.length c85] :: Row K38 (.slice A87 o76.f_l.length c89) o76.f_l :: Bx b86 75 [.slice A87 o76.f_l.length c89] :: Γ))) wd675 := H674
                            refine sp_op [(142, .bool (y70.Used == mn (w64 (1 + y1)) (w64 (Int.tdiv (w64 (2 * y7)) 2)))), (148, .bool (y70.Taxable == w64 (w64 (2 * y7) - mn (w64 (1 + y1)) (w64 (Int.tdiv (w64 (2 * y7)) 2)))))] (ac (hE672 9 (by decide)) (ac (hE672 15 (by decide)) an)) ?_
                            refine r_pick_t (.bool (y70.Taxable == w64 (w64 (2 * y7) - mn (w64 (1 + y1)) (w64 (Int.tdiv (w64 (2 * y7)) 2))))) hb135 rfl rfl ?_
                            exact r_nil (n_lp ⟨_, rfl, undef, rfl, H674⟩)
                          · intro η133 wd680 Δ681 hE677 hR678 H679
                            have H679 : Hp w0 ((Δ681 ++ (Row K38 (.slice A52 o41.f_l.length c54) o41.f_l :: Bx b51 75 [.slice A52 o41.f_l.length c54] :: Row K3 (.slice A83 y70.Vector.length c85) y70.Vector :: Bx b97 59 [.int .i64 y70.Income, .int .i64 y70.Expired, .int .i64 y70.Used, .int .i64 y70.New, .int .i64 y70.Taxable, .int .i64 y70.Tax, .slice A83 y70.Vector.length c85] :: Row K38 (.slice A87 o76.f_l.length c89) o76.f_l :: Bx b86 75 [.slice A87 o76.f_l.length c89] :: Γ))) wd680 := H679
                            refine sp_op [(149, .bool (y70.Taxable == w64 (w64 (2 * y7) - mn (w64 (1 + y1)) (w64 (Int.tdiv (w64 (2 * y7)) 2)))))] (ac (hE677 16 (by decide)) an) ?_
                            refine r_pure (.bool (y70.Taxable == w64 (w64 (2 * y7) - mn (w64 (1 + y1)) (w64 (Int.tdiv (w64 (2 * y7)) 2))))) rfl ?_
                            exact r_nil (n_lp ⟨_, rfl, undef, rfl, H679⟩)
                          · intro η133 wd685 Δ686 hE682 hR683 H684
                            have H684 : Hp w0 ((Δ686 ++ (Row K38 (.slice A52 o41.f_l.length c54) o41.f_l :: Bx b51 75 [.slice A52 o41.f_l.length c54] :: Row K3 (.slice A83 y70.Vector.length c85) y70.Vector :: Bx b97 59 [.int .i64 y70.Income, .int .i64 y70.Expired, .int .i64 y70.Used, .int .i64 y70.New, .int .i64 y70.Taxable, .int .i64 y70.Tax, .slice A83 y70.Vector.length c85] :: Row K38 (.slice A87 o76.f_l.length c89) o76.f_l :: Bx b86 75 [.slice A87 o76.f_l.length c89] :: Γ))) wd685 := H684
                            refine sp_op [(13, .pointer (some ⟨b86, 0, none⟩)), (150, .bool (y70.Taxable == w64 (w64 (2 * y7) - mn (w64 (1 + y1)) (w64 (Int.tdiv (w64 (2 * y7)) 2)))))] (ac rfl (ac (hE682 17 (by decide)) an)) ?_
                            refine r_pure (.pointer (some ⟨b86, 0, none⟩)) rfl ?_ (wn_t rfl rfl (by decide) rfl hb136)
                            exact r_nil (n_lp ⟨_, rfl, undef, rfl, H684⟩)
                          · intro η133 wd690 Δ691 hE687 hR688 H689
                            have H689 : Hp w0 ((Δ691 ++ (Row K38 (.slice A52 o41.f_l.length c54) o41.f_l :: Bx b51 75 [.slice A52 o41.f_l.length c54] :: Row K3 (.slice A83 y70.Vector.length c85) y70.Vector :: Bx b97 59 [.int .i64 y70.Income, .int .i64 y70.Expired, .int .i64 y70.Used, .int .i64 y70.New, .int .i64 y70.Taxable, .int .i64 y70.Tax, .slice A83 y70.Vector.length c85] :: Row K38 (.slice A87 o76.f_l.length c89) o76.f_l :: Bx b86 75 [.slice A87 o76.f_l.length c89] :: Γ))) wd690 := H689
                            refine sp_op [(150, .bool (y70.Taxable == w64 (w64 (2 * y7) - mn (w64 (1 + y1)) (w64 (Int.tdiv (w64 (2 * y7)) 2))))), (151, .pointer (some ⟨b86, 0, none⟩))] (ac (hE687 17 (by decide)) (ac (hE687 18 (by decide)) an)) ?_
                            refine r_callf Try.call23 (vintage_Losses_Left_ok b86 (⟨o76.f_l⟩ : vintage_Losses) A87 o76.f_l.length c89 rfl ((((H689)).tl.g4).cap) (fun _ H => ((H).tl.g4.rd)) (fun _ H => ((H).tl.g5)) y137 H689 hy138) ?_ (wn_t rfl rfl (by decide) rfl hb136)
                            rintro e695 wd694 ⟨rfl, H697⟩
                            refine ⟨_, rfl, ?_⟩
                            exact r_nil (n_lp ⟨_, rfl, undef, rfl, H697⟩)
                          · intro η133 wd701 Δ702 hE698 hR699 H700
                            have H700 : Hp w0 ((Δ702 ++ (Row K38 (.slice A52 o41.f_l.length c54) o41.f_l :: Bx b51 75 [.slice A52 o41.f_l.length c54] :: Row K3 (.slice A83 y70.Vector.length c85) y70.Vector :: Bx b97 59 [.int .i64 y70.Income, .int .i64 y70.Expired, .int .i64 y70.Used, .int .i64 y70.New, .int .i64 y70.Taxable, .int .i64 y70.Tax, .slice A83 y70.Vector.length c85] :: Row K38 (.slice A87 o76.f_l.length c89) o76.f_l :: Bx b86 75 [.slice A87 o76.f_l.length c89] :: Γ))) wd701 := H700
                            refine sp_op [(0, .int .i64 (w64 (1 + y1))), (150, .bool (y70.Taxable == w64 (w64 (2 * y7) - mn (w64 (1 + y1)) (w64 (Int.tdiv (w64 (2 * y7)) 2)))))] (ac rfl (ac (hE698 17 (by decide)) an)) ?_
                            refine r_pure (.int .i64 (w64 (1 + y1))) rfl ?_ (wn_t rfl rfl (by decide) rfl hb136)
                            exact r_nil (n_lp ⟨_, rfl, undef, rfl, H700⟩)
                          · intro η133 wd706 Δ707 hE703 hR704 H705
                            have H705 : Hp w0 ((Δ707 ++ (Row K38 (.slice A52 o41.f_l.length c54) o41.f_l :: Bx b51 75 [.slice A52 o41.f_l.length c54] :: Row K3 (.slice A83 y70.Vector.length c85) y70.Vector :: Bx b97 59 [.int .i64 y70.Income, .int .i64 y70.Expired, .int .i64 y70.Used, .int .i64 y70.New, .int .i64 y70.Taxable, .int .i64 y70.Tax, .slice A83 y70.Vector.length c85] :: Row K38 (.slice A87 o76.f_l.length c89) o76.f_l :: Bx b86 75 [.slice A87 o76.f_l.length c89] :: Γ))) wd706 := H705
                            refine sp_op [(14, .int .i64 (mn (w64 (1 + y1)) (w64 (Int.tdiv (w64 (2 * y7)) 2)))), (150, .bool (y70.Taxable == w64 (w64 (2 * y7) - mn (w64 (1 + y1)) (w64 (Int.tdiv (w64 (2 * y7)) 2)))))] (ac rfl (ac (hE703 17 (by decide)) an)) ?_
                            refine r_pure (.int .i64 (mn (w64 (1 + y1)) (w64 (Int.tdiv (w64 (2 * y7)) 2)))) rfl ?_ (wn_t rfl rfl (by decide) rfl hb136)
                            exact r_nil (n_lp ⟨_, rfl, undef, rfl, H705⟩)
                          · intro η133 wd711 Δ712 hE708 hR709 H710
                            have H710 : Hp w0 ((Δ712 ++ (Row K38 (.slice A52 o41.f_l.length c54) o41.f_l :: Bx b51 75 [.slice A52 o41.f_l.length c54] :: Row K3 (.slice A83 y70.Vector.length c85) y70.Vector :: Bx b97 59 [.int .i64 y70.Income, .int .i64 y70.Expired, .int .i64 y70.Used, .int .i64 y70.New, .int .i64 y70.Taxable, .int .i64 y70.Tax, .slice A83 y70.Vector.length c85] :: Row K38 (.slice A87 o76.f_l.length c89) o76.f_l :: Bx b86 75 [.slice A87 o76.f_l.length c89] :: Γ))) wd711 := H710
                            refine sp_op [(150, .bool (y70.Taxable == w64 (w64 (2 * y7) - mn (w64 (1 + y1)) (w64 (Int.tdiv (w64 (2 * y7)) 2))))), (153, .int .i64 (w64 (1 + y1))), (154, .int .i64 (mn (w64 (1 + y1)) (w64 (Int.tdiv (w64 (2 * y7)) 2))))] (ac (hE708 17 (by decide)) (ac (hE708 20 (by decide)) (ac (hE708 21 (by decide)) an))) ?_
                            refine r_pure (.int .i64 (w64 (w64 (1 + y1) - mn (w64 (1 + y1)) (w64 (Int.tdiv (w64 (2 * y7)) 2))))) rfl ?_ (wn_t rfl rfl (by decide) rfl hb136)
                            exact r_nil (n_lp ⟨_, rfl, undef, rfl, H710⟩)
                          · intro η133 wd716 Δ717 hE713 hR714 H715
                            have H715 : Hp w0 ((Δ717 ++ (Row K38 (.slice A52 o41.f_l.length c54) o41.f_l :: Bx b51 75 [.slice A52 o41.f_l.length c54] :: Row K3 (.slice A83 y70.Vector.length c85) y70.Vector :: Bx b97 59 [.int .i64 y70.Income, .int .i64 y70.Expired, .int .i64 y70.Used, .int .i64 y70.New, .int .i64 y70.Taxable, .int .i64 y70.Tax, .slice A83 y70.Vector.length c85] :: Row K38 (.slice A87 o76.f_l.length c89) o76.f_l :: Bx b86 75 [.slice A87 o76.f_l.length c89] :: Γ))) wd716 := H715
                            refine sp_op [(150, .bool (y70.Taxable == w64 (w64 (2 * y7) - mn (w64 (1 + y1)) (w64 (Int.tdiv (w64 (2 * y7)) 2))))), (152, .int .i64 y137), (155, .int .i64 (w64 (w64 (1 + y1) - mn (w64 (1 + y1)) (w64 (Int.tdiv (w64 (2 * y7)) 2)))))] (ac (hE713 17 (by decide)) (ac (hE713 19 (by decide)) (ac (hE713 22 (by decide)) an))) ?_
                            refine r_pure (.bool (y137 == w64 (w64 (1 + y1) - mn (w64 (1 + y1)) (w64 (Int.tdiv (w64 (2 * y7)) 2))))) rfl ?_ (wn_t rfl rfl (by decide) rfl hb136)
                            exact r_nil (n_lp ⟨_, rfl, undef, rfl, H715⟩)
                          · intro η133 wd721 Δ722 hE718 hR719 H720
                            have H720 : Hp w0 ((Δ722 ++ (Row K38 (.slice A52 o41.f_l.length c54) o41.f_l :: Bx b51 75 [.slice A52 o41.f_l.length c54] :: Row K3 (.slice A83 y70.Vector.length c85) y70.Vector :: Bx b97 59 [.int .i64 y70.Income, .int .i64 y70.Expired, .int .i64 y70.Used, .int .i64 y70.New, .int .i64 y70.Taxable, .int .i64 y70.Tax, .slice A83 y70.Vector.length c85] :: Row K38 (.slice A87 o76.f_l.length c89) o76.f_l :: Bx b86 75 [.slice A87 o76.f_l.length c89] :: Γ))) wd721 := H720
                            refine sp_op [(150, .bool (y70.Taxable == w64 (w64 (2 * y7) - mn (w64 (1 + y1)) (w64 (Int.tdiv (w64 (2 * y7)) 2))))), (156, .bool (y137 == w64 (w64 (1 + y1) - mn (w64 (1 + y1)) (w64 (Int.tdiv (w64 (2 * y7)) 2)))))] (ac (hE718 17 (by decide)) (ac (hE718 23 (by decide)) an)) ?_
                            refine r_pick_t (.bool (y137 == w64 (w64 (1 + y1) - mn (w64 (1 + y1)) (w64 (Int.tdiv (w64 (2 * y7)) 2))))) hb136 rfl rfl ?_
                            exact r_nil (n_lp ⟨_, rfl, undef, rfl, H720⟩)
                          · intro η133 wd726 Δ727 hE723 hR724 H725
                            have H725 : Hp w0 ((Δ727 ++ (Row K38 (.slice A52 o41.f_l.length c54) o41.f_l :: Bx b51 75 [.slice A52 o41.f_l.length c54] :: Row K3 (.slice A83 y70.Vector.length c85) y70.Vector :: Bx b97 59 [.int .i64 y70.Income, .int .i64 y70.Expired, .int .i64 y70.Used, .int .i64 y70.New, .int .i64 y70.Taxable, .int .i64 y70.Tax, .slice A83 y70.Vector.length c85] :: Row K38 (.slice A87 o76.f_l.length c89) o76.f_l :: Bx b86 75 [.slice A87 o76.f_l.length c89] :: Γ))) wd726 := H725
                            refine sp_op [(157, .bool (y137 == w64 (w64 (1 + y1) - mn (w64 (1 + y1)) (w64 (Int.tdiv (w64 (2 * y7)) 2)))))] (ac (hE723 24 (by decide)) an) ?_
                            refine r_pure (.bool (y137 == w64 (w64 (1 + y1) - mn (w64 (1 + y1)) (w64 (Int.tdiv (w64 (2 * y7)) 2))))) rfl ?_
                            exact r_nil (n_lp ⟨_, rfl, undef, rfl, H725⟩)
                          · intro η133 wd731 Δ732 hE728 hR729 H730
                            have H730 : Hp w0 ((Δ732 ++ (Row K38 (.slice A52 o41.f_l.length c54) o41.f_l :: Bx b51 75 [.slice A52 o41.f_l.length c54] :: Row K3 (.slice A83 y70.Vector.length c85) y70.Vector :: Bx b97 59 [.int .i64 y70.Income, .int .i64 y70.Expired, .int .i64 y70.Used, .int .i64 y70.New, .int .i64 y70.Taxable, .int .i64 y70.Tax, .slice A83 y70.Vector.length c85] :: Row K38 (.slice A87 o76.f_l.length c89) o76.f_l :: Bx b86 75 [.slice A87 o76.f_l.length c89] :: Γ))) wd731 := H730
                            refine sp_op [(12, .pointer (some ⟨b97, 0, none⟩)), (158, .bool (y137 == w64 (w64 (1 + y1) - mn (w64 (1 + y1)) (w64 (Int.tdiv (w64 (2 * y7)) 2)))))] (ac rfl (ac (hE728 25 (by decide)) an)) ?_
                            refine r_not (wn_f rfl rfl (by decide) rfl hb143) ?_
                            exact r_nil (n_lp ⟨_, rfl, undef, rfl, H730⟩)
                          · intro η133 wd736 Δ737 hE733 hR734 H735
                            have H735 : Hp w0 ((Δ737 ++ (Row K38 (.slice A52 o41.f_l.length c54) o41.f_l :: Bx b51 75 [.slice A52 o41.f_l.length c54] :: Row K3 (.slice A83 y70.Vector.length c85) y70.Vector :: Bx b97 59 [.int .i64 y70.Income, .int .i64 y70.Expired, .int .i64 y70.Used, .int .i64 y70.New, .int .i64 y70.Taxable, .int .i64 y70.Tax, .slice A83 y70.Vector.length c85] :: Row K38 (.slice A87 o76.f_l.length c89) o76.f_l :: Bx b86 75 [.slice A87 o76.f_l.length c89] :: Γ))) wd736 := H735
                            refine sp_op [(158, .bool (y137 == w64 (w64 (1 + y1) - mn (w64 (1 + y1)) (w64 (Int.tdiv (w64 (2 * y7)) 2))))), (159, undef)] (ac (hE733 25 (by decide)) (ac (hE733 26 (by decide)) an)) ?_
                            refine r_not (wn_f rfl rfl (by decide) rfl hb143) ?_
                            exact r_nil (n_lp ⟨_, rfl, undef, rfl, H735⟩)
                          · intro η133 wd741 Δ742 hE738 hR739 H740
                            have H740 : Hp w0 ((Δ742 ++ (Row K38 (.slice A52 o41.f_l.length c54) o41.f_l :: Bx b51 75 [.slice A52 o41.f_l.length c54] :: Row K3 (.slice A83 y70.Vector.length c85) y70.Vector :: Bx b97 59 [.int .i64 y70.Income, .int .i64 y70.Expired, .int .i64 y70.Used, .int .i64 y70.New, .int .i64 y70.Taxable, .int .i64 y70.Tax, .slice A83 y70.Vector.length c85] :: Row K38 (.slice A87 o76.f_l.length c89) o76.f_l :: Bx b86 75 [.slice A87 o76.f_l.length c89] :: Γ))) wd741 := H740
                            refine sp_op [(1, .int .i64 (w64 (2 * y7))), (158, .bool (y137 == w64 (w64 (1 + y1) - mn (w64 (1 + y1)) (w64 (Int.tdiv (w64 (2 * y7)) 2)))))] (ac rfl (ac (hE738 25 (by decide)) an)) ?_
                            refine r_not (wn_f rfl rfl (by decide) rfl hb143) ?_
                            exact r_nil (n_lp ⟨_, rfl, undef, rfl, H740⟩)
                          · intro η133 wd746 Δ747 hE743 hR744 H745
                            have H745 : Hp w0 ((Δ747 ++ (Row K38 (.slice A52 o41.f_l.length c54) o41.f_l :: Bx b51 75 [.slice A52 o41.f_l.length c54] :: Row K3 (.slice A83 y70.Vector.length c85) y70.Vector :: Bx b97 59 [.int .i64 y70.Income, .int .i64 y70.Expired, .int .i64 y70.Used, .int .i64 y70.New, .int .i64 y70.Taxable, .int .i64 y70.Tax, .slice A83 y70.Vector.length c85] :: Row K38 (.slice A87 o76.f_l.length c89) o76.f_l :: Bx b86 75 [.slice A87 o76.f_l.length c89] :: Γ))) wd746 := H745
                            refine sp_op [(14, .int .i64 (mn (w64 (1 + y1)) (w64 (Int.tdiv (w64 (2 * y7)) 2)))), (158, .bool (y137 == w64 (w64 (1 + y1) - mn (w64 (1 + y1)) (w64 (Int.tdiv (w64 (2 * y7)) 2)))))] (ac rfl (ac (hE743 25 (by decide)) an)) ?_
                            refine r_not (wn_f rfl rfl (by decide) rfl hb143) ?_
                            exact r_nil (n_lp ⟨_, rfl, undef, rfl, H745⟩)
                          · intro η133 wd751 Δ752 hE748 hR749 H750
                            have H750 : Hp w0 ((Δ752 ++ (Row K38 (.slice A52 o41.f_l.length c54) o41.f_l :: Bx b51 75 [.slice A52 o41.f_l.length c54] :: Row K3 (.slice A83 y70.Vector.length c85) y70.Vector :: Bx b97 59 [.int .i64 y70.Income, .int .i64 y70.Expired, .int .i64 y70.Used, .int .i64 y70.New, .int .i64 y70.Taxable, .int .i64 y70.Tax, .slice A83 y70.Vector.length c85] :: Row K38 (.slice A87 o76.f_l.length c89) o76.f_l :: Bx b86 75 [.slice A87 o76.f_l.length c89] :: Γ))) wd751 := H750
                            refine sp_op [(158, .bool (y137 == w64 (w64 (1 + y1) - mn (w64 (1 + y1)) (w64 (Int.tdiv (w64 (2 * y7)) 2))))), (161, undef), (162, undef)] (ac (hE748 25 (by decide)) (ac (hE748 28 (by decide)) (ac (hE748 29 (by decide)) an))) ?_
                            refine r_not (wn_f rfl rfl (by decide) rfl hb143) ?_
                            exact r_nil (n_lp ⟨_, rfl, undef, rfl, H750⟩)
                          · intro η133 wd756 Δ757 hE753 hR754 H755
                            have H755 : Hp w0 ((Δ757 ++ (Row K38 (.slice A52 o41.f_l.length c54) o41.f_l :: Bx b51 75 [.slice A52 o41.f_l.length c54] :: Row K3 (.slice A83 y70.Vector.length c85) y70.Vector :: Bx b97 59 [.int .i64 y70.Income, .int .i64 y70.Expired, .int .i64 y70.Used, .int .i64 y70.New, .int .i64 y70.Taxable, .int .i64 y70.Tax, .slice A83 y70.Vector.length c85] :: Row K38 (.slice A87 o76.f_l.length c89) o76.f_l :: Bx b86 75 [.slice A87 o76.f_l.length c89] :: Γ))) wd756 := H755
                            refine sp_op [(158, .bool (y137 == w64 (w64 (1 + y1) - mn (w64 (1 + y1)) (w64 (Int.tdiv (w64 (2 * y7)) 2))))), (160, undef), (163, undef)] (ac (hE753 25 (by decide)) (ac (hE753 27 (by decide)) (ac (hE753 30 (by decide)) an))) ?_
                            refine r_not (wn_f rfl rfl (by decide) rfl hb143) ?_
                            exact r_nil (n_lp ⟨_, rfl, undef, rfl, H755⟩)
                          · intro η133 wd761 Δ762 hE758 hR759 H760
                            have H760 : Hp w0 ((Δ762 ++ (Row K38 (.slice A52 o41.f_l.length c54) o41.f_l :: Bx b51 75 [.slice A52 o41.f_l.length c54] :: Row K3 (.slice A83 y70.Vector.length c85) y70.Vector :: Bx b97 59 [.int .i64 y70.Income, .int .i64 y70.Expired, .int .i64 y70.Used, .int .i64 y70.New, .int .i64 y70.Taxable, .int .i64 y70.Tax, .slice A83 y70.Vector.length c85] :: Row K38 (.slice A87 o76.f_l.length c89) o76.f_l :: Bx b86 75 [.slice A87 o76.f_l.length c89] :: Γ))) wd761 := H760
                            refine sp_op [(158, .bool (y137 == w64 (w64 (1 + y1) - mn (w64 (1 + y1)) (w64 (Int.tdiv (w64 (2 * y7)) 2))))), (164, undef)] (ac (hE758 25 (by decide)) (ac (hE758 31 (by decide)) an)) ?_
                            refine r_pick_f (.bool false) hb143 rfl rfl ?_
                            exact r_nil (n_lp ⟨_, rfl, undef, rfl, H760⟩)
                          · intro η133 wd766 Δ767 hE763 hR764 H765
                            have H765 : Hp w0 ((Δ767 ++ (Row K38 (.slice A52 o41.f_l.length c54) o41.f_l :: Bx b51 75 [.slice A52 o41.f_l.length c54] :: Row K3 (.slice A83 y70.Vector.length c85) y70.Vector :: Bx b97 59 [.int .i64 y70.Income, .int .i64 y70.Expired, .int .i64 y70.Used, .int .i64 y70.New, .int .i64 y70.Taxable, .int .i64 y70.Tax, .slice A83 y70.Vector.length c85] :: Row K38 (.slice A87 o76.f_l.length c89) o76.f_l :: Bx b86 75 [.slice A87 o76.f_l.length c89] :: Γ))) wd766 := H765
                            refine sp_op [(165, .bool false)] (ac (hE763 32 (by decide)) an) ?_
                            refine r_pure (.bool false) rfl ?_
                            exact r_nil (n_lp ⟨_, rfl, undef, rfl, H765⟩)
                          · intro η133 wd771 Δ772 hE768 hR769 H770
                            have H770 : Hp w0 ((Δ772 ++ (Row K38 (.slice A52 o41.f_l.length c54) o41.f_l :: Bx b51 75 [.slice A52 o41.f_l.length c54] :: Row K3 (.slice A83 y70.Vector.length c85) y70.Vector :: Bx b97 59 [.int .i64 y70.Income, .int .i64 y70.Expired, .int .i64 y70.Used, .int .i64 y70.New, .int .i64 y70.Taxable, .int .i64 y70.Tax, .slice A83 y70.Vector.length c85] :: Row K38 (.slice A87 o76.f_l.length c89) o76.f_l :: Bx b86 75 [.slice A87 o76.f_l.length c89] :: Γ))) wd771 := H770
                            refine sp_op [(166, .bool false)] (ac (hE768 33 (by decide)) an) ?_
                            refine r_not (wn_f rfl rfl (by decide) rfl rfl) ?_
                            exact r_nil (n_lp ⟨_, rfl, undef, rfl, H770⟩)
                          · intro η133 wd776 Δ777 hE773 hR774 H775
                            have H775 : Hp w0 ((Δ777 ++ (Row K38 (.slice A52 o41.f_l.length c54) o41.f_l :: Bx b51 75 [.slice A52 o41.f_l.length c54] :: Row K3 (.slice A83 y70.Vector.length c85) y70.Vector :: Bx b97 59 [.int .i64 y70.Income, .int .i64 y70.Expired, .int .i64 y70.Used, .int .i64 y70.New, .int .i64 y70.Taxable, .int .i64 y70.Tax, .slice A83 y70.Vector.length c85] :: Row K38 (.slice A87 o76.f_l.length c89) o76.f_l :: Bx b86 75 [.slice A87 o76.f_l.length c89] :: Γ))) wd776 := H775
                            refine sp_op [(166, .bool false), (167, undef)] (ac (hE773 33 (by decide)) (ac (hE773 34 (by decide)) an)) ?_
                            refine r_pick_f (.bool false) rfl rfl rfl ?_
                            exact r_nil (n_lp ⟨_, rfl, undef, rfl, H775⟩)
                          · intro η133 wd781 Δ782 hE778 hR779 H780
                            have H780 : Hp w0 ((Δ782 ++ (Row K38 (.slice A52 o41.f_l.length c54) o41.f_l :: Bx b51 75 [.slice A52 o41.f_l.length c54] :: Row K3 (.slice A83 y70.Vector.length c85) y70.Vector :: Bx b97 59 [.int .i64 y70.Income, .int .i64 y70.Expired, .int .i64 y70.Used, .int .i64 y70.New, .int .i64 y70.Taxable, .int .i64 y70.Tax, .slice A83 y70.Vector.length c85] :: Row K38 (.slice A87 o76.f_l.length c89) o76.f_l :: Bx b86 75 [.slice A87 o76.f_l.length c89] :: Γ))) wd781 := H780
                            refine sp_op [(168, .bool false)] (ac (hE778 35 (by decide)) an) ?_
                            refine r_pure (.bool false) rfl ?_
                            exact r_nil (n_lp ⟨_, rfl, undef, rfl, H780⟩)
                          · intro η133 wd784 hV785 H783
                            have H786 : Hp w0 (Row K38 (.slice A52 o41.f_l.length c54) o41.f_l :: Bx b51 75 [.slice A52 o41.f_l.length c54] :: Row K3 (.slice A83 y70.Vector.length c85) y70.Vector :: Bx b97 59 [.int .i64 y70.Income, .int .i64 y70.Expired, .int .i64 y70.Used, .int .i64 y70.New, .int .i64 y70.Taxable, .int .i64 y70.Tax, .slice A83 y70.Vector.length c85] :: Row K38 (.slice A87 o76.f_l.length c89) o76.f_l :: Bx b86 75 [.slice A87 o76.f_l.length c89] :: Γ) wd784 := H783
                            refine n_frame [(8, .bool false)] (ac (hV785 36 rfl) an) ?_
                            refine n_cut ⟨false, upk (ac rfl an), H786.d.d.d.d.d.d, hm⟩
                      · refine Flow.run' [[], [0], [0, 1], [0, 1, 2], [0, 1, 2, 3], [0, 1, 2, 3, 4], [0, 1, 2, 3], [0, 1, 2, 3, 4, 5, 6], [0, 1, 2, 3, 4, 5, 6, 7], [0, 1, 2, 3, 4, 5, 6, 7, 8], [0, 1, 2, 3, 4, 5, 6, 7, 8, 9], [0, 1, 2, 3, 4, 5, 6, 7, 8, 9, 10], [0, 1, 2, 3, 4, 5, 6, 7, 8, 9], [0, 1, 2, 3, 4, 5, 6, 7, 8, 9], [0, 1, 2, 3, 4, 5, 6, 7, 8, 9, 12, 13], [0, 1, 2, 3, 4, 5, 6, 7, 8, 9, 10, 11, 12, 13, 14], [0, 1, 2, 3, 4, 5, 6, 7, 8, 9, 10, 11, 12, 13, 14, 15], [0, 1, 2, 3, 4, 5, 6, 7, 8, 9, 10, 11, 12, 13, 14, 15, 16], [0, 1, 2, 3, 4, 5, 6, 7, 8, 9, 10, 11, 12, 13, 14, 15, 16, 17], [0, 1, 2, 3, 4, 5, 6, 7, 8, 9, 10, 11, 12, 13, 14, 15, 16, 17, 18], [0, 1, 2, 3, 4, 5, 6, 7, 8, 9, 10, 11, 12, 13, 14, 15, 16, 17], [0, 1, 2, 3, 4, 5, 6, 7, 8, 9, 10, 11, 12, 13, 14, 15, 16, 17], [0, 1, 2, 3, 4, 5, 6, 7, 8, 9, 10, 11, 12, 13, 14, 15, 16, 17, 20, 21], [0, 1, 2, 3, 4, 5, 6, 7, 8, 9, 10, 11, 12, 13, 14, 15, 16, 17, 18, 19, 20, 21, 22], [0, 1, 2, 3, 4, 5, 6, 7, 8, 9, 10, 11, 12, 13, 14, 15, 16, 17, 18, 19, 20, 21, 22, 23], [0, 1, 2, 3, 4, 5, 6, 7, 8, 9, 10, 11, 12, 13, 14, 15, 16, 17, 18, 19, 20, 21, 22, 23, 24], [0, 1, 2, 3, 4, 5, 6, 7, 8, 9, 10, 11, 12, 13, 14, 15, 16, 17, 18, 19, 20, 21, 22, 23, 24, 25], [0, 1, 2, 3, 4, 5, 6, 7, 8, 9, 10, 11, 12, 13, 14, 15, 16, 17, 18, 19, 20, 21, 22, 23, 24, 25, 26], [0, 1, 2, 3, 4, 5, 6, 7, 8, 9, 10, 11, 12, 13, 14, 15, 16, 17, 18, 19, 20, 21, 22, 23, 24, 25], [0, 1, 2, 3, 4, 5, 6, 7, 8, 9, 10, 11, 12, 13, 14, 15, 16, 17, 18, 19, 20, 21, 22, 23, 24, 25], [0, 1, 2, 3, 4, 5, 6, 7, 8, 9, 10, 11, 12, 13, 14, 15, 16, 17, 18, 19, 20, 21, 22, 23, 24, 25, 28, 29], [0, 1, 2, 3, 4, 5, 6, 7, 8, 9, 10, 11, 12, 13, 14, 15, 16, 17, 18, 19, 20, 21, 22, 23, 24, 25, 26, 27, 28, 29, 30], [0, 1, 2, 3, 4, 5, 6, 7, 8, 9, 10, 11, 12, 13, 14, 15, 16, 17, 18, 19, 20, 21, 22, 23, 24, 25, 26, 27, 28, 29, 30, 31], [0, 1, 2, 3, 4, 5, 6, 7, 8, 9, 10, 11, 12, 13, 14, 15, 16, 17, 18, 19, 20, 21, 22, 23, 24, 25, 26, 27, 28, 29, 30, 31, 32], [0, 1, 2, 3, 4, 5, 6, 7, 8, 9, 10, 11, 12, 13, 14, 15, 16, 17, 18, 19, 20, 21, 22, 23, 24, 25, 26, 27, 28, 29, 30, 31, 32, 33], [0, 1, 2, 3, 4, 5, 6, 7, 8, 9, 10, 11, 12, 13, 14, 15, 16, 17, 18, 19, 20, 21, 22, 23, 24, 25, 26, 27, 28, 29, 30, 31, 32, 33, 34], [0, 1, 2, 3, 4, 5, 6, 7, 8, 9, 10, 11, 12, 13, 14, 15, 16, 17, 18, 19, 20, 21, 22, 23, 24, 25, 26, 27, 28, 29, 30, 31, 32, 33, 34, 35]] [(133, 0), (134, 1), (135, 2), (136, 3), (137, 4), (138, 5), (139, 6), (140, 7), (141, 8), (142, 9), (143, 10), (144, 11), (145, 12), (146, 13), (147, 14), (148, 15), (149, 16), (150, 17), (151, 18), (152, 19), (153, 20), (154, 21), (155, 22), (156, 23), (157, 24), (158, 25), (159, 26), (160, 27), (161, 28), (162, 29), (163, 30), (164, 31), (165, 32), (166, 33), (167, 34), (168, 35), (8, 36)] [(fun η133 v => v.1 = .pointer (some ⟨b97, 1, none⟩)), (fun η133 v => v.1 = .int .i64 y70.Expired), (fun η133 v => v.1 = .bool (y70.Expired == 0)), (fun η133 v => v.1 = .bool (y70.Expired == 0)), (fun η133 v => v.1 = .pointer (some ⟨b97, 2, none⟩)), (fun η133 v => v.1 = .int .i64 y70.Used), (fun η133 v => v.1 = .int .i64 (mn (w64 (1 + y1)) (w64 (Int.tdiv (w64 (2 * y7)) 2)))), (fun η133 v => v.1 = .bool (y70.Used == mn (w64 (1 + y1)) (w64 (Int.tdiv (w64 (2 * y7)) 2)))), (fun η133 v => v.1 = .bool (y70.Used == mn (w64 (1 + y1)) (w64 (Int.tdiv (w64 (2 * y7)) 2)))), (fun η133 v => v.1 = .bool (y70.Used == mn (w64 (1 + y1)) (w64 (Int.tdiv (w64 (2 * y7)) 2)))), (fun η133 v => v.1 = .pointer (some ⟨b97, 4, none⟩)), (fun η133 v => v.1 = .int .i64 y70.Taxable), (fun η133 v => v.1 = .int .i64 (w64 (2 * y7))), (fun η133 v => v.1 = .int .i64 (mn (w64 (1 + y1)) (w64 (Int.tdiv (w64 (2 * y7)) 2)))), (fun η133 v => v.1 = .int .i64 (w64 (w64 (2 * y7) - mn (w64 (1 + y1)) (w64 (Int.tdiv (w64 (2 * y7)) 2))))), (fun η133 v => v.1 = .bool (y70.Taxable == w64 (w64 (2 * y7) - mn (w64 (1 + y1)) (w64 (Int.tdiv (w64 (2 * y7)) 2))))), (fun η133 v => v.1 = .bool (y70.Taxable == w64 (w64 (2 * y7) - mn (w64 (1 + y1)) (w64 (Int.tdiv (w64 (2 * y7)) 2))))), (fun η133 v => v.1 = .bool (y70.Taxable == w64 (w64 (2 * y7) - mn (w64 (1 + y1)) (w64 (Int.tdiv (w64 (2 * y7)) 2))))), (fun η133 v => v.1 = undef), (fun η133 v => v.1 = undef), (fun η133 v => v.1 = undef), (fun η133 v => v.1 = undef), (fun η133 v => v.1 = undef), (fun η133 v => v.1 = undef), (fun η133 v => v.1 = .bool false), (fun η133 v => v.1 = .bool false), (fun η133 v => v.1 = undef), (fun η133 v => v.1 = undef), (fun η133 v => v.1 = undef), (fun η133 v => v.1 = undef), (fun η133 v => v.1 = undef), (fun η133 v => v.1 = undef), (fun η133 v => v.1 = .bool false), (fun η133 v => v.1 = .bool false), (fun η133 v => v.1 = undef), (fun η133 v => v.1 = .bool false), (fun η133 v => v.1 = .bool false)] [] rfl (by kernel_rfl) (by kernel_rfl) H103 ⟨?_, ?_, ?_, ?_, ?_, ?_, ?_, ?_, ?_, ?_, ?_, ?_, ?_, ?_, ?_, ?_, ?_, ?_, ?_, ?_, ?_, ?_, ?_, ?_, ?_, ?_, ?_, ?_, ?_, ?_, ?_, ?_, ?_, ?_, ?_, ?_, ?_, trivial⟩ ?_
                        · intro η133 wd790 Δ791 hE787 hR788 H789
                          have H789 : Hp w0 ((Δ791 ++ (Row K38 (.slice A52 o41.f_l.length c54) o41.f_l :: Bx b51 75 [.slice A52 o41.f_l.length c54] :: Row K3 (.slice A83 y70.Vector.length c85) y70.Vector :: Bx b97 59 [.int .i64 y70.Income, .int .i64 y70.Expired, .int .i64 y70.Used, .int .i64 y70.New, .int .i64 y70.Taxable, .int .i64 y70.Tax, .slice A83 y70.Vector.length c85] :: Row K38 (.slice A87 o76.f_l.length c89) o76.f_l :: Bx b86 75 [.slice A87 o76.f_l.length c89] :: Γ))) wd790 := H789
                          refine sp_op [(12, .pointer (some ⟨b97, 0, none⟩))] (ac rfl an) ?_
                          refine r_fa FA59_1 ⟨b97, 1, none⟩ rfl rfl ?_
                          exact r_nil (n_lp ⟨_, rfl, undef, rfl, H789⟩)
                        · intro η133 wd795 Δ796 hE792 hR793 H794
                          have H794 : Hp w0 ((Δ796 ++ (Row K38 (.slice A52 o41.f_l.length c54) o41.f_l :: Bx b51 75 [.slice A52 o41.f_l.length c54] :: Row K3 (.slice A83 y70.Vector.length c85) y70.Vector :: Bx b97 59 [.int .i64 y70.Income, .int .i64 y70.Expired, .int .i64 y70.Used, .int .i64 y70.New, .int .i64 y70.Taxable, .int .i64 y70.Tax, .slice A83 y70.Vector.length c85] :: Row K38 (.slice A87 o76.f_l.length c89) o76.f_l :: Bx b86 75 [.slice A87 o76.f_l.length c89] :: Γ))) wd795 := H794
                          refine sp_op [(133, .pointer (some ⟨b97, 1, none⟩))] (ac (hE792 0 (by decide)) an) ?_
                          refine r_ld1 (.int .i64 y70.Expired) LD3 rfl (((H794).tl.g3).cell _ rfl) ?_
                          exact r_nil (n_lp ⟨_, rfl, undef, rfl, H794⟩)
                        · intro η133 wd800 Δ801 hE797 hR798 H799
                          have H799 : Hp w0 ((Δ801 ++ (Row K38 (.slice A52 o41.f_l.length c54) o41.f_l :: Bx b51 75 [.slice A52 o41.f_l.length c54] :: Row K3 (.slice A83 y70.Vector.length c85) y70.Vector :: Bx b97 59 [.int .i64 y70.Income, .int .i64 y70.Expired, .int .i64 y70.Used, .int .i64 y70.New, .int .i64 y70.Taxable, .int .i64 y70.Tax, .slice A83 y70.Vector.length c85] :: Row K38 (.slice A87 o76.f_l.length c89) o76.f_l :: Bx b86 75 [.slice A87 o76.f_l.length c89] :: Γ))) wd800 := H799
                          refine sp_op [(134, .int .i64 y70.Expired)] (ac (hE797 1 (by decide)) an) ?_
                          refine r_pure (.bool (y70.Expired == 0)) rfl ?_
                          exact r_nil (n_lp ⟨_, rfl, undef, rfl, H799⟩)
                        · intro η133 wd805 Δ806 hE802 hR803 H804
                          have H804 : Hp w0 ((Δ806 ++ (Row K38 (.slice A52 o41.f_l.length c54) o41.f_l :: Bx b51 75 [.slice A52 o41.f_l.length c54] :: Row K3 (.slice A83 y70.Vector.length c85) y70.Vector :: Bx b97 59 [.int .i64 y70.Income, .int .i64 y70.Expired, .int .i64 y70.Used, .int .i64 y70.New, .int .i64 y70.Taxable, .int .i64 y70.Tax, .slice A83 y70.Vector.length c85] :: Row K38 (.slice A87 o76.f_l.length c89) o76.f_l :: Bx b86 75 [.slice A87 o76.f_l.length c89] :: Γ))) wd805 := H804
                          refine sp_op [(135, .bool (y70.Expired == 0))] (ac (hE802 2 (by decide)) an) ?_
                          refine r_pure (.bool (y70.Expired == 0)) rfl ?_
                          exact r_nil (n_lp ⟨_, rfl, undef, rfl, H804⟩)
                        · intro η133 wd810 Δ811 hE807 hR808 H809
                          have H809 : Hp w0 ((Δ811 ++ (Row K38 (.slice A52 o41.f_l.length c54) o41.f_l :: Bx b51 75 [.slice A52 o41.f_l.length c54] :: Row K3 (.slice A83 y70.Vector.length c85) y70.Vector :: Bx b97 59 [.int .i64 y70.Income, .int .i64 y70.Expired, .int .i64 y70.Used, .int .i64 y70.New, .int .i64 y70.Taxable, .int .i64 y70.Tax, .slice A83 y70.Vector.length c85] :: Row K38 (.slice A87 o76.f_l.length c89) o76.f_l :: Bx b86 75 [.slice A87 o76.f_l.length c89] :: Γ))) wd810 := H809
                          refine sp_op [(12, .pointer (some ⟨b97, 0, none⟩)), (136, .bool (y70.Expired == 0))] (ac rfl (ac (hE807 3 (by decide)) an)) ?_
                          refine r_fa FA59_2 ⟨b97, 2, none⟩ rfl rfl ?_ (wn_t rfl rfl (by decide) rfl hb134)
                          exact r_nil (n_lp ⟨_, rfl, undef, rfl, H809⟩)
                        · intro η133 wd815 Δ816 hE812 hR813 H814
                          have H814 : Hp w0 ((Δ816 ++ (Row K38 (.slice A52 o41.f_l.length c54) o41.f_l :: Bx b51 75 [.slice A52 o41.f_l.length c54] :: Row K3 (.slice A83 y70.Vector.length c85) y70.Vector :: Bx b97 59 [.int .i64 y70.Income, .int .i64 y70.Expired, .int .i64 y70.Used, .int .i64 y70.New, .int .i64 y70.Taxable, .int .i64 y70.Tax, .slice A83 y70.Vector.length c85] :: Row K38 (.slice A87 o76.f_l.length c89) o76.f_l :: Bx b86 75 [.slice A87 o76.f_l.length c89] :: Γ))) wd815 := H814
                          refine sp_op [(136, .bool (y70.Expired == 0)), (137, .pointer (some ⟨b97, 2, none⟩))] (ac (hE812 3 (by decide)) (ac (hE812 4 (by decide)) an)) ?_
                          refine r_ld1 (.int .i64 y70.Used) LD3 rfl (((H814).tl.g3).cell _ rfl) ?_ (wn_t rfl rfl (by decide) rfl hb134)
                          exact r_nil (n_lp ⟨_, rfl, undef, rfl, H814⟩)
                        · intro η133 wd820 Δ821 hE817 hR818 H819
                          have H819 : Hp w0 ((Δ821 ++ (Row K38 (.slice A52 o41.f_l.length c54) o41.f_l :: Bx b51 75 [.slice A52 o41.f_l.length c54] :: Row K3 (.slice A83 y70.Vector.length c85) y70.Vector :: Bx b97 59 [.int .i64 y70.Income, .int .i64 y70.Expired, .int .i64 y70.Used, .int .i64 y70.New, .int .i64 y70.Taxable, .int .i64 y70.Tax, .slice A83 y70.Vector.length c85] :: Row K38 (.slice A87 o76.f_l.length c89) o76.f_l :: Bx b86 75 [.slice A87 o76.f_l.length c89] :: Γ))) wd820 := H819
                          refine sp_op [(14, .int .i64 (mn (w64 (1 + y1)) (w64 (Int.tdiv (w64 (2 * y7)) 2)))), (136, .bool (y70.Expired == 0))] (ac rfl (ac (hE817 3 (by decide)) an)) ?_
                          refine r_pure (.int .i64 (mn (w64 (1 + y1)) (w64 (Int.tdiv (w64 (2 * y7)) 2)))) rfl ?_ (wn_t rfl rfl (by decide) rfl hb134)
                          exact r_nil (n_lp ⟨_, rfl, undef, rfl, H819⟩)
                        · intro η133 wd825 Δ826 hE822 hR823 H824
                          have H824 : Hp w0 ((Δ826 ++ (Row K38 (.slice A52 o41.f_l.length c54) o41.f_l :: Bx b51 75 [.slice A52 o41.f_l.length c54] :: Row K3 (.slice A83 y70.Vector.length c85) y70.Vector :: Bx b97 59 [.int .i64 y70.Income, .int .i64 y70.Expired, .int .i64 y70.Used, .int .i64 y70.New, .int .i64 y70.Taxable, .int .i64 y70.Tax, .slice A83 y70.Vector.length c85] :: Row K38 (.slice A87 o76.f_l.length c89) o76.f_l :: Bx b86 75 [.slice A87 o76.f_l.length c89] :: Γ))) wd825 := H824
                          refine sp_op [(136, .bool (y70.Expired == 0)), (138, .int .i64 y70.Used), (139, .int .i64 (mn (w64 (1 + y1)) (w64 (Int.tdiv (w64 (2 * y7)) 2))))] (ac (hE822 3 (by decide)) (ac (hE822 5 (by decide)) (ac (hE822 6 (by decide)) an))) ?_
                          refine r_pure (.bool (y70.Used == mn (w64 (1 + y1)) (w64 (Int.tdiv (w64 (2 * y7)) 2)))) rfl ?_ (wn_t rfl rfl (by decide) rfl hb134)
                          exact r_nil (n_lp ⟨_, rfl, undef, rfl, H824⟩)
                        · intro η133 wd830 Δ831 hE827 hR828 H829
                          have H829 : Hp w0 ((Δ831 ++ (Row K38 (.slice A52 o41.f_l.length c54) o41.f_l :: Bx b51 75 [.slice A52 o41.f_l.length c54] :: Row K3 (.slice A83 y70.Vector.length c85) y70.Vector :: Bx b97 59 [.int .i64 y70.Income, .int .i64 y70.Expired, .int .i64 y70.Used, .int .i64 y70.New, .int .i64 y70.Taxable, .int .i64 y70.Tax, .slice A83 y70.Vector.length c85] :: Row K38 (.slice A87 o76.f_l.length c89) o76.f_l :: Bx b86 75 [.slice A87 o76.f_l.length c89] :: Γ))) wd830 := H829
                          refine sp_op [(136, .bool (y70.Expired == 0)), (140, .bool (y70.Used == mn (w64 (1 + y1)) (w64 (Int.tdiv (w64 (2 * y7)) 2))))] (ac (hE827 3 (by decide)) (ac (hE827 7 (by decide)) an)) ?_
                          refine r_pick_t (.bool (y70.Used == mn (w64 (1 + y1)) (w64 (Int.tdiv (w64 (2 * y7)) 2)))) hb134 rfl rfl ?_
                          exact r_nil (n_lp ⟨_, rfl, undef, rfl, H829⟩)
                        · intro η133 wd835 Δ836 hE832 hR833 H834
                          have H834 : Hp w0 ((Δ836 ++ (Row K38 (.slice A52 o41.f_l.length c54) o41.f_l :: Bx b51 75 [.slice A52 o41.f_l.length c54] :: Row K3 (.slice A83 y70.Vector.length c85) y70.Vector :: Bx b97 59 [.int .i64 y70.Income, .int .i64 y70.Expired, .int .i64 y70.Used, .int .i64 y70.New, .int .i64 y70.Taxable, .int .i64 y70.Tax, .slice A83 y70.Vector.length c85] :: Row K38 (.slice A87 o76.f_l.length c89) o76.f_l :: Bx b86 75 [.slice A87 o76.f_l.length c89] :: Γ))) wd835 := H834
                          refine sp_op [(141, .bool (y70.Used == mn (w64 (1 + y1)) (w64 (Int.tdiv (w64 (2 * y7)) 2))))] (ac (hE832 8 (by decide)) an) ?_
                          refine r_pure (.bool (y70.Used == mn (w64 (1 + y1)) (w64 (Int.tdiv (w64 (2 * y7)) 2)))) rfl ?_
                          exact r_nil (n_lp ⟨_, rfl, undef, rfl, H834⟩)
                        · intro η133 wd840 Δ841 hE837 hR838 H839
                          have H839 : Hp w0 ((Δ841 ++ (Row K38 (.slice A52 o41.f_l.length c54) o41.f_l :: Bx b51 75 [.slice A52 o41.f_l.length c54] :: Row K3 (.slice A83 y70.Vector.length c85) y70.Vector :: Bx b97 59 [.int .i64 y70.Income, .int .i64 y70.Expired, .int .i64 y70.Used, .int .i64 y70.New, .int .i64 y70.Taxable, .int .i64 y70.Tax, .slice A83 y70.Vector.length c85] :: Row K38 (.slice A87 o76.f_l.length c89) o76.f_l :: Bx b86 75 [.slice A87 o76.f_l.length c89] :: Γ))) wd840 := H839
                          refine sp_op [(12, .pointer (some ⟨b97, 0, none⟩)), (142, .bool (y70.Used == mn (w64 (1 + y1)) (w64 (Int.tdiv (w64 (2 * y7)) 2))))] (ac rfl (ac (hE837 9 (by decide)) an)) ?_
                          refine r_fa FA59_4 ⟨b97, 4, none⟩ rfl rfl ?_ (wn_t rfl rfl (by decide) rfl hb135)
                          exact r_nil (n_lp ⟨_, rfl, undef, rfl, H839⟩)
                        · intro η133 wd845 Δ846 hE842 hR843 H844
                          have H844 : Hp w0 ((Δ846 ++ (Row K38 (.slice A52 o41.f_l.length c54) o41.f_l :: Bx b51 75 [.slice A52 o41.f_l.length c54] :: Row K3 (.slice A83 y70.Vector.length c85) y70.Vector :: Bx b97 59 [.int .i64 y70.Income, .int .i64 y70.Expired, .int .i64 y70.Used, .int .i64 y70.New, .int .i64 y70.Taxable, .int .i64 y70.Tax, .slice A83 y70.Vector.length c85] :: Row K38 (.slice A87 o76.f_l.length c89) o76.f_l :: Bx b86 75 [.slice A87 o76.f_l.length c89] :: Γ))) wd845 := H844
                          refine sp_op [(142, .bool (y70.Used == mn (w64 (1 + y1)) (w64 (Int.tdiv (w64 (2 * y7)) 2)))), (143, .pointer (some ⟨b97, 4, none⟩))] (ac (hE842 9 (by decide)) (ac (hE842 10 (by decide)) an)) ?_
                          refine r_ld1 (.int .i64 y70.Taxable) LD3 rfl (((H844).tl.g3).cell _ rfl) ?_ (wn_t rfl rfl (by decide) rfl hb135)
                          exact r_nil (n_lp ⟨_, rfl, undef, rfl, H844⟩)
                        · intro η133 wd850 Δ851 hE847 hR848 H849
                          have H849 : Hp w0 ((Δ851 ++ (Row K38 (.slice A52 o41.f_l.length c54) o41.f_l :: Bx b51 75 [.slice A52 o41.f_l.length c54] :: Row K3 (.slice A83 y70.Vector.length c85) y70.Vector :: Bx b97 59 [.int .i64 y70.Income, .int .i64 y70.Expired, .int .i64 y70.Used, .int .i64 y70.New, .int .i64 y70.Taxable, .int .i64 y70.Tax, .slice A83 y70.Vector.length c85] :: Row K38 (.slice A87 o76.f_l.length c89) o76.f_l :: Bx b86 75 [.slice A87 o76.f_l.length c89] :: Γ))) wd850 := H849
                          refine sp_op [(1, .int .i64 (w64 (2 * y7))), (142, .bool (y70.Used == mn (w64 (1 + y1)) (w64 (Int.tdiv (w64 (2 * y7)) 2))))] (ac rfl (ac (hE847 9 (by decide)) an)) ?_
                          refine r_pure (.int .i64 (w64 (2 * y7))) rfl ?_ (wn_t rfl rfl (by decide) rfl hb135)
                          exact r_nil (n_lp ⟨_, rfl, undef, rfl, H849⟩)
                        · intro η133 wd855 Δ856 hE852 hR853 H854
                          have H854 : Hp w0 ((Δ856 ++ (Row K38 (.slice A52 o41.f_l.length c54) o41.f_l :: Bx b51 75 [.slice A52 o41.f_l.length c54] :: Row K3 (.slice A83 y70.Vector.length c85) y70.Vector :: Bx b97 59 [.int .i64 y70.Income, .int .i64 y70.Expired, .int .i64 y70.Used, .int .i64 y70.New, .int .i64 y70.Taxable, .int .i64 y70.Tax, .slice A83 y70.Vector.length c85] :: Row K38 (.slice A87 o76.f_l.length c89) o76.f_l :: Bx b86 75 [.slice A87 o76.f_l.length c89] :: Γ))) wd855 := H854
                          refine sp_op [(14, .int .i64 (mn (w64 (1 + y1)) (w64 (Int.tdiv (w64 (2 * y7)) 2)))), (142, .bool (y70.Used == mn (w64 (1 + y1)) (w64 (Int.tdiv (w64 (2 * y7)) 2))))] (ac rfl (ac (hE852 9 (by decide)) an)) ?_
                          refine r_pure (.int .i64 (mn (w64 (1 + y1)) (w64 (Int.tdiv (w64 (2 * y7)) 2)))) rfl ?_ (wn_t rfl rfl (by decide) rfl hb135)
                          exact r_nil (n_lp ⟨_, rfl, undef, rfl, H854⟩)
                        · intro η133 wd860 Δ861 hE857 hR858 H859
                          have H859 : Hp w0 ((Δ861 ++ (Row K38 (.slice A52 o41.f_l.length c54) o41.f_l :: Bx b51 75 [.slice A52 o41.f_l.length c54] :: Row K3 (.slice A83 y70.Vector.length c85) y70.Vector :: Bx b97 59 [.int .i64 y70.Income, .int .i64 y70.Expired, .int .i64 y70.Used, .int .i64 y70.New, .int .i64 y70.Taxable, .int .i64 y70.Tax, .slice A83 y70.Vector.length c85] :: Row K38 (.slice A87 o76.f_l.length c89) o76.f_l :: Bx b86 75 [.slice A87 o76.f_l.length c89] :: Γ))) wd860 := H859
                          refine sp_op [(142, .bool (y70.Used == mn (w64 (1 + y1)) (w64 (Int.tdiv (w64 (2 * y7)) 2)))), (145, .int .i64 (w64 (2 * y7))), (146, .int .i64 (mn (w64 (1 + y1)) (w64 (Int.tdiv (w64 (2 * y7)) 2))))] (ac (hE857 9 (by decide)) (ac (hE857 12 (by decide)) (ac (hE857 13 (by decide)) an))) ?_
                          refine r_pure (.int .i64 (w64 (w64 (2 * y7) - mn (w64 (1 + y1)) (w64 (Int.tdiv (w64 (2 * y7)) 2))))) rfl ?_ (wn_t rfl rfl (by decide) rfl hb135)
                          exact r_nil (n_lp ⟨_, rfl, undef, rfl, H859⟩)
                        · intro η133 wd865 Δ866 hE862 hR863 H864
                          have H864 : Hp w0 ((Δ866 ++ (Row K38 (.slice A52 o41.f_l.length c54) o41.f_l :: Bx b51 75 [.slice A52 o41.f_l.length c54] :: Row K3 (.slice A83 y70.Vector.length c85) y70.Vector :: Bx b97 59 [.int .i64 y70.Income, .int .i64 y70.Expired, .int .i64 y70.Used, .int .i64 y70.New, .int .i64 y70.Taxable, .int .i64 y70.Tax, .slice A83 y70.Vector.length c85] :: Row K38 (.slice A87 o76.f_l.length c89) o76.f_l :: Bx b86 75 [.slice A87 o76.f_l.length c89] :: Γ))) wd865 := H864
                          refine sp_op [(142, .bool (y70.Used == mn (w64 (1 + y1)) (w64 (Int.tdiv (w64 (2 * y7)) 2)))), (144, .int .i64 y70.Taxable), (147, .int .i64 (w64 (w64 (2 * y7) - mn (w64 (1 + y1)) (w64 (Int.tdiv (w64 (2 * y7)) 2)))))] (ac (hE862 9 (by decide)) (ac (hE862 11 (by decide)) (ac (hE862 14 (by decide)) an))) ?_
                          refine r_pure (.bool (y70.Taxable == w64 (w64 (2 * y7) - mn (w64 (1 + y1)) (w64 (Int.tdiv (w64 (2 * y7)) 2))))) rfl ?_ (wn_t rfl rfl (by decide) rfl hb135)
                          exact r_nil (n_lp ⟨_, rfl, undef, rfl, H864⟩)
                        · intro η133 wd870 Δ871 hE867 hR868 H869
                          have H869 : Hp w0 ((Δ871 ++ (Row K38 (.slice A52 o41.f_l.length c54) o41.f_l :: Bx b51 75 [.slice A52 o41.f_l.length c54] :: Row K3 (.slice A83 y70.Vector.length c85) y70.Vector :: Bx b97 59 [.int .i64 y70.Income, .int .i64 y70.Expired, .int .i64 y70.Used, .int .i64 y70.New, .int .i64 y70.Taxable, .int .i64 y70.Tax, .slice A83 y70.Vector.length c85] :: Row K38 (.slice A87 o76.f_l.length c89) o76.f_l :: Bx b86 75 [.slice A87 o76.f_l.length c89] :: Γ))) wd870 := H869
                          refine sp_op [(142, .bool (y70.Used == mn (w64 (1 + y1)) (w64 (Int.tdiv (w64 (2 * y7)) 2)))), (148, .bool (y70.Taxable == w64 (w64 (2 * y7) - mn (w64 (1 + y1)) (w64 (Int.tdiv (w64 (2 * y7)) 2)))))] (ac (hE867 9 (by decide)) (ac (hE867 15 (by decide)) an)) ?_
                          refine r_pick_t (.bool (y70.Taxable == w64 (w64 (2 * y7) - mn (w64 (1 + y1)) (w64 (Int.tdiv (w64 (2 * y7)) 2))))) hb135 rfl rfl ?_
                          exact r_nil (n_lp ⟨_, rfl, undef, rfl, H869⟩)
                        · intro η133 wd875 Δ876 hE872 hR873 H874
                          have H874 : Hp w0 ((Δ876 ++ (Row K38 (.slice A52 o41.f_l.length c54) o41.f_l :: Bx b51 75 [.slice A52 o41.f_l.length c54] :: Row K3 (.slice A83 y70.Vector.length c85) y70.Vector :: Bx b97 59 [.int .i64 y70.Income, .int .i64 y70.Expired, .int .i64 y70.Used, .int .i64 y70.New, .int .i64 y70.Taxable, .int .i64 y70.Tax, .slice A83 y70.Vector.length c85] :: Row K38 (.slice A87 o76.f_l.length c89) o76.f_l :: Bx b86 75 [.slice A87 o76.f_l.length c89] :: Γ))) wd875 := H874
                          refine sp_op [(149, .bool (y70.Taxable == w64 (w64 (2 * y7) - mn (w64 (1 + y1)) (w64 (Int.tdiv (w64 (2 * y7)) 2)))))] (ac (hE872 16 (by decide)) an) ?_
                          refine r_pure (.bool (y70.Taxable == w64 (w64 (2 * y7) - mn (w64 (1 + y1)) (w64 (Int.tdiv (w64 (2 * y7)) 2))))) rfl ?_
                          exact r_nil (n_lp ⟨_, rfl, undef, rfl, H874⟩)
                        · intro η133 wd880 Δ881 hE877 hR878 H879
                          have H879 : Hp w0 ((Δ881 ++ (Row K38 (.slice A52 o41.f_l.length c54) o41.f_l :: Bx b51 75 [.slice A52 o41.f_l.length c54] :: Row K3 (.slice A83 y70.Vector.length c85) y70.Vector :: Bx b97 59 [.int .i64 y70.Income, .int .i64 y70.Expired, .int .i64 y70.Used, .int .i64 y70.New, .int .i64 y70.Taxable, .int .i64 y70.Tax, .slice A83 y70.Vector.length c85] :: Row K38 (.slice A87 o76.f_l.length c89) o76.f_l :: Bx b86 75 [.slice A87 o76.f_l.length c89] :: Γ))) wd880 := H879
                          refine sp_op [(13, .pointer (some ⟨b86, 0, none⟩)), (150, .bool (y70.Taxable == w64 (w64 (2 * y7) - mn (w64 (1 + y1)) (w64 (Int.tdiv (w64 (2 * y7)) 2)))))] (ac rfl (ac (hE877 17 (by decide)) an)) ?_
                          refine r_not (wn_f rfl rfl (by decide) rfl hb136) ?_
                          exact r_nil (n_lp ⟨_, rfl, undef, rfl, H879⟩)
                        · intro η133 wd885 Δ886 hE882 hR883 H884
                          have H884 : Hp w0 ((Δ886 ++ (Row K38 (.slice A52 o41.f_l.length c54) o41.f_l :: Bx b51 75 [.slice A52 o41.f_l.length c54] :: Row K3 (.slice A83 y70.Vector.length c85) y70.Vector :: Bx b97 59 [.int .i64 y70.Income, .int .i64 y70.Expired, .int .i64 y70.Used, .int .i64 y70.New, .int .i64 y70.Taxable, .int .i64 y70.Tax, .slice A83 y70.Vector.length c85] :: Row K38 (.slice A87 o76.f_l.length c89) o76.f_l :: Bx b86 75 [.slice A87 o76.f_l.length c89] :: Γ))) wd885 := H884
                          refine sp_op [(150, .bool (y70.Taxable == w64 (w64 (2 * y7) - mn (w64 (1 + y1)) (w64 (Int.tdiv (w64 (2 * y7)) 2))))), (151, undef)] (ac (hE882 17 (by decide)) (ac (hE882 18 (by decide)) an)) ?_
                          refine r_not (wn_f rfl rfl (by decide) rfl hb136) ?_
                          exact r_nil (n_lp ⟨_, rfl, undef, rfl, H884⟩)
                        · intro η133 wd890 Δ891 hE887 hR888 H889
                          have H889 : Hp w0 ((Δ891 ++ (Row K38 (.slice A52 o41.f_l.length c54) o41.f_l :: Bx b51 75 [.slice A52 o41.f_l.length c54] :: Row K3 (.slice A83 y70.Vector.length c85) y70.Vector :: Bx b97 59 [.int .i64 y70.Income, .int .i64 y70.Expired, .int .i64 y70.Used, .int .i64 y70.New, .int .i64 y70.Taxable, .int .i64 y70.Tax, .slice A83 y70.Vector.length c85] :: Row K38 (.slice A87 o76.f_l.length c89) o76.f_l :: Bx b86 75 [.slice A87 o76.f_l.length c89] :: Γ))) wd890 := H889
                          refine sp_op [(0, .int .i64 (w64 (1 + y1))), (150, .bool (y70.Taxable == w64 (w64 (2 * y7) - mn (w64 (1 + y1)) (w64 (Int.tdiv (w64 (2 * y7)) 2)))))] (ac rfl (ac (hE887 17 (by decide)) an)) ?_
                          refine r_not (wn_f rfl rfl (by decide) rfl hb136) ?_
                          exact r_nil (n_lp ⟨_, rfl, undef, rfl, H889⟩)
                        · intro η133 wd895 Δ896 hE892 hR893 H894
                          have H894 : Hp w0 ((Δ896 ++ (Row K38 (.slice A52 o41.f_l.length c54) o41.f_l :: Bx b51 75 [.slice A52 o41.f_l.length c54] :: Row K3 (.slice A83 y70.Vector.length c85) y70.Vector :: Bx b97 59 [.int .i64 y70.Income, .int .i64 y70.Expired, .int .i64 y70.Used, .int .i64 y70.New, .int .i64 y70.Taxable, .int .i64 y70.Tax, .slice A83 y70.Vector.length c85] :: Row K38 (.slice A87 o76.f_l.length c89) o76.f_l :: Bx b86 75 [.slice A87 o76.f_l.length c89] :: Γ))) wd895 := H894
                          refine sp_op [(14, .int .i64 (mn (w64 (1 + y1)) (w64 (Int.tdiv (w64 (2 * y7)) 2)))), (150, .bool (y70.Taxable == w64 (w64 (2 * y7) - mn (w64 (1 + y1)) (w64 (Int.tdiv (w64 (2 * y7)) 2)))))] (ac rfl (ac (hE892 17 (by decide)) an)) ?_
                          refine r_not (wn_f rfl rfl (by decide) rfl hb136) ?_
                          exact r_nil (n_lp ⟨_, rfl, undef, rfl, H894⟩)
                        · intro η133 wd900 Δ901 hE897 hR898 H899
                          have H899 : Hp w0 ((Δ901 ++ (Row K38 (.slice A52 o41.f_l.length c54) o41.f_l :: Bx b51 75 [.slice A52 o41.f_l.length c54] :: Row K3 (.slice A83 y70.Vector.length c85) y70.Vector :: Bx b97 59 [.int .i64 y70.Income, .int .i64 y70.Expired, .int .i64 y70.Used, .int .i64 y70.New, .int .i64 y70.Taxable, .int .i64 y70.Tax, .slice A83 y70.Vector.length c85] :: Row K38 (.slice A87 o76.f_l.length c89) o76.f_l :: Bx b86 75 [.slice A87 o76.f_l.length c89] :: Γ))) wd900 := H899
                          refine sp_op [(150, .bool (y70.Taxable == w64 (w64 (2 * y7) - mn (w64 (1 + y1)) (w64 (Int.tdiv (w64 (2 * y7)) 2))))), (153, undef), (154, undef)] (ac (hE897 17 (by decide)) (ac (hE897 20 (by decide)) (ac (hE897 21 (by decide)) an))) ?_
                          refine r_not (wn_f rfl rfl (by decide) rfl hb136) ?_
                          exact r_nil (n_lp ⟨_, rfl, undef, rfl, H899⟩)
                        · intro η133 wd905 Δ906 hE902 hR903 H904
                          have H904 : Hp w0 ((Δ906 ++ (Row K38 (.slice A52 o41.f_l.length c54) o41.f_l :: Bx b51 75 [.slice A52 o41.f_l.length c54] :: Row K3 (.slice A83 y70.Vector.length c85) y70.Vector :: Bx b97 59 [.int .i64 y70.Income, .int .i64 y70.Expired, .int .i64 y70.Used, .int .i64 y70.New, .int .i64 y70.Taxable, .int .i64 y70.Tax, .slice A83 y70.Vector.length c85] :: Row K38 (.slice A87 o76.f_l.length c89) o76.f_l :: Bx b86 75 [.slice A87 o76.f_l.length c89] :: Γ))) wd905 := H904
                          refine sp_op [(150, .bool (y70.Taxable == w64 (w64 (2 * y7) - mn (w64 (1 + y1)) (w64 (Int.tdiv (w64 (2 * y7)) 2))))), (152, undef), (155, undef)] (ac (hE902 17 (by decide)) (ac (hE902 19 (by decide)) (ac (hE902 22 (by decide)) an))) ?_
                          refine r_not (wn_f rfl rfl (by decide) rfl hb136) ?_
                          exact r_nil (n_lp ⟨_, rfl, undef, rfl, H904⟩)
                        · intro η133 wd910 Δ911 hE907 hR908 H909
                          have H909 : Hp w0 ((Δ911 ++ (Row K38 (.slice A52 o41.f_l.length c54) o41.f_l :: Bx b51 75 [.slice A52 o41.f_l.length c54] :: Row K3 (.slice A83 y70.Vector.length c85) y70.Vector :: Bx b97 59 [.int .i64 y70.Income, .int .i64 y70.Expired, .int .i64 y70.Used, .int .i64 y70.New, .int .i64 y70.Taxable, .int .i64 y70.Tax, .slice A83 y70.Vector.length c85] :: Row K38 (.slice A87 o76.f_l.length c89) o76.f_l :: Bx b86 75 [.slice A87 o76.f_l.length c89] :: Γ))) wd910 := H909
                          refine sp_op [(150, .bool (y70.Taxable == w64 (w64 (2 * y7) - mn (w64 (1 + y1)) (w64 (Int.tdiv (w64 (2 * y7)) 2))))), (156, undef)] (ac (hE907 17 (by decide)) (ac (hE907 23 (by decide)) an)) ?_
                          refine r_pick_f (.bool false) hb136 rfl rfl ?_
                          exact r_nil (n_lp ⟨_, rfl, undef, rfl, H909⟩)
                        · intro η133 wd915 Δ916 hE912 hR913 H914
                          have H914 : Hp w0 ((Δ916 ++ (Row K38 (.slice A52 o41.f_l.length c54) o41.f_l :: Bx b51 75 [.slice A52 o41.f_l.length c54] :: Row K3 (.slice A83 y70.Vector.length c85) y70.Vector :: Bx b97 59 [.int .i64 y70.Income, .int .i64 y70.Expired, .int .i64 y70.Used, .int .i64 y70.New, .int .i64 y70.Taxable, .int .i64 y70.Tax, .slice A83 y70.Vector.length c85] :: Row K38 (.slice A87 o76.f_l.length c89) o76.f_l :: Bx b86 75 [.slice A87 o76.f_l.length c89] :: Γ))) wd915 := H914
                          refine sp_op [(157, .bool false)] (ac (hE912 24 (by decide)) an) ?_
                          refine r_pure (.bool false) rfl ?_
                          exact r_nil (n_lp ⟨_, rfl, undef, rfl, H914⟩)
                        · intro η133 wd920 Δ921 hE917 hR918 H919
                          have H919 : Hp w0 ((Δ921 ++ (Row K38 (.slice A52 o41.f_l.length c54) o41.f_l :: Bx b51 75 [.slice A52 o41.f_l.length c54] :: Row K3 (.slice A83 y70.Vector.length c85) y70.Vector :: Bx b97 59 [.int .i64 y70.Income, .int .i64 y70.Expired, .int .i64 y70.Used, .int .i64 y70.New, .int .i64 y70.Taxable, .int .i64 y70.Tax, .slice A83 y70.Vector.length c85] :: Row K38 (.slice A87 o76.f_l.length c89) o76.f_l :: Bx b86 75 [.slice A87 o76.f_l.length c89] :: Γ))) wd920 := H919
                          refine sp_op [(12, .pointer (some ⟨b97, 0, none⟩)), (158, .bool false)] (ac rfl (ac (hE917 25 (by decide)) an)) ?_
                          refine r_not (wn_f rfl rfl (by decide) rfl rfl) ?_
                          exact r_nil (n_lp ⟨_, rfl, undef, rfl, H919⟩)
                        · intro η133 wd925 Δ926 hE922 hR923 H924
                          have H924 : Hp w0 ((Δ926 ++ (Row K38 (.slice A52 o41.f_l.length c54) o41.f_l :: Bx b51 75 [.slice A52 o41.f_l.length c54] :: Row K3 (.slice A83 y70.Vector.length c85) y70.Vector :: Bx b97 59 [.int .i64 y70.Income, .int .i64 y70.Expired, .int .i64 y70.Used, .int .i64 y70.New, .int .i64 y70.Taxable, .int .i64 y70.Tax, .slice A83 y70.Vector.length c85] :: Row K38 (.slice A87 o76.f_l.length c89) o76.f_l :: Bx b86 75 [.slice A87 o76.f_l.length c89] :: Γ))) wd925 := H924
                          refine sp_op [(158, .bool false), (159, undef)] (ac (hE922 25 (by decide)) (ac (hE922 26 (by decide)) an)) ?_
                          refine r_not (wn_f rfl rfl (by decide) rfl rfl) ?_
                          exact r_nil (n_lp ⟨_, rfl, undef, rfl, H924⟩)
                        · intro η133 wd930 Δ931 hE927 hR928 H929
                          have H929 : Hp w0 ((Δ931 ++ (Row K38 (.slice A52 o41.f_l.length c54) o41.f_l :: Bx b51 75 [.slice A52 o41.f_l.length c54] :: Row K3 (.slice A83 y70.Vector.length c85) y70.Vector :: Bx b97 59 [.int .i64 y70.Income, .int .i64 y70.Expired, .int .i64 y70.Used, .int .i64 y70.New, .int .i64 y70.Taxable, .int .i64 y70.Tax, .slice A83 y70.Vector.length c85] :: Row K38 (.slice A87 o76.f_l.length c89) o76.f_l :: Bx b86 75 [.slice A87 o76.f_l.length c89] :: Γ))) wd930 := H929
                          refine sp_op [(1, .int .i64 (w64 (2 * y7))), (158, .bool false)] (ac rfl (ac (hE927 25 (by decide)) an)) ?_
                          refine r_not (wn_f rfl rfl (by decide) rfl rfl) ?_
                          exact r_nil (n_lp ⟨_, rfl, undef, rfl, H929⟩)
                        · intro η133 wd935 Δ936 hE932 hR933 H934
                          have H934 : Hp w0 ((Δ936 ++ (Row K38 (.slice A52 o41.f_l.length c54) o41.f_l :: Bx b51 75 [.slice A52 o41.f_l.length c54] :: Row K3 (.slice A83 y70.Vector.length c85) y70.Vector :: Bx b97 59 [.int .i64 y70.Income, .int .i64 y70.Expired, .int .i64 y70.Used, .int .i64 y70.New, .int .i64 y70.Taxable, .int .i64 y70.Tax, .slice A83 y70.Vector.length c85] :: Row K38 (.slice A87 o76.f_l.length c89) o76.f_l :: Bx b86 75 [.slice A87 o76.f_l.length c89] :: Γ))) wd935 := H934
                          refine sp_op [(14, .int .i64 (mn (w64 (1 + y1)) (w64 (Int.tdiv (w64 (2 * y7)) 2)))), (158, .bool false)] (ac rfl (ac (hE932 25 (by decide)) an)) ?_
                          refine r_not (wn_f rfl rfl (by decide) rfl rfl) ?_
                          exact r_nil (n_lp ⟨_, rfl, undef, rfl, H934⟩)
                        · intro η133 wd940 Δ941 hE937 hR938 H939
                          have H939 : Hp w0 ((Δ941 ++ (Row K38 (.slice A52 o41.f_l.length c54) o41.f_l :: Bx b51 75 [.slice A52 o41.f_l.length c54] :: Row K3 (.slice A83 y70.Vector.length c85) y70.Vector :: Bx b97 59 [.int .i64 y70.Income, .int .i64 y70.Expired, .int .i64 y70.Used, .int .i64 y70.New, .int .i64 y70.Taxable, .int .i64 y70.Tax, .slice A83 y70.Vector.length c85] :: Row K38 (.slice A87 o76.f_l.length c89) o76.f_l :: Bx b86 75 [.slice A87 o76.f_l.length c89] :: Γ))) wd940 := H939
                          refine sp_op [(158, .bool false), (161, undef), (162, undef)] (ac (hE937 25 (by decide)) (ac (hE937 28 (by decide)) (ac (hE937 29 (by decide)) an))) ?_
                          refine r_not (wn_f rfl rfl (by decide) rfl rfl) ?_
                          exact r_nil (n_lp ⟨_, rfl, undef, rfl, H939⟩)
                        · intro η133 wd945 Δ946 hE942 hR943 H944
                          have H944 : Hp w0 ((Δ946 ++ (Row K38 (.slice A52 o41.f_l.length c54) o41.f_l :: Bx b51 75 [.slice A52 o41.f_l.length c54] :: Row K3 (.slice A83 y70.Vector.length c85) y70.Vector :: Bx b97 59 [.int .i64 y70.Income, .int .i64 y70.Expired, .int .i64 y70.Used, .int .i64 y70.New, .int .i64 y70.Taxable, .int .i64 y70.Tax, .slice A83 y70.Vector.length c85] :: Row K38 (.slice A87 o76.f_l.length c89) o76.f_l :: Bx b86 75 [.slice A87 o76.f_l.length c89] :: Γ))) wd945 := H944
                          refine sp_op [(158, .bool false), (160, undef), (163, undef)] (ac (hE942 25 (by decide)) (ac (hE942 27 (by decide)) (ac (hE942 30 (by decide)) an))) ?_
                          refine r_not (wn_f rfl rfl (by decide) rfl rfl) ?_
                          exact r_nil (n_lp ⟨_, rfl, undef, rfl, H944⟩)
                        · intro η133 wd950 Δ951 hE947 hR948 H949
                          have H949 : Hp w0 ((Δ951 ++ (Row K38 (.slice A52 o41.f_l.length c54) o41.f_l :: Bx b51 75 [.slice A52 o41.f_l.length c54] :: Row K3 (.slice A83 y70.Vector.length c85) y70.Vector :: Bx b97 59 [.int .i64 y70.Income, .int .i64 y70.Expired, .int .i64 y70.Used, .int .i64 y70.New, .int .i64 y70.Taxable, .int .i64 y70.Tax, .slice A83 y70.Vector.length c85] :: Row K38 (.slice A87 o76.f_l.length c89) o76.f_l :: Bx b86 75 [.slice A87 o76.f_l.length c89] :: Γ))) wd950 := H949
                          refine sp_op [(158, .bool false), (164, undef)] (ac (hE947 25 (by decide)) (ac (hE947 31 (by decide)) an)) ?_
                          refine r_pick_f (.bool false) rfl rfl rfl ?_
                          exact r_nil (n_lp ⟨_, rfl, undef, rfl, H949⟩)
                        · intro η133 wd955 Δ956 hE952 hR953 H954
                          have H954 : Hp w0 ((Δ956 ++ (Row K38 (.slice A52 o41.f_l.length c54) o41.f_l :: Bx b51 75 [.slice A52 o41.f_l.length c54] :: Row K3 (.slice A83 y70.Vector.length c85) y70.Vector :: Bx b97 59 [.int .i64 y70.Income, .int .i64 y70.Expired, .int .i64 y70.Used, .int .i64 y70.New, .int .i64 y70.Taxable, .int .i64 y70.Tax, .slice A83 y70.Vector.length c85] :: Row K38 (.slice A87 o76.f_l.length c89) o76.f_l :: Bx b86 75 [.slice A87 o76.f_l.length c89] :: Γ))) wd955 := H954
                          refine sp_op [(165, .bool false)] (ac (hE952 32 (by decide)) an) ?_
                          refine r_pure (.bool false) rfl ?_
                          exact r_nil (n_lp ⟨_, rfl, undef, rfl, H954⟩)
                        · intro η133 wd960 Δ961 hE957 hR958 H959
                          have H959 : Hp w0 ((Δ961 ++ (Row K38 (.slice A52 o41.f_l.length c54) o41.f_l :: Bx b51 75 [.slice A52 o41.f_l.length c54] :: Row K3 (.slice A83 y70.Vector.length c85) y70.Vector :: Bx b97 59 [.int .i64 y70.Income, .int .i64 y70.Expired, .int .i64 y70.Used, .int .i64 y70.New, .int .i64 y70.Taxable, .int .i64 y70.Tax, .slice A83 y70.Vector.length c85] :: Row K38 (.slice A87 o76.f_l.length c89) o76.f_l :: Bx b86 75 [.slice A87 o76.f_l.length c89] :: Γ))) wd960 := H959
                          refine sp_op [(166, .bool false)] (ac (hE957 33 (by decide)) an) ?_
                          refine r_not (wn_f rfl rfl (by decide) rfl rfl) ?_
                          exact r_nil (n_lp ⟨_, rfl, undef, rfl, H959⟩)
                        · intro η133 wd965 Δ966 hE962 hR963 H964
                          have H964 : Hp w0 ((Δ966 ++ (Row K38 (.slice A52 o41.f_l.length c54) o41.f_l :: Bx b51 75 [.slice A52 o41.f_l.length c54] :: Row K3 (.slice A83 y70.Vector.length c85) y70.Vector :: Bx b97 59 [.int .i64 y70.Income, .int .i64 y70.Expired, .int .i64 y70.Used, .int .i64 y70.New, .int .i64 y70.Taxable, .int .i64 y70.Tax, .slice A83 y70.Vector.length c85] :: Row K38 (.slice A87 o76.f_l.length c89) o76.f_l :: Bx b86 75 [.slice A87 o76.f_l.length c89] :: Γ))) wd965 := H964
                          refine sp_op [(166, .bool false), (167, undef)] (ac (hE962 33 (by decide)) (ac (hE962 34 (by decide)) an)) ?_
                          refine r_pick_f (.bool false) rfl rfl rfl ?_
                          exact r_nil (n_lp ⟨_, rfl, undef, rfl, H964⟩)
                        · intro η133 wd970 Δ971 hE967 hR968 H969
                          have H969 : Hp w0 ((Δ971 ++ (Row K38 (.slice A52 o41.f_l.length c54) o41.f_l :: Bx b51 75 [.slice A52 o41.f_l.length c54] :: Row K3 (.slice A83 y70.Vector.length c85) y70.Vector :: Bx b97 59 [.int .i64 y70.Income, .int .i64 y70.Expired, .int .i64 y70.Used, .int .i64 y70.New, .int .i64 y70.Taxable, .int .i64 y70.Tax, .slice A83 y70.Vector.length c85] :: Row K38 (.slice A87 o76.f_l.length c89) o76.f_l :: Bx b86 75 [.slice A87 o76.f_l.length c89] :: Γ))) wd970 := H969
                          refine sp_op [(168, .bool false)] (ac (hE967 35 (by decide)) an) ?_
                          refine r_pure (.bool false) rfl ?_
                          exact r_nil (n_lp ⟨_, rfl, undef, rfl, H969⟩)
                        · intro η133 wd973 hV974 H972
                          have H975 : Hp w0 (Row K38 (.slice A52 o41.f_l.length c54) o41.f_l :: Bx b51 75 [.slice A52 o41.f_l.length c54] :: Row K3 (.slice A83 y70.Vector.length c85) y70.Vector :: Bx b97 59 [.int .i64 y70.Income, .int .i64 y70.Expired, .int .i64 y70.Used, .int .i64 y70.New, .int .i64 y70.Taxable, .int .i64 y70.Tax, .slice A83 y70.Vector.length c85] :: Row K38 (.slice A87 o76.f_l.length c89) o76.f_l :: Bx b86 75 [.slice A87 o76.f_l.length c89] :: Γ) wd973 := H972
                          refine n_frame [(8, .bool false)] (ac (hV974 36 rfl) an) ?_
                          refine n_cut ⟨false, upk (ac rfl an), H975.d.d.d.d.d.d, hm⟩
                    · refine Flow.run' [[], [0], [0, 1], [0, 1, 2], [0, 1, 2, 3], [0, 1, 2, 3, 4], [0, 1, 2, 3], [0, 1, 2, 3, 4, 5, 6], [0, 1, 2, 3, 4, 5, 6, 7], [0, 1, 2, 3, 4, 5, 6, 7, 8], [0, 1, 2, 3, 4, 5, 6, 7, 8, 9], [0, 1, 2, 3, 4, 5, 6, 7, 8, 9, 10], [0, 1, 2, 3, 4, 5, 6, 7, 8, 9], [0, 1, 2, 3, 4, 5, 6, 7, 8, 9], [0, 1, 2, 3, 4, 5, 6, 7, 8, 9, 12, 13], [0, 1, 2, 3, 4, 5, 6, 7, 8, 9, 10, 11, 12, 13, 14], [0, 1, 2, 3, 4, 5, 6, 7, 8, 9, 10, 11, 12, 13, 14, 15], [0, 1, 2, 3, 4, 5, 6, 7, 8, 9, 10, 11, 12, 13, 14, 15, 16], [0, 1, 2, 3, 4, 5, 6, 7, 8, 9, 10, 11, 12, 13, 14, 15, 16, 17], [0, 1, 2, 3, 4, 5, 6, 7, 8, 9, 10, 11, 12, 13, 14, 15, 16, 17, 18], [0, 1, 2, 3, 4, 5, 6, 7, 8, 9, 10, 11, 12, 13, 14, 15, 16, 17], [0, 1, 2, 3, 4, 5, 6, 7, 8, 9, 10, 11, 12, 13, 14, 15, 16, 17], [0, 1, 2, 3, 4, 5, 6, 7, 8, 9, 10, 11, 12, 13, 14, 15, 16, 17, 20, 21], [0, 1, 2, 3, 4, 5, 6, 7, 8, 9, 10, 11, 12, 13, 14, 15, 16, 17, 18, 19, 20, 21, 22], [0, 1, 2, 3, 4, 5, 6, 7, 8, 9, 10, 11, 12, 13, 14, 15, 16, 17, 18, 19, 20, 21, 22, 23], [0, 1, 2, 3, 4, 5, 6, 7, 8, 9, 10, 11, 12, 13, 14, 15, 16, 17, 18, 19, 20, 21, 22, 23, 24], [0, 1, 2, 3, 4, 5, 6, 7, 8, 9, 10, 11, 12, 13, 14, 15, 16, 17, 18, 19, 20, 21, 22, 23, 24, 25], [0, 1, 2, 3, 4, 5, 6, 7, 8, 9, 10, 11, 12, 13, 14, 15, 16, 17, 18, 19, 20, 21, 22, 23, 24, 25, 26], [0, 1, 2, 3, 4, 5, 6, 7, 8, 9, 10, 11, 12, 13, 14, 15, 16, 17, 18, 19, 20, 21, 22, 23, 24, 25], [0, 1, 2, 3, 4, 5, 6, 7, 8, 9, 10, 11, 12, 13, 14, 15, 16, 17, 18, 19, 20, 21, 22, 23, 24, 25], [0, 1, 2, 3, 4, 5, 6, 7, 8, 9, 10, 11, 12, 13, 14, 15, 16, 17, 18, 19, 20, 21, 22, 23, 24, 25, 28, 29], [0, 1, 2, 3, 4, 5, 6, 7, 8, 9, 10, 11, 12, 13, 14, 15, 16, 17, 18, 19, 20, 21, 22, 23, 24, 25, 26, 27, 28, 29, 30], [0, 1, 2, 3, 4, 5, 6, 7, 8, 9, 10, 11, 12, 13, 14, 15, 16, 17, 18, 19, 20, 21, 22, 23, 24, 25, 26, 27, 28, 29, 30, 31], [0, 1, 2, 3, 4, 5, 6, 7, 8, 9, 10, 11, 12, 13, 14, 15, 16, 17, 18, 19, 20, 21, 22, 23, 24, 25, 26, 27, 28, 29, 30, 31, 32], [0, 1, 2, 3, 4, 5, 6, 7, 8, 9, 10, 11, 12, 13, 14, 15, 16, 17, 18, 19, 20, 21, 22, 23, 24, 25, 26, 27, 28, 29, 30, 31, 32, 33], [0, 1, 2, 3, 4, 5, 6, 7, 8, 9, 10, 11, 12, 13, 14, 15, 16, 17, 18, 19, 20, 21, 22, 23, 24, 25, 26, 27, 28, 29, 30, 31, 32, 33, 34], [0, 1, 2, 3, 4, 5, 6, 7, 8, 9, 10, 11, 12, 13, 14, 15, 16, 17, 18, 19, 20, 21, 22, 23, 24, 25, 26, 27, 28, 29, 30, 31, 32, 33, 34, 35]] [(133, 0), (134, 1), (135, 2), (136, 3), (137, 4), (138, 5), (139, 6), (140, 7), (141, 8), (142, 9), (143, 10), (144, 11), (145, 12), (146, 13), (147, 14), (148, 15), (149, 16), (150, 17), (151, 18), (152, 19), (153, 20), (154, 21), (155, 22), (156, 23), (157, 24), (158, 25), (159, 26), (160, 27), (161, 28), (162, 29), (163, 30), (164, 31), (165, 32), (166, 33), (167, 34), (168, 35), (8, 36)] [(fun η133 v => v.1 = .pointer (some ⟨b97, 1, none⟩)), (fun η133 v => v.1 = .int .i64 y70.Expired), (fun η133 v => v.1 = .bool (y70.Expired == 0)), (fun η133 v => v.1 = .bool (y70.Expired == 0)), (fun η133 v => v.1 = .pointer (some ⟨b97, 2, none⟩)), (fun η133 v => v.1 = .int .i64 y70.Used), (fun η133 v => v.1 = .int .i64 (mn (w64 (1 + y1)) (w64 (Int.tdiv (w64 (2 * y7)) 2)))), (fun η133 v => v.1 = .bool (y70.Used == mn (w64 (1 + y1)) (w64 (Int.tdiv (w64 (2 * y7)) 2)))), (fun η133 v => v.1 = .bool (y70.Used == mn (w64 (1 + y1)) (w64 (Int.tdiv (w64 (2 * y7)) 2)))), (fun η133 v => v.1 = .bool (y70.Used == mn (w64 (1 + y1)) (w64 (Int.tdiv (w64 (2 * y7)) 2)))), (fun η133 v => v.1 = undef), (fun η133 v => v.1 = undef), (fun η133 v => v.1 = undef), (fun η133 v => v.1 = undef), (fun η133 v => v.1 = undef), (fun η133 v => v.1 = undef), (fun η133 v => v.1 = .bool false), (fun η133 v => v.1 = .bool false), (fun η133 v => v.1 = undef), (fun η133 v => v.1 = undef), (fun η133 v => v.1 = undef), (fun η133 v => v.1 = undef), (fun η133 v => v.1 = undef), (fun η133 v => v.1 = undef), (fun η133 v => v.1 = .bool false), (fun η133 v => v.1 = .bool false), (fun η133 v => v.1 = undef), (fun η133 v => v.1 = undef), (fun η133 v => v.1 = undef), (fun η133 v => v.1 = undef), (fun η133 v => v.1 = undef), (fun η133 v => v.1 = undef), (fun η133 v => v.1 = .bool false), (fun η133 v => v.1 = .bool false), (fun η133 v => v.1 = undef), (fun η133 v => v.1 = .bool false), (fun η133 v => v.1 = .bool false)] [] rfl (by kernel_rfl) (by kernel_rfl) H103 ⟨?_, ?_, ?_, ?_, ?_, ?_, ?_, ?_, ?_, ?_, ?_, ?_, ?_, ?_, ?_, ?_, ?_, ?_, ?_, ?_, ?_, ?_, ?_, ?_, ?_, ?_, ?_, ?_, ?_, ?_, ?_, ?_, ?_, ?_, ?_, ?_, ?_, trivial⟩ ?_
                      · intro η133 wd979 Δ980 hE976 hR977 H978
                        have H978 : Hp w0 ((Δ980 ++ (Row K38 (.slice A52 o41.f_l.length c54) o41.f_l :: Bx b51 75 [.slice A52 o41.f_l.length c54] :: Row K3 (.slice A83 y70.Vector.length c85) y70.Vector :: Bx b97 59 [.int .i64 y70.Income, .int .i64 y70.Expired, .int .i64 y70.Used, .int .i64 y70.New, .int .i64 y70.Taxable, .int .i64 y70.Tax, .slice A83 y70.Vector.length c85] :: Row K38 (.slice A87 o76.f_l.length c89) o76.f_l :: Bx b86 75 [.slice A87 o76.f_l.length c89] :: Γ))) wd979 := H978
                        refine sp_op [(12, .pointer (some ⟨b97, 0, none⟩))] (ac rfl an) ?_
                        refine r_fa FA59_1 ⟨b97, 1, none⟩ rfl rfl ?_
                        exact r_nil (n_lp ⟨_, rfl, undef, rfl, H978⟩)
                      · intro η133 wd984 Δ985 hE981 hR982 H983
                        have H983 : Hp w0 ((Δ985 ++ (Row K38 (.slice A52 o41.f_l.length c54) o41.f_l :: Bx b51 75 [.slice A52 o41.f_l.length c54] :: Row K3 (.slice A83 y70.Vector.length c85) y70.Vector :: Bx b97 59 [.int .i64 y70.Income, .int .i64 y70.Expired, .int .i64 y70.Used, .int .i64 y70.New, .int .i64 y70.Taxable, .int .i64 y70.Tax, .slice A83 y70.Vector.length c85] :: Row K38 (.slice A87 o76.f_l.length c89) o76.f_l :: Bx b86 75 [.slice A87 o76.f_l.length c89] :: Γ))) wd984 := H983
                        refine sp_op [(133, .pointer (some ⟨b97, 1, none⟩))] (ac (hE981 0 (by decide)) an) ?_
                        refine r_ld1 (.int .i64 y70.Expired) LD3 rfl (((H983).tl.g3).cell _ rfl) ?_
                        exact r_nil (n_lp ⟨_, rfl, undef, rfl, H983⟩)
                      · intro η133 wd989 Δ990 hE986 hR987 H988
                        have H988 : Hp w0 ((Δ990 ++ (Row K38 (.slice A52 o41.f_l.length c54) o41.f_l :: Bx b51 75 [.slice A52 o41.f_l.length c54] :: Row K3 (.slice A83 y70.Vector.length c85) y70.Vector :: Bx b97 59 [.int .i64 y70.Income, .int .i64 y70.Expired, .int .i64 y70.Used, .int .i64 y70.New, .int .i64 y70.Taxable, .int .i64 y70.Tax, .slice A83 y70.Vector.length c85] :: Row K38 (.slice A87 o76.f_l.length c89) o76.f_l :: Bx b86 75 [.slice A87 o76.f_l.length c89] :: Γ))) wd989 := H988
                        refine sp_op [(134, .int .i64 y70.Expired)] (ac (hE986 1 (by decide)) an) ?_
                        refine r_pure (.bool (y70.Expired == 0)) rfl ?_
                        exact r_nil (n_lp ⟨_, rfl, undef, rfl, H988⟩)
                      · intro η133 wd994 Δ995 hE991 hR992 H993
                        have H993 : Hp w0 ((Δ995 ++ (Row K38 (.slice A52 o41.f_l.length c54) o41.f_l :: Bx b51 75 [.slice A52 o41.f_l.length c54] :: Row K3 (.slice A83 y70.Vector.length c85) y70.Vector :: Bx b97 59 [.int .i64 y70.Income, .int .i64 y70.Expired, .int .i64 y70.Used, .int .i64 y70.New, .int .i64 y70.Taxable, .int .i64 y70.Tax, .slice A83 y70.Vector.length c85] :: Row K38 (.slice A87 o76.f_l.length c89) o76.f_l :: Bx b86 75 [.slice A87 o76.f_l.length c89] :: Γ))) wd994 := H993
                        refine sp_op [(135, .bool (y70.Expired == 0))] (ac (hE991 2 (by decide)) an) ?_
                        refine r_pure (.bool (y70.Expired == 0)) rfl ?_
                        exact r_nil (n_lp ⟨_, rfl, undef, rfl, H993⟩)
                      · intro η133 wd999 Δ1000 hE996 hR997 H998
                        have H998 : Hp w0 ((Δ1000 ++ (Row K38 (.slice A52 o41.f_l.length c54) o41.f_l :: Bx b51 75 [.slice A52 o41.f_l.length c54] :: Row K3 (.slice A83 y70.Vector.length c85) y70.Vector :: Bx b97 59 [.int .i64 y70.Income, .int .i64 y70.Expired, .int .i64 y70.Used, .int .i64 y70.New, .int .i64 y70.Taxable, .int .i64 y70.Tax, .slice A83 y70.Vector.length c85] :: Row K38 (.slice A87 o76.f_l.length c89) o76.f_l :: Bx b86 75 [.slice A87 o76.f_l.length c89] :: Γ))) wd999 := H998
                        refine sp_op [(12, .pointer (some ⟨b97, 0, none⟩)), (136, .bool (y70.Expired == 0))] (ac rfl (ac (hE996 3 (by decide)) an)) ?_
                        refine r_fa FA59_2 ⟨b97, 2, none⟩ rfl rfl ?_ (wn_t rfl rfl (by decide) rfl hb134)
                        exact r_nil (n_lp ⟨_, rfl, undef, rfl, H998⟩)
                      · intro η133 wd1004 Δ1005 hE1001 hR1002 H1003
                        have H1003 : Hp w0 ((Δ1005 ++ (Row K38 (.slice A52 o41.f_l.length c54) o41.f_l :: Bx b51 75 [.slice A52 o41.f_l.length c54] :: Row K3 (.slice A83 y70.Vector.length c85) y70.Vector :: Bx b97 59 [.int .i64 y70.Income, .int .i64 y70.Expired, .int .i64 y70.Used, .int .i64 y70.New, .int .i64 y70.Taxable, .int .i64 y70.Tax, .slice A83 y70.Vector.length c85] :: Row K38 (.slice A87 o76.f_l.length c89) o76.f_l :: Bx b86 75 [.slice A87 o76.f_l.length c89] :: Γ))) wd1004 := H1003
                        refine sp_op [(136, .bool (y70.Expired == 0)), (137, .pointer (some ⟨b97, 2, none⟩))] (ac (hE1001 3 (by decide)) (ac (hE1001 4 (by decide)) an)) ?_
                        refine r_ld1 (.int .i64 y70.Used) LD3 rfl (((H1003).tl.g3).cell _ rfl) ?_ (wn_t rfl rfl (by decide) rfl hb134)
                        exact r_nil (n_lp ⟨_, rfl, undef, rfl, H1003⟩)
                      · intro η133 wd1009 Δ1010 hE1006 hR1007 H1008
                        have H1008 : Hp w0 ((Δ1010 ++ (Row K38 (.slice A52 o41.f_l.length c54) o41.f_l :: Bx b51 75 [.slice A52 o41.f_l.length c54] :: Row K3 (.slice A83 y70.Vector.length c85) y70.Vector :: Bx b97 59 [.int .i64 y70.Income, .int .i64 y70.Expired, .int .i64 y70.Used, .int .i64 y70.New, .int .i64 y70.Taxable, .int .i64 y70.Tax, .slice A83 y70.Vector.length c85] :: Row K38 (.slice A87 o76.f_l.length c89) o76.f_l :: Bx b86 75 [.slice A87 o76.f_l.length c89] :: Γ))) wd1009 := H1008
                        refine sp_op [(14, .int .i64 (mn (w64 (1 + y1)) (w64 (Int.tdiv (w64 (2 * y7)) 2)))), (136, .bool (y70.Expired == 0))] (ac rfl (ac (hE1006 3 (by decide)) an)) ?_
                        refine r_pure (.int .i64 (mn (w64 (1 + y1)) (w64 (Int.tdiv (w64 (2 * y7)) 2)))) rfl ?_ (wn_t rfl rfl (by decide) rfl hb134)
                        exact r_nil (n_lp ⟨_, rfl, undef, rfl, H1008⟩)
                      · intro η133 wd1014 Δ1015 hE1011 hR1012 H1013
                        have H1013 : Hp w0 ((Δ1015 ++ (Row K38 (.slice A52 o41.f_l.length c54) o41.f_l :: Bx b51 75 [.slice A52 o41.f_l.length c54] :: Row K3 (.slice A83 y70.Vector.length c85) y70.Vector :: Bx b97 59 [.int .i64 y70.Income, .int .i64 y70.Expired, .int .i64 y70.Used, .int .i64 y70.New, .int .i64 y70.Taxable, .int .i64 y70.Tax, .slice A83 y70.Vector.length c85] :: Row K38 (.slice A87 o76.f_l.length c89) o76.f_l :: Bx b86 75 [.slice A87 o76.f_l.length c89] :: Γ))) wd1014 := H1013
                        refine sp_op [(136, .bool (y70.Expired == 0)), (138, .int .i64 y70.Used), (139, .int .i64 (mn (w64 (1 + y1)) (w64 (Int.tdiv (w64 (2 * y7)) 2))))] (ac (hE1011 3 (by decide)) (ac (hE1011 5 (by decide)) (ac (hE1011 6 (by decide)) an))) ?_
                        refine r_pure (.bool (y70.Used == mn (w64 (1 + y1)) (w64 (Int.tdiv (w64 (2 * y7)) 2)))) rfl ?_ (wn_t rfl rfl (by decide) rfl hb134)
                        exact r_nil (n_lp ⟨_, rfl, undef, rfl, H1013⟩)
                      · intro η133 wd1019 Δ1020 hE1016 hR1017 H1018
                        have H1018 : Hp w0 ((Δ1020 ++ (Row K38 (.slice A52 o41.f_l.length c54) o41.f_l :: Bx b51 75 [.slice A52 o41.f_l.length c54] :: Row K3 (.slice A83 y70.Vector.length c85) y70.Vector :: Bx b97 59 [.int .i64 y70.Income, .int .i64 y70.Expired, .int .i64 y70.Used, .int .i64 y70.New, .int .i64 y70.Taxable, .int .i64 y70.Tax, .slice A83 y70.Vector.length c85] :: Row K38 (.slice A87 o76.f_l.length c89) o76.f_l :: Bx b86 75 [.slice A87 o76.f_l.length c89] :: Γ))) wd1019 := H1018
                        refine sp_op [(136, .bool (y70.Expired == 0)), (140, .bool (y70.Used == mn (w64 (1 + y1)) (w64 (Int.tdiv (w64 (2 * y7)) 2))))] (ac (hE1016 3 (by decide)) (ac (hE1016 7 (by decide)) an)) ?_
                        refine r_pick_t (.bool (y70.Used == mn (w64 (1 + y1)) (w64 (Int.tdiv (w64 (2 * y7)) 2)))) hb134 rfl rfl ?_
                        exact r_nil (n_lp ⟨_, rfl, undef, rfl, H1018⟩)
                      · intro η133 wd1024 Δ1025 hE1021 hR1022 H1023
                        have H1023 : Hp w0 ((Δ1025 ++ (Row K38 (.slice A52 o41.f_l.length c54) o41.f_l :: Bx b51 75 [.slice A52 o41.f_l.length c54] :: Row K3 (.slice A83 y70.Vector.length c85) y70.Vector :: Bx b97 59 [.int .i64 y70.Income, .int .i64 y70.Expired, .int .i64 y70.Used, .int .i64 y70.New, .int .i64 y70.Taxable, .int .i64 y70.Tax, .slice A83 y70.Vector.length c85] :: Row K38 (.slice A87 o76.f_l.length c89) o76.f_l :: Bx b86 75 [.slice A87 o76.f_l.length c89] :: Γ))) wd1024 := H1023
                        refine sp_op [(141, .bool (y70.Used == mn (w64 (1 + y1)) (w64 (Int.tdiv (w64 (2 * y7)) 2))))] (ac (hE1021 8 (by decide)) an) ?_
                        refine r_pure (.bool (y70.Used == mn (w64 (1 + y1)) (w64 (Int.tdiv (w64 (2 * y7)) 2)))) rfl ?_
                        exact r_nil (n_lp ⟨_, rfl, undef, rfl, H1023⟩)
                      · intro η133 wd1029 Δ1030 hE1026 hR1027 H1028
                        have H1028 : Hp w0 ((Δ1030 ++ (Row K38 (.slice A52 o41.f_l.length c54) o41.f_l :: Bx b51 75 [.slice A52 o41.f_l.length c54] :: Row K3 (.slice A83 y70.Vector.length c85) y70.Vector :: Bx b97 59 [.int .i64 y70.Income, .int .i64 y70.Expired, .int .i64 y70.Used, .int .i64 y70.New, .int .i64 y70.Taxable, .int .i64 y70.Tax, .slice A83 y70.Vector.length c85] :: Row K38 (.slice A87 o76.f_l.length c89) o76.f_l :: Bx b86 75 [.slice A87 o76.f_l.length c89] :: Γ))) wd1029 := H1028
                        refine sp_op [(12, .pointer (some ⟨b97, 0, none⟩)), (142, .bool (y70.Used == mn (w64 (1 + y1)) (w64 (Int.tdiv (w64 (2 * y7)) 2))))] (ac rfl (ac (hE1026 9 (by decide)) an)) ?_
                        refine r_not (wn_f rfl rfl (by decide) rfl hb135) ?_
                        exact r_nil (n_lp ⟨_, rfl, undef, rfl, H1028⟩)
                      · intro η133 wd1034 Δ1035 hE1031 hR1032 H1033
                        have H1033 : Hp w0 ((Δ1035 ++ (Row K38 (.slice A52 o41.f_l.length c54) o41.f_l :: Bx b51 75 [.slice A52 o41.f_l.length c54] :: Row K3 (.slice A83 y70.Vector.length c85) y70.Vector :: Bx b97 59 [.int .i64 y70.Income, .int .i64 y70.Expired, .int .i64 y70.Used, .int .i64 y70.New, .int .i64 y70.Taxable, .int .i64 y70.Tax, .slice A83 y70.Vector.length c85] :: Row K38 (.slice A87 o76.f_l.length c89) o76.f_l :: Bx b86 75 [.slice A87 o76.f_l.length c89] :: Γ))) wd1034 := H1033
                        refine sp_op [(142, .bool (y70.Used == mn (w64 (1 + y1)) (w64 (Int.tdiv (w64 (2 * y7)) 2)))), (143, undef)] (ac (hE1031 9 (by decide)) (ac (hE1031 10 (by decide)) an)) ?_
                        refine r_not (wn_f rfl rfl (by decide) rfl hb135) ?_
                        exact r_nil (n_lp ⟨_, rfl, undef, rfl, H1033⟩)
                      · intro η133 wd1039 Δ1040 hE1036 hR1037 H1038
                        have H1038 : Hp w0 ((Δ1040 ++ (Row K38 (.slice A52 o41.f_l.length c54) o41.f_l :: Bx b51 75 [.slice A52 o41.f_l.length c54] :: Row K3 (.slice A83 y70.Vector.length c85) y70.Vector :: Bx b97 59 [.int .i64 y70.Income, .int .i64 y70.Expired, .int .i64 y70.Used, .int .i64 y70.New, .int .i64 y70.Taxable, .int .i64 y70.Tax, .slice A83 y70.Vector.length c85] :: Row K38 (.slice A87 o76.f_l.length c89) o76.f_l :: Bx b86 75 [.slice A87 o76.f_l.length c89] :: Γ))) wd1039 := H1038
                        refine sp_op [(1, .int .i64 (w64 (2 * y7))), (142, .bool (y70.Used == mn (w64 (1 + y1)) (w64 (Int.tdiv (w64 (2 * y7)) 2))))] (ac rfl (ac (hE1036 9 (by decide)) an)) ?_
                        refine r_not (wn_f rfl rfl (by decide) rfl hb135) ?_
                        exact r_nil (n_lp ⟨_, rfl, undef, rfl, H1038⟩)
                      · intro η133 wd1044 Δ1045 hE1041 hR1042 H1043
                        have H1043 : Hp w0 ((Δ1045 ++ (Row K38 (.slice A52 o41.f_l.length c54) o41.f_l :: Bx b51 75 [.slice A52 o41.f_l.length c54] :: Row K3 (.slice A83 y70.Vector.length c85) y70.Vector :: Bx b97 59 [.int .i64 y70.Income, .int .i64 y70.Expired, .int .i64 y70.Used, .int .i64 y70.New, .int .i64 y70.Taxable, .int .i64 y70.Tax, .slice A83 y70.Vector.length c85] :: Row K38 (.slice A87 o76.f_l.length c89) o76.f_l :: Bx b86 75 [.slice A87 o76.f_l.length c89] :: Γ))) wd1044 := H1043
                        refine sp_op [(14, .int .i64 (mn (w64 (1 + y1)) (w64 (Int.tdiv (w64 (2 * y7)) 2)))), (142, .bool (y70.Used == mn (w64 (1 + y1)) (w64 (Int.tdiv (w64 (2 * y7)) 2))))] (ac rfl (ac (hE1041 9 (by decide)) an)) ?_
                        refine r_not (wn_f rfl rfl (by decide) rfl hb135) ?_
                        exact r_nil (n_lp ⟨_, rfl, undef, rfl, H1043⟩)
                      · intro η133 wd1049 Δ1050 hE1046 hR1047 H1048
                        have H1048 : Hp w0 ((Δ1050 ++ (Row K38 (.slice A52 o41.f_l.length c54) o41.f_l :: Bx b51 75 [.slice A52 o41.f_l.length c54] :: Row K3 (.slice A83 y70.Vector.length c85) y70.Vector :: Bx b97 59 [.int .i64 y70.Income, .int .i64 y70.Expired, .int .i64 y70.Used, .int .i64 y70.New, .int .i64 y70.Taxable, .int .i64 y70.Tax, .slice A83 y70.Vector.length c85] :: Row K38 (.slice A87 o76.f_l.length c89) o76.f_l :: Bx b86 75 [.slice A87 o76.f_l.length c89] :: Γ))) wd1049 := H1048
                        refine sp_op [(142, .bool (y70.Used == mn (w64 (1 + y1)) (w64 (Int.tdiv (w64 (2 * y7)) 2)))), (145, undef), (146, undef)] (ac (hE1046 9 (by decide)) (ac (hE1046 12 (by decide)) (ac (hE1046 13 (by decide)) an))) ?_
                        refine r_not (wn_f rfl rfl (by decide) rfl hb135) ?_
                        exact r_nil (n_lp ⟨_, rfl, undef, rfl, H1048⟩)
                      · intro η133 wd1054 Δ1055 hE1051 hR1052 H1053
                        have H1053 : Hp w0 ((Δ1055 ++ (Row K38 (.slice A52 o41.f_l.length c54) o41.f_l :: Bx b51 75 [.slice A52 o41.f_l.length c54] :: Row K3 (.slice A83 y70.Vector.length c85) y70.Vector :: Bx b97 59 [.int .i64 y70.Income, .int .i64 y70.Expired, .int .i64 y70.Used, .int .i64 y70.New, .int .i64 y70.Taxable, .int .i64 y70.Tax, .slice A83 y70.Vector.length c85] :: Row K38 (.slice A87 o76.f_l.length c89) o76.f_l :: Bx b86 75 [.slice A87 o76.f_l.length c89] :: Γ))) wd1054 := H1053
                        refine sp_op [(142, .bool (y70.Used == mn (w64 (1 + y1)) (w64 (Int.tdiv (w64 (2 * y7)) 2)))), (144, undef), (147, undef)] (ac (hE1051 9 (by decide)) (ac (hE1051 11 (by decide)) (ac (hE1051 14 (by decide)) an))) ?_
                        refine r_not (wn_f rfl rfl (by decide) rfl hb135) ?_
                        exact r_nil (n_lp ⟨_, rfl, undef, rfl, H1053⟩)
                      · intro η133 wd1059 Δ1060 hE1056 hR1057 H1058
                        have H1058 : Hp w0 ((Δ1060 ++ (Row K38 (.slice A52 o41.f_l.length c54) o41.f_l :: Bx b51 75 [.slice A52 o41.f_l.length c54] :: Row K3 (.slice A83 y70.Vector.length c85) y70.Vector :: Bx b97 59 [.int .i64 y70.Income, .int .i64 y70.Expired, .int .i64 y70.Used, .int .i64 y70.New, .int .i64 y70.Taxable, .int .i64 y70.Tax, .slice A83 y70.Vector.length c85] :: Row K38 (.slice A87 o76.f_l.length c89) o76.f_l :: Bx b86 75 [.slice A87 o76.f_l.length c89] :: Γ))) wd1059 := H1058
                        refine sp_op [(142, .bool (y70.Used == mn (w64 (1 + y1)) (w64 (Int.tdiv (w64 (2 * y7)) 2)))), (148, undef)] (ac (hE1056 9 (by decide)) (ac (hE1056 15 (by decide)) an)) ?_
                        refine r_pick_f (.bool false) hb135 rfl rfl ?_
                        exact r_nil (n_lp ⟨_, rfl, undef, rfl, H1058⟩)
                      · intro η133 wd1064 Δ1065 hE1061 hR1062 H1063
                        have H1063 : Hp w0 ((Δ1065 ++ (Row K38 (.slice A52 o41.f_l.length c54) o41.f_l :: Bx b51 75 [.slice A52 o41.f_l.length c54] :: Row K3 (.slice A83 y70.Vector.length c85) y70.Vector :: Bx b97 59 [.int .i64 y70.Income, .int .i64 y70.Expired, .int .i64 y70.Used, .int .i64 y70.New, .int .i64 y70.Taxable, .int .i64 y70.Tax, .slice A83 y70.Vector.length c85] :: Row K38 (.slice A87 o76.f_l.length c89) o76.f_l :: Bx b86 75 [.slice A87 o76.f_l.length c89] :: Γ))) wd1064 := H1063
                        refine sp_op [(149, .bool false)] (ac (hE1061 16 (by decide)) an) ?_
                        refine r_pure (.bool false) rfl ?_
                        exact r_nil (n_lp ⟨_, rfl, undef, rfl, H1063⟩)
                      · intro η133 wd1069 Δ1070 hE1066 hR1067 H1068
                        have H1068 : Hp w0 ((Δ1070 ++ (Row K38 (.slice A52 o41.f_l.length c54) o41.f_l :: Bx b51 75 [.slice A52 o41.f_l.length c54] :: Row K3 (.slice A83 y70.Vector.length c85) y70.Vector :: Bx b97 59 [.int .i64 y70.Income, .int .i64 y70.Expired, .int .i64 y70.Used, .int .i64 y70.New, .int .i64 y70.Taxable, .int .i64 y70.Tax, .slice A83 y70.Vector.length c85] :: Row K38 (.slice A87 o76.f_l.length c89) o76.f_l :: Bx b86 75 [.slice A87 o76.f_l.length c89] :: Γ))) wd1069 := H1068
                        refine sp_op [(13, .pointer (some ⟨b86, 0, none⟩)), (150, .bool false)] (ac rfl (ac (hE1066 17 (by decide)) an)) ?_
                        refine r_not (wn_f rfl rfl (by decide) rfl rfl) ?_
                        exact r_nil (n_lp ⟨_, rfl, undef, rfl, H1068⟩)
                      · intro η133 wd1074 Δ1075 hE1071 hR1072 H1073
                        have H1073 : Hp w0 ((Δ1075 ++ (Row K38 (.slice A52 o41.f_l.length c54) o41.f_l :: Bx b51 75 [.slice A52 o41.f_l.length c54] :: Row K3 (.slice A83 y70.Vector.length c85) y70.Vector :: Bx b97 59 [.int .i64 y70.Income, .int .i64 y70.Expired, .int .i64 y70.Used, .int .i64 y70.New, .int .i64 y70.Taxable, .int .i64 y70.Tax, .slice A83 y70.Vector.length c85] :: Row K38 (.slice A87 o76.f_l.length c89) o76.f_l :: Bx b86 75 [.slice A87 o76.f_l.length c89] :: Γ))) wd1074 := H1073
                        refine sp_op [(150, .bool false), (151, undef)] (ac (hE1071 17 (by decide)) (ac (hE1071 18 (by decide)) an)) ?_
                        refine r_not (wn_f rfl rfl (by decide) rfl rfl) ?_
                        exact r_nil (n_lp ⟨_, rfl, undef, rfl, H1073⟩)
                      · intro η133 wd1079 Δ1080 hE1076 hR1077 H1078
                        have H1078 : Hp w0 ((Δ1080 ++ (Row K38 (.slice A52 o41.f_l.length c54) o41.f_l :: Bx b51 75 [.slice A52 o41.f_l.length c54] :: Row K3 (.slice A83 y70.Vector.length c85) y70.Vector :: Bx b97 59 [.int .i64 y70.Income, .int .i64 y70.Expired, .int .i64 y70.Used, .int .i64 y70.New, .int .i64 y70.Taxable, .int .i64 y70.Tax, .slice A83 y70.Vector.length c85] :: Row K38 (.slice A87 o76.f_l.length c89) o76.f_l :: Bx b86 75 [.slice A87 o76.f_l.length c89] :: Γ))) wd1079 := H1078
                        refine sp_op [(0, .int .i64 (w64 (1 + y1))), (150, .bool false)] (ac rfl (ac (hE1076 17 (by decide)) an)) ?_
                        refine r_not (wn_f rfl rfl (by decide) rfl rfl) ?_
                        exact r_nil (n_lp ⟨_, rfl, undef, rfl, H1078⟩)
                      · intro η133 wd1084 Δ1085 hE1081 hR1082 H1083
                        have H1083 : Hp w0 ((Δ1085 ++ (Row K38 (.slice A52 o41.f_l.length c54) o41.f_l :: Bx b51 75 [.slice A52 o41.f_l.length c54] :: Row K3 (.slice A83 y70.Vector.length c85) y70.Vector :: Bx b97 59 [.int .i64 y70.Income, .int .i64 y70.Expired, .int .i64 y70.Used, .int .i64 y70.New, .int .i64 y70.Taxable, .int .i64 y70.Tax, .slice A83 y70.Vector.length c85] :: Row K38 (.slice A87 o76.f_l.length c89) o76.f_l :: Bx b86 75 [.slice A87 o76.f_l.length c89] :: Γ))) wd1084 := H1083
                        refine sp_op [(14, .int .i64 (mn (w64 (1 + y1)) (w64 (Int.tdiv (w64 (2 * y7)) 2)))), (150, .bool false)] (ac rfl (ac (hE1081 17 (by decide)) an)) ?_
                        refine r_not (wn_f rfl rfl (by decide) rfl rfl) ?_
                        exact r_nil (n_lp ⟨_, rfl, undef, rfl, H1083⟩)
                      · intro η133 wd1089 Δ1090 hE1086 hR1087 H1088
                        have H1088 : Hp w0 ((Δ1090 ++ (Row K38 (.slice A52 o41.f_l.length c54) o41.f_l :: Bx b51 75 [.slice A52 o41.f_l.length c54] :: Row K3 (.slice A83 y70.Vector.length c85) y70.Vector :: Bx b97 59 [.int .i64 y70.Income, .int .i64 y70.Expired, .int .i64 y70.Used, .int .i64 y70.New, .int .i64 y70.Taxable, .int .i64 y70.Tax, .slice A83 y70.Vector.length c85] :: Row K38 (.slice A87 o76.f_l.length c89) o76.f_l :: Bx b86 75 [.slice A87 o76.f_l.length c89] :: Γ))) wd1089 := H1088
                        refine sp_op [(150, .bool false), (153, undef), (154, undef)] (ac (hE1086 17 (by decide)) (ac (hE1086 20 (by decide)) (ac (hE1086 21 (by decide)) an))) ?_
                        refine r_not (wn_f rfl rfl (by decide) rfl rfl) ?_
                        exact r_nil (n_lp ⟨_, rfl, undef, rfl, H1088⟩)
                      · intro η133 wd1094 Δ1095 hE1091 hR1092 H1093
                        have H1093 : Hp w0 ((Δ1095 ++ (Row K38 (.slice A52 o41.f_l.length c54) o41.f_l :: Bx b51 75 [.slice A52 o41.f_l.length c54] :: Row K3 (.slice A83 y70.Vector.length c85) y70.Vector :: Bx b97 59 [.int .i64 y70.Income, .int .i64 y70.Expired, .int .i64 y70.Used, .int .i64 y70.New, .int .i64 y70.Taxable, .int .i64 y70.Tax, .slice A83 y70.Vector.length c85] :: Row K38 (.slice A87 o76.f_l.length c89) o76.f_l :: Bx b86 75 [.slice A87 o76.f_l.length c89] :: Γ))) wd1094 := H1093
                        refine sp_op [(150, .bool false), (152, undef), (155, undef)] (ac (hE1091 17 (by decide)) (ac (hE1091 19 (by decide)) (ac (hE1091 22 (by decide)) an))) ?_
                        refine r_not (wn_f rfl rfl (by decide) rfl rfl) ?_
                        exact r_nil (n_lp ⟨_, rfl, undef, rfl, H1093⟩)
                      · intro η133 wd1099 Δ1100 hE1096 hR1097 H1098
                        have H1098 : Hp w0 ((Δ1100 ++ (Row K38 (.slice A52 o41.f_l.length c54) o41.f_l :: Bx b51 75 [.slice A52 o41.f_l.length c54] :: Row K3 (.slice A83 y70.Vector.length c85) y70.Vector :: Bx b97 59 [.int .i64 y70.Income, .int .i64 y70.Expired, .int .i64 y70.Used, .int .i64 y70.New, .int .i64 y70.Taxable, .int .i64 y70.Tax, .slice A83 y70.Vector.length c85] :: Row K38 (.slice A87 o76.f_l.length c89) o76.f_l :: Bx b86 75 [.slice A87 o76.f_l.length c89] :: Γ))) wd1099 := H1098
                        refine sp_op [(150, .bool false), (156, undef)] (ac (hE1096 17 (by decide)) (ac (hE1096 23 (by decide)) an)) ?_
                        refine r_pick_f (.bool false) rfl rfl rfl ?_
                        exact r_nil (n_lp ⟨_, rfl, undef, rfl, H1098⟩)
                      · intro η133 wd1104 Δ1105 hE1101 hR1102 H1103
                        have H1103 : Hp w0 ((Δ1105 ++ (Row K38 (.slice A52 o41.f_l.length c54) o41.f_l :: Bx b51 75 [.slice A52 o41.f_l.length c54] :: Row K3 (.slice A83 y70.Vector.length c85) y70.Vector :: Bx b97 59 [.int .i64 y70.Income, .int .i64 y70.Expired, .int .i64 y70.Used, .int .i64 y70.New, .int .i64 y70.Taxable, .int .i64 y70.Tax, .slice A83 y70.Vector.length c85] :: Row K38 (.slice A87 o76.f_l.length c89) o76.f_l :: Bx b86 75 [.slice A87 o76.f_l.length c89] :: Γ))) wd1104 := H1103
                        refine sp_op [(157, .bool false)] (ac (hE1101 24 (by decide)) an) ?_
                        refine r_pure (.bool false) rfl ?_
                        exact r_nil (n_lp ⟨_, rfl, undef, rfl, H1103⟩)
                      · intro η133 wd1109 Δ1110 hE1106 hR1107 H1108
                        have H1108 : Hp w0 ((Δ1110 ++ (Row K38 (.slice A52 o41.f_l.length c54) o41.f_l :: Bx b51 75 [.slice A52 o41.f_l.length c54] :: Row K3 (.slice A83 y70.Vector.length c85) y70.Vector :: Bx b97 59 [.int .i64 y70.Income, .int .i64 y70.Expired, .int .i64 y70.Used, .int .i64 y70.New, .int .i64 y70.Taxable, .int .i64 y70.Tax, .slice A83 y70.Vector.length c85] :: Row K38 (.slice A87 o76.f_l.length c89) o76.f_l :: Bx b86 75 [.slice A87 o76.f_l.length c89] :: Γ))) wd1109 := H1108
                        refine sp_op [(12, .pointer (some ⟨b97, 0, none⟩)), (158, .bool false)] (ac rfl (ac (hE1106 25 (by decide)) an)) ?_
                        refine r_not (wn_f rfl rfl (by decide) rfl rfl) ?_
                        exact r_nil (n_lp ⟨_, rfl, undef, rfl, H1108⟩)
                      · intro η133 wd1114 Δ1115 hE1111 hR1112 H1113
                        have H1113 : Hp w0 ((Δ1115 ++ (Row K38 (.slice A52 o41.f_l.length c54) o41.f_l :: Bx b51 75 [.slice A52 o41.f_l.length c54] :: Row K3 (.slice A83 y70.Vector.length c85) y70.Vector :: Bx b97 59 [.int .i64 y70.Income, .int .i64 y70.Expired, .int .i64 y70.Used, .int .i64 y70.New, .int .i64 y70.Taxable, .int .i64 y70.Tax, .slice A83 y70.Vector.length c85] :: Row K38 (.slice A87 o76.f_l.length c89) o76.f_l :: Bx b86 75 [.slice A87 o76.f_l.length c89] :: Γ))) wd1114 := H1113
                        refine sp_op [(158, .bool false), (159, undef)] (ac (hE1111 25 (by decide)) (ac (hE1111 26 (by decide)) an)) ?_
                        refine r_not (wn_f rfl rfl (by decide) rfl rfl) ?_
                        exact r_nil (n_lp ⟨_, rfl, undef, rfl, H1113⟩)
                      · intro η133 wd1119 Δ1120 hE1116 hR1117 H1118
                        have H1118 : Hp w0 ((Δ1120 ++ (Row K38 (.slice A52 o41.f_l.length c54) o41.f_l :: Bx b51 75 [.slice A52 o41.f_l.length c54] :: Row K3 (.slice A83 y70.Vector.length c85) y70.Vector :: Bx b97 59 [.int .i64 y70.Income, .int .i64 y70.Expired, .int .i64 y70.Used, .int .i64 y70.New, .int .i64 y70.Taxable, .int .i64 y70.Tax, .slice A83 y70.Vector.length c85] :: Row K38 (.slice A87 o76.f_l.length c89) o76.f_l :: Bx b86 75 [.slice A87 o76.f_l.length c89] :: Γ))) wd1119 := H1118
                        refine sp_op [(1, .int .i64 (w64 (2 * y7))), (158, .bool false)] (ac rfl (ac (hE1116 25 (by decide)) an)) ?_
                        refine r_not (wn_f rfl rfl (by decide) rfl rfl) ?_
                        exact r_nil (n_lp ⟨_, rfl, undef, rfl, H1118⟩)
                      · intro η133 wd1124 Δ1125 hE1121 hR1122 H1123
                        have H1123 : Hp w0 ((Δ1125 ++ (Row K38 (.slice A52 o41.f_l.length c54) o41.f_l :: Bx b51 75 [.slice A52 o41.f_l.length c54] :: Row K3 (.slice A83 y70.Vector.length c85) y70.Vector :: Bx b97 59 [.int .i64 y70.Income, .int .i64 y70.Expired, .int .i64 y70.Used, .int .i64 y70.New, .int .i64 y70.Taxable, .int .i64 y70.Tax, .slice A83 y70.Vector.length c85] :: Row K38 (.slice A87 o76.f_l.length c89) o76.f_l :: Bx b86 75 [.slice A87 o76.f_l.length c89] :: Γ))) wd1124 := H1123
                        refine sp_op [(14, .int .i64 (mn (w64 (1 + y1)) (w64 (Int.tdiv (w64 (2 * y7)) 2)))), (158, .bool false)] (ac rfl (ac (hE1121 25 (by decide)) an)) ?_
                        refine r_not (wn_f rfl rfl (by decide) rfl rfl) ?_
                        exact r_nil (n_lp ⟨_, rfl, undef, rfl, H1123⟩)
                      · intro η133 wd1129 Δ1130 hE1126 hR1127 H1128
                        have H1128 : Hp w0 ((Δ1130 ++ (Row K38 (.slice A52 o41.f_l.length c54) o41.f_l :: Bx b51 75 [.slice A52 o41.f_l.length c54] :: Row K3 (.slice A83 y70.Vector.length c85) y70.Vector :: Bx b97 59 [.int .i64 y70.Income, .int .i64 y70.Expired, .int .i64 y70.Used, .int .i64 y70.New, .int .i64 y70.Taxable, .int .i64 y70.Tax, .slice A83 y70.Vector.length c85] :: Row K38 (.slice A87 o76.f_l.length c89) o76.f_l :: Bx b86 75 [.slice A87 o76.f_l.length c89] :: Γ))) wd1129 := H1128
                        refine sp_op [(158, .bool false), (161, undef), (162, undef)] (ac (hE1126 25 (by decide)) (ac (hE1126 28 (by decide)) (ac (hE1126 29 (by decide)) an))) ?_
                        refine r_not (wn_f rfl rfl (by decide) rfl rfl) ?_
                        exact r_nil (n_lp ⟨_, rfl, undef, rfl, H1128⟩)
                      · intro η133 wd1134 Δ1135 hE1131 hR1132 H1133
                        have H1133 : Hp w0 ((Δ1135 ++ (Row K38 (.slice A52 o41.f_l.length c54) o41.f_l :: Bx b51 75 [.slice A52 o41.f_l.length c54] :: Row K3 (.slice A83 y70.Vector.length c85) y70.Vector :: Bx b97 59 [.int .i64 y70.Income, .int .i64 y70.Expired, .int .i64 y70.Used, .int .i64 y70.New, .int .i64 y70.Taxable, .int .i64 y70.Tax, .slice A83 y70.Vector.length c85] :: Row K38 (.slice A87 o76.f_l.length c89) o76.f_l :: Bx b86 75 [.slice A87 o76.f_l.length c89] :: Γ))) wd1134 := H1133
                        refine sp_op [(158, .bool false), (160, undef), (163, undef)] (ac (hE1131 25 (by decide)) (ac (hE1131 27 (by decide)) (ac (hE1131 30 (by decide)) an))) ?_
                        refine r_not (wn_f rfl rfl (by decide) rfl rfl) ?_
                        exact r_nil (n_lp ⟨_, rfl, undef, rfl, H1133⟩)
                      · intro η133 wd1139 Δ1140 hE1136 hR1137 H1138
                        have H1138 : Hp w0 ((Δ1140 ++ (Row K38 (.slice A52 o41.f_l.length c54) o41.f_l :: Bx b51 75 [.slice A52 o41.f_l.length c54] :: Row K3 (.slice A83 y70.Vector.length c85) y70.Vector :: Bx b97 59 [.int .i64 y70.Income, .int .i64 y70.Expired, .int .i64 y70.Used, .int .i64 y70.New, .int .i64 y70.Taxable, .int .i64 y70.Tax, .slice A83 y70.Vector.length c85] :: Row K38 (.slice A87 o76.f_l.length c89) o76.f_l :: Bx b86 75 [.slice A87 o76.f_l.length c89] :: Γ))) wd1139 := H1138
                        refine sp_op [(158, .bool false), (164, undef)] (ac (hE1136 25 (by decide)) (ac (hE1136 31 (by decide)) an)) ?_
                        refine r_pick_f (.bool false) rfl rfl rfl ?_
                        exact r_nil (n_lp ⟨_, rfl, undef, rfl, H1138⟩)
                      · intro η133 wd1144 Δ1145 hE1141 hR1142 H1143
                        have H1143 : Hp w0 ((Δ1145 ++ (Row K38 (.slice A52 o41.f_l.length c54) o41.f_l :: Bx b51 75 [.slice A52 o41.f_l.length c54] :: Row K3 (.slice A83 y70.Vector.length c85) y70.Vector :: Bx b97 59 [.int .i64 y70.Income, .int .i64 y70.Expired, .int .i64 y70.Used, .int .i64 y70.New, .int .i64 y70.Taxable, .int .i64 y70.Tax, .slice A83 y70.Vector.length c85] :: Row K38 (.slice A87 o76.f_l.length c89) o76.f_l :: Bx b86 75 [.slice A87 o76.f_l.length c89] :: Γ))) wd1144 := H1143
                        refine sp_op [(165, .bool false)] (ac (hE1141 32 (by decide)) an) ?_
                        refine r_pure (.bool false) rfl ?_
                        exact r_nil (n_lp ⟨_, rfl, undef, rfl, H1143⟩)
                      · intro η133 wd1149 Δ1150 hE1146 hR1147 H1148
                        have H1148 : Hp w0 ((Δ1150 ++ (Row K38 (.slice A52 o41.f_l.length c54) o41.f_l :: Bx b51 75 [.slice A52 o41.f_l.length c54] :: Row K3 (.slice A83 y70.Vector.length c85) y70.Vector :: Bx b97 59 [.int .i64 y70.Income, .int .i64 y70.Expired, .int .i64 y70.Used, .int .i64 y70.New, .int .i64 y70.Taxable, .int .i64 y70.Tax, .slice A83 y70.Vector.length c85] :: Row K38 (.slice A87 o76.f_l.length c89) o76.f_l :: Bx b86 75 [.slice A87 o76.f_l.length c89] :: Γ))) wd1149 := H1148
                        refine sp_op [(166, .bool false)] (ac (hE1146 33 (by decide)) an) ?_
                        refine r_not (wn_f rfl rfl (by decide) rfl rfl) ?_
                        exact r_nil (n_lp ⟨_, rfl, undef, rfl, H1148⟩)
                      · intro η133 wd1154 Δ1155 hE1151 hR1152 H1153
                        have H1153 : Hp w0 ((Δ1155 ++ (Row K38 (.slice A52 o41.f_l.length c54) o41.f_l :: Bx b51 75 [.slice A52 o41.f_l.length c54] :: Row K3 (.slice A83 y70.Vector.length c85) y70.Vector :: Bx b97 59 [.int .i64 y70.Income, .int .i64 y70.Expired, .int .i64 y70.Used, .int .i64 y70.New, .int .i64 y70.Taxable, .int .i64 y70.Tax, .slice A83 y70.Vector.length c85] :: Row K38 (.slice A87 o76.f_l.length c89) o76.f_l :: Bx b86 75 [.slice A87 o76.f_l.length c89] :: Γ))) wd1154 := H1153
                        refine sp_op [(166, .bool false), (167, undef)] (ac (hE1151 33 (by decide)) (ac (hE1151 34 (by decide)) an)) ?_
                        refine r_pick_f (.bool false) rfl rfl rfl ?_
                        exact r_nil (n_lp ⟨_, rfl, undef, rfl, H1153⟩)
                      · intro η133 wd1159 Δ1160 hE1156 hR1157 H1158
                        have H1158 : Hp w0 ((Δ1160 ++ (Row K38 (.slice A52 o41.f_l.length c54) o41.f_l :: Bx b51 75 [.slice A52 o41.f_l.length c54] :: Row K3 (.slice A83 y70.Vector.length c85) y70.Vector :: Bx b97 59 [.int .i64 y70.Income, .int .i64 y70.Expired, .int .i64 y70.Used, .int .i64 y70.New, .int .i64 y70.Taxable, .int .i64 y70.Tax, .slice A83 y70.Vector.length c85] :: Row K38 (.slice A87 o76.f_l.length c89) o76.f_l :: Bx b86 75 [.slice A87 o76.f_l.length c89] :: Γ))) wd1159 := H1158
                        refine sp_op [(168, .bool false)] (ac (hE1156 35 (by decide)) an) ?_
                        refine r_pure (.bool false) rfl ?_
                        exact r_nil (n_lp ⟨_, rfl, undef, rfl, H1158⟩)
                      · intro η133 wd1162 hV1163 H1161
                        have H1164 : Hp w0 (Row K38 (.slice A52 o41.f_l.length c54) o41.f_l :: Bx b51 75 [.slice A52 o41.f_l.length c54] :: Row K3 (.slice A83 y70.Vector.length c85) y70.Vector :: Bx b97 59 [.int .i64 y70.Income, .int .i64 y70.Expired, .int .i64 y70.Used, .int .i64 y70.New, .int .i64 y70.Taxable, .int .i64 y70.Tax, .slice A83 y70.Vector.length c85] :: Row K38 (.slice A87 o76.f_l.length c89) o76.f_l :: Bx b86 75 [.slice A87 o76.f_l.length c89] :: Γ) wd1162 := H1161
                        refine n_frame [(8, .bool false)] (ac (hV1163 36 rfl) an) ?_
                        refine n_cut ⟨false, upk (ac rfl an), H1164.d.d.d.d.d.d, hm⟩
                  · refine Flow.run' [[], [0], [0, 1], [0, 1, 2], [0, 1, 2, 3], [0, 1, 2, 3, 4], [0, 1, 2, 3], [0, 1, 2, 3, 4, 5, 6], [0, 1, 2, 3, 4, 5, 6, 7], [0, 1, 2, 3, 4, 5, 6, 7, 8], [0, 1, 2, 3, 4, 5, 6, 7, 8, 9], [0, 1, 2, 3, 4, 5, 6, 7, 8, 9, 10], [0, 1, 2, 3, 4, 5, 6, 7, 8, 9], [0, 1, 2, 3, 4, 5, 6, 7, 8, 9], [0, 1, 2, 3, 4, 5, 6, 7, 8, 9, 12, 13], [0, 1, 2, 3, 4, 5, 6, 7, 8, 9, 10, 11, 12, 13, 14], [0, 1, 2, 3, 4, 5, 6, 7, 8, 9, 10, 11, 12, 13, 14, 15], [0, 1, 2, 3, 4, 5, 6, 7, 8, 9, 10, 11, 12, 13, 14, 15, 16], [0, 1, 2, 3, 4, 5, 6, 7, 8, 9, 10, 11, 12, 13, 14, 15, 16, 17], [0, 1, 2, 3, 4, 5, 6, 7, 8, 9, 10, 11, 12, 13, 14, 15, 16, 17, 18], [0, 1, 2, 3, 4, 5, 6, 7, 8, 9, 10, 11, 12, 13, 14, 15, 16, 17], [0, 1, 2, 3, 4, 5, 6, 7, 8, 9, 10, 11, 12, 13, 14, 15, 16, 17], [0, 1, 2, 3, 4, 5, 6, 7, 8, 9, 10, 11, 12, 13, 14, 15, 16, 17, 20, 21], [0, 1, 2, 3, 4, 5, 6, 7, 8, 9, 10, 11, 12, 13, 14, 15, 16, 17, 18, 19, 20, 21, 22], [0, 1, 2, 3, 4, 5, 6, 7, 8, 9, 10, 11, 12, 13, 14, 15, 16, 17, 18, 19, 20, 21, 22, 23], [0, 1, 2, 3, 4, 5, 6, 7, 8, 9, 10, 11, 12, 13, 14, 15, 16, 17, 18, 19, 20, 21, 22, 23, 24], [0, 1, 2, 3, 4, 5, 6, 7, 8, 9, 10, 11, 12, 13, 14, 15, 16, 17, 18, 19, 20, 21, 22, 23, 24, 25], [0, 1, 2, 3, 4, 5, 6, 7, 8, 9, 10, 11, 12, 13, 14, 15, 16, 17, 18, 19, 20, 21, 22, 23, 24, 25, 26], [0, 1, 2, 3, 4, 5, 6, 7, 8, 9, 10, 11, 12, 13, 14, 15, 16, 17, 18, 19, 20, 21, 22, 23, 24, 25], [0, 1, 2, 3, 4, 5, 6, 7, 8, 9, 10, 11, 12, 13, 14, 15, 16, 17, 18, 19, 20, 21, 22, 23, 24, 25], [0, 1, 2, 3, 4, 5, 6, 7, 8, 9, 10, 11, 12, 13, 14, 15, 16, 17, 18, 19, 20, 21, 22, 23, 24, 25, 28, 29], [0, 1, 2, 3, 4, 5, 6, 7, 8, 9, 10, 11, 12, 13, 14, 15, 16, 17, 18, 19, 20, 21, 22, 23, 24, 25, 26, 27, 28, 29, 30], [0, 1, 2, 3, 4, 5, 6, 7, 8, 9, 10, 11, 12, 13, 14, 15, 16, 17, 18, 19, 20, 21, 22, 23, 24, 25, 26, 27, 28, 29, 30, 31], [0, 1, 2, 3, 4, 5, 6, 7, 8, 9, 10, 11, 12, 13, 14, 15, 16, 17, 18, 19, 20, 21, 22, 23, 24, 25, 26, 27, 28, 29, 30, 31, 32], [0, 1, 2, 3, 4, 5, 6, 7, 8, 9, 10, 11, 12, 13, 14, 15, 16, 17, 18, 19, 20, 21, 22, 23, 24, 25, 26, 27, 28, 29, 30, 31, 32, 33], [0, 1, 2, 3, 4, 5, 6, 7, 8, 9, 10, 11, 12, 13, 14, 15, 16, 17, 18, 19, 20, 21, 22, 23, 24, 25, 26, 27, 28, 29, 30, 31, 32, 33, 34], [0, 1, 2, 3, 4, 5, 6, 7, 8, 9, 10, 11, 12, 13, 14, 15, 16, 17, 18, 19, 20, 21, 22, 23, 24, 25, 26, 27, 28, 29, 30, 31, 32, 33, 34, 35]] [(133, 0), (134, 1), (135, 2), (136, 3), (137, 4), (138, 5), (139, 6), (140, 7), (141, 8), (142, 9), (143, 10), (144, 11), (145, 12), (146, 13), (147, 14), (148, 15), (149, 16), (150, 17), (151, 18), (152, 19), (153, 20), (154, 21), (155, 22), (156, 23), (157, 24), (158, 25), (159, 26), (160, 27), (161, 28), (162, 29), (163, 30), (164, 31), (165, 32), (166, 33), (167, 34), (168, 35), (8, 36)] [(fun η133 v => v.1 = .pointer (some ⟨b97, 1, none⟩)), (fun η133 v => v.1 = .int .i64 y70.Expired), (fun η133 v => v.1 = .bool (y70.Expired == 0)), (fun η133 v => v.1 = .bool (y70.Expired == 0)), (fun η133 v => v.1 = undef), (fun η133 v => v.1 = undef), (fun η133 v => v.1 = undef), (fun η133 v => v.1 = undef), (fun η133 v => v.1 = .bool false), (fun η133 v => v.1 = .bool false), (fun η133 v => v.1 = undef), (fun η133 v => v.1 = undef), (fun η133 v => v.1 = undef), (fun η133 v => v.1 = undef), (fun η133 v => v.1 = undef), (fun η133 v => v.1 = undef), (fun η133 v => v.1 = .bool false), (fun η133 v => v.1 = .bool false), (fun η133 v => v.1 = undef), (fun η133 v => v.1 = undef), (fun η133 v => v.1 = undef), (fun η133 v => v.1 = undef), (fun η133 v => v.1 = undef), (fun η133 v => v.1 = undef), (fun η133 v => v.1 = .bool false), (fun η133 v => v.1 = .bool false), (fun η133 v => v.1 = undef), (fun η133 v => v.1 = undef), (fun η133 v => v.1 = undef), (fun η133 v => v.1 = undef), (fun η133 v => v.1 = undef), (fun η133 v => v.1 = undef), (fun η133 v => v.1 = .bool false), (fun η133 v => v.1 = .bool false), (fun η133 v => v.1 = undef), (fun η133 v => v.1 = .bool false), (fun η133 v => v.1 = .bool false)] [] rfl (by kernel_rfl) (by kernel_rfl) H103 ⟨?_, ?_, ?_, ?_, ?_, ?_, ?_, ?_, ?_, ?_, ?_, ?_, ?_, ?_, ?_, ?_, ?_, ?_, ?_, ?_, ?_, ?_, ?_, ?_, ?_, ?_, ?_, ?_, ?_, ?_, ?_, ?_, ?_, ?_, ?_, ?_, ?_, trivial⟩ ?_
                    · intro η133 wd1168 Δ1169 hE1165 hR1166 H1167
                      have H1167 : Hp w0 ((Δ1169 ++ (Row K38 (.slice A52 o41.f_l.length c54) o41.f_l :: Bx b51 75 [.slice A52 o41.f_l.length c54] :: Row K3 (.slice A83 y70.Vector.length c85) y70.Vector :: Bx b97 59 [.int .i64 y70.Income, .int .i64 y70.Expired, .int .i64 y70.Used, .int .i64 y70.New, .int .i64 y70.Taxable, .int .i64 y70.Tax, .slice A83 y70.Vector.length c85] :: Row K38 (.slice A87 o76.f_l.length c89) o76.f_l :: Bx b86 75 [.slice A87 o76.f_l.length c89] :: Γ))) wd1168 := H1167
                      refine sp_op [(12, .pointer (some ⟨b97, 0, none⟩))] (ac rfl an) ?_
                      refine r_fa FA59_1 ⟨b97, 1, none⟩ rfl rfl ?_
                      exact r_nil (n_lp ⟨_, rfl, undef, rfl, H1167⟩)
                    · intro η133 wd1173 Δ1174 hE1170 hR1171 H1172
                      have H1172 : Hp w0 ((Δ1174 ++ (Row K38 (.slice A52 o41.f_l.length c54) o41.f_l :: Bx b51 75 [.slice A52 o41.f_l.length c54] :: Row K3 (.slice A83 y70.Vector.length c85) y70.Vector :: Bx b97 59 [.int .i64 y70.Income, .int .i64 y70.Expired, .int .i64 y70.Used, .int .i64 y70.New, .int .i64 y70.Taxable, .int .i64 y70.Tax, .slice A83 y70.Vector.length c85] :: Row K38 (.slice A87 o76.f_l.length c89) o76.f_l :: Bx b86 75 [.slice A87 o76.f_l.length c89] :: Γ))) wd1173 := H1172
                      refine sp_op [(133, .pointer (some ⟨b97, 1, none⟩))] (ac (hE1170 0 (by decide)) an) ?_
                      refine r_ld1 (.int .i64 y70.Expired) LD3 rfl (((H1172).tl.g3).cell _ rfl) ?_
                      exact r_nil (n_lp ⟨_, rfl, undef, rfl, H1172⟩)
                    · intro η133 wd1178 Δ1179 hE1175 hR1176 H1177
                      have H1177 : Hp w0 ((Δ1179 ++ (Row K38 (.slice A52 o41.f_l.length c54) o41.f_l :: Bx b51 75 [.slice A52 o41.f_l.length c54] :: Row K3 (.slice A83 y70.Vector.length c85) y70.Vector :: Bx b97 59 [.int .i64 y70.Income, .int .i64 y70.Expired, .int .i64 y70.Used, .int .i64 y70.New, .int .i64 y70.Taxable, .int .i64 y70.Tax, .slice A83 y70.Vector.length c85] :: Row K38 (.slice A87 o76.f_l.length c89) o76.f_l :: Bx b86 75 [.slice A87 o76.f_l.length c89] :: Γ))) wd1178 := H1177
                      refine sp_op [(134, .int .i64 y70.Expired)] (ac (hE1175 1 (by decide)) an) ?_
                      refine r_pure (.bool (y70.Expired == 0)) rfl ?_
                      exact r_nil (n_lp ⟨_, rfl, undef, rfl, H1177⟩)
                    · intro η133 wd1183 Δ1184 hE1180 hR1181 H1182
                      have H1182 : Hp w0 ((Δ1184 ++ (Row K38 (.slice A52 o41.f_l.length c54) o41.f_l :: Bx b51 75 [.slice A52 o41.f_l.length c54] :: Row K3 (.slice A83 y70.Vector.length c85) y70.Vector :: Bx b97 59 [.int .i64 y70.Income, .int .i64 y70.Expired, .int .i64 y70.Used, .int .i64 y70.New, .int .i64 y70.Taxable, .int .i64 y70.Tax, .slice A83 y70.Vector.length c85] :: Row K38 (.slice A87 o76.f_l.length c89) o76.f_l :: Bx b86 75 [.slice A87 o76.f_l.length c89] :: Γ))) wd1183 := H1182
                      refine sp_op [(135, .bool (y70.Expired == 0))] (ac (hE1180 2 (by decide)) an) ?_
                      refine r_pure (.bool (y70.Expired == 0)) rfl ?_
                      exact r_nil (n_lp ⟨_, rfl, undef, rfl, H1182⟩)
                    · intro η133 wd1188 Δ1189 hE1185 hR1186 H1187
                      have H1187 : Hp w0 ((Δ1189 ++ (Row K38 (.slice A52 o41.f_l.length c54) o41.f_l :: Bx b51 75 [.slice A52 o41.f_l.length c54] :: Row K3 (.slice A83 y70.Vector.length c85) y70.Vector :: Bx b97 59 [.int .i64 y70.Income, .int .i64 y70.Expired, .int .i64 y70.Used, .int .i64 y70.New, .int .i64 y70.Taxable, .int .i64 y70.Tax, .slice A83 y70.Vector.length c85] :: Row K38 (.slice A87 o76.f_l.length c89) o76.f_l :: Bx b86 75 [.slice A87 o76.f_l.length c89] :: Γ))) wd1188 := H1187
                      refine sp_op [(12, .pointer (some ⟨b97, 0, none⟩)), (136, .bool (y70.Expired == 0))] (ac rfl (ac (hE1185 3 (by decide)) an)) ?_
                      refine r_not (wn_f rfl rfl (by decide) rfl hb134) ?_
                      exact r_nil (n_lp ⟨_, rfl, undef, rfl, H1187⟩)
                    · intro η133 wd1193 Δ1194 hE1190 hR1191 H1192
                      have H1192 : Hp w0 ((Δ1194 ++ (Row K38 (.slice A52 o41.f_l.length c54) o41.f_l :: Bx b51 75 [.slice A52 o41.f_l.length c54] :: Row K3 (.slice A83 y70.Vector.length c85) y70.Vector :: Bx b97 59 [.int .i64 y70.Income, .int .i64 y70.Expired, .int .i64 y70.Used, .int .i64 y70.New, .int .i64 y70.Taxable, .int .i64 y70.Tax, .slice A83 y70.Vector.length c85] :: Row K38 (.slice A87 o76.f_l.length c89) o76.f_l :: Bx b86 75 [.slice A87 o76.f_l.length c89] :: Γ))) wd1193 := H1192
                      refine sp_op [(136, .bool (y70.Expired == 0)), (137, undef)] (ac (hE1190 3 (by decide)) (ac (hE1190 4 (by decide)) an)) ?_
                      refine r_not (wn_f rfl rfl (by decide) rfl hb134) ?_
                      exact r_nil (n_lp ⟨_, rfl, undef, rfl, H1192⟩)
                    · intro η133 wd1198 Δ1199 hE1195 hR1196 H1197
                      have H1197 : Hp w0 ((Δ1199 ++ (Row K38 (.slice A52 o41.f_l.length c54) o41.f_l :: Bx b51 75 [.slice A52 o41.f_l.length c54] :: Row K3 (.slice A83 y70.Vector.length c85) y70.Vector :: Bx b97 59 [.int .i64 y70.Income, .int .i64 y70.Expired, .int .i64 y70.Used, .int .i64 y70.New, .int .i64 y70.Taxable, .int .i64 y70.Tax, .slice A83 y70.Vector.length c85] :: Row K38 (.slice A87 o76.f_l.length c89) o76.f_l :: Bx b86 75 [.slice A87 o76.f_l.length c89] :: Γ))) wd1198 := H1197
                      refine sp_op [(14, .int .i64 (mn (w64 (1 + y1)) (w64 (Int.tdiv (w64 (2 * y7)) 2)))), (136, .bool (y70.Expired == 0))] (ac rfl (ac (hE1195 3 (by decide)) an)) ?_
                      refine r_not (wn_f rfl rfl (by decide) rfl hb134) ?_
                      exact r_nil (n_lp ⟨_, rfl, undef, rfl, H1197⟩)
                    · intro η133 wd1203 Δ1204 hE1200 hR1201 H1202
                      have H1202 : Hp w0 ((Δ1204 ++ (Row K38 (.slice A52 o41.f_l.length c54) o41.f_l :: Bx b51 75 [.slice A52 o41.f_l.length c54] :: Row K3 (.slice A83 y70.Vector.length c85) y70.Vector :: Bx b97 59 [.int .i64 y70.Income, .int .i64 y70.Expired, .int .i64 y70.Used, .int .i64 y70.New, .int .i64 y70.Taxable, .int .i64 y70.Tax, .slice A83 y70.Vector.length c85] :: Row K38 (.slice A87 o76.f_l.length c89) o76.f_l :: Bx b86 75 [.slice A87 o76.f_l.length c89] :: Γ))) wd1203 := H1202
                      refine sp_op [(136, .bool (y70.Expired == 0)), (138, undef), (139, undef)] (ac (hE1200 3 (by decide)) (ac (hE1200 5 (by decide)) (ac (hE1200 6 (by decide)) an))) ?_
                      refine r_not (wn_f rfl rfl (by decide) rfl hb134) ?_
                      exact r_nil (n_lp ⟨_, rfl, undef, rfl, H1202⟩)
                    · intro η133 wd1208 Δ1209 hE1205 hR1206 H1207
                      have H1207 : Hp w0 ((Δ1209 ++ (Row K38 (.slice A52 o41.f_l.length c54) o41.f_l :: Bx b51 75 [.slice A52 o41.f_l.length c54] :: Row K3 (.slice A83 y70.Vector.length c85) y70.Vector :: Bx b97 59 [.int .i64 y70.Income, .int .i64 y70.Expired, .int .i64 y70.Used, .int .i64 y70.New, .int .i64 y70.Taxable, .int .i64 y70.Tax, .slice A83 y70.Vector.length c85] :: Row K38 (.slice A87 o76.f_l.length c89) o76.f_l :: Bx b86 75 [.slice A87 o76.f_l.length c89] :: Γ))) wd1208 := H1207
                      refine sp_op [(136, .bool (y70.Expired == 0)), (140, undef)] (ac (hE1205 3 (by decide)) (ac (hE1205 7 (by decide)) an)) ?_
                      refine r_pick_f (.bool false) hb134 rfl rfl ?_
                      exact r_nil (n_lp ⟨_, rfl, undef, rfl, H1207⟩)
                    · intro η133 wd1213 Δ1214 hE1210 hR1211 H1212
                      have H1212 : Hp w0 ((Δ1214 ++ (Row K38 (.slice A52 o41.f_l.length c54) o41.f_l :: Bx b51 75 [.slice A52 o41.f_l.length c54] :: Row K3 (.slice A83 y70.Vector.length c85) y70.Vector :: Bx b97 59 [.int .i64 y70.Income, .int .i64 y70.Expired, .int .i64 y70.Used, .int .i64 y70.New, .int .i64 y70.Taxable, .int .i64 y70.Tax, .slice A83 y70.Vector.length c85] :: Row K38 (.slice A87 o76.f_l.length c89) o76.f_l :: Bx b86 75 [.slice A87 o76.f_l.length c89] :: Γ))) wd1213 := H1212
                      refine sp_op [(141, .bool false)] (ac (hE1210 8 (by decide)) an) ?_
                      refine r_pure (.bool false) rfl ?_
                      exact r_nil (n_lp ⟨_, rfl, undef, rfl, H1212⟩)
                    · intro η133 wd1218 Δ1219 hE1215 hR1216 H1217
                      have H1217 : Hp w0 ((Δ1219 ++ (Row K38 (.slice A52 o41.f_l.length c54) o41.f_l :: Bx b51 75 [.slice A52 o41.f_l.length c54] :: Row K3 (.slice A83 y70.Vector.length c85) y70.Vector :: Bx b97 59 [.int .i64 y70.Income, .int .i64 y70.Expired, .int .i64 y70.Used, .int .i64 y70.New, .int .i64 y70.Taxable, .int .i64 y70.Tax, .slice A83 y70.Vector.length c85] :: Row K38 (.slice A87 o76.f_l.length c89) o76.f_l :: Bx b86 75 [.slice A87 o76.f_l.length c89] :: Γ))) wd1218 := H1217
                      refine sp_op [(12, .pointer (some ⟨b97, 0, none⟩)), (142, .bool false)] (ac rfl (ac (hE1215 9 (by decide)) an)) ?_
                      refine r_not (wn_f rfl rfl (by decide) rfl rfl) ?_
                      exact r_nil (n_lp ⟨_, rfl, undef, rfl, H1217⟩)
                    · intro η133 wd1223 Δ1224 hE1220 hR1221 H1222
                      have H1222 : Hp w0 ((Δ1224 ++ (Row K38 (.slice A52 o41.f_l.length c54) o41.f_l :: Bx b51 75 [.slice A52 o41.f_l.length c54] :: Row K3 (.slice A83 y70.Vector.length c85) y70.Vector :: Bx b97 59 [.int .i64 y70.Income, .int .i64 y70.Expired, .int .i64 y70.Used, .int .i64 y70.New, .int .i64 y70.Taxable, .int .i64 y70.Tax, .slice A83 y70.Vector.length c85] :: Row K38 (.slice A87 o76.f_l.length c89) o76.f_l :: Bx b86 75 [.slice A87 o76.f_l.length c89] :: Γ))) wd1223 := H1222
                      refine sp_op [(142, .bool false), (143, undef)] (ac (hE1220 9 (by decide)) (ac (hE1220 10 (by decide)) an)) ?_
                      refine r_not (wn_f rfl rfl (by decide) rfl rfl) ?_
                      exact r_nil (n_lp ⟨_, rfl, undef, rfl, H1222⟩)
                    · intro η133 wd1228 Δ1229 hE1225 hR1226 H1227
                      have H1227 : Hp w0 ((Δ1229 ++ (Row K38 (.slice A52 o41.f_l.length c54) o41.f_l :: Bx b51 75 [.slice A52 o41.f_l.length c54] :: Row K3 (.slice A83 y70.Vector.length c85) y70.Vector :: Bx b97 59 [.int .i64 y70.Income, .int .i64 y70.Expired, .int .i64 y70.Used, .int .i64 y70.New, .int .i64 y70.Taxable, .int .i64 y70.Tax, .slice A83 y70.Vector.length c85] :: Row K38 (.slice A87 o76.f_l.length c89) o76.f_l :: Bx b86 75 [.slice A87 o76.f_l.length c89] :: Γ))) wd1228 := H1227
                      refine sp_op [(1, .int .i64 (w64 (2 * y7))), (142, .bool false)] (ac rfl (ac (hE1225 9 (by decide)) an)) ?_
                      refine r_not (wn_f rfl rfl (by decide) rfl rfl) ?_
                      exact r_nil (n_lp ⟨_, rfl, undef, rfl, H1227⟩)
                    · intro η133 wd1233 Δ1234 hE1230 hR1231 H1232
                      have H1232 : Hp w0 ((Δ1234 ++ (Row K38 (.slice A52 o41.f_l.length c54) o41.f_l :: Bx b51 75 [.slice A52 o41.f_l.length c54] :: Row K3 (.slice A83 y70.Vector.length c85) y70.Vector :: Bx b97 59 [.int .i64 y70.Income, .int .i64 y70.Expired, .int .i64 y70.Used, .int .i64 y70.New, .int .i64 y70.Taxable, .int .i64 y70.Tax, .slice A83 y70.Vector.length c85] :: Row K38 (.slice A87 o76.f_l.length c89) o76.f_l :: Bx b86 75 [.slice A87 o76.f_l.length c89] :: Γ))) wd1233 := H1232
                      refine sp_op [(14, .int .i64 (mn (w64 (1 + y1)) (w64 (Int.tdiv (w64 (2 * y7)) 2)))), (142, .bool false)] (ac rfl (ac (hE1230 9 (by decide)) an)) ?_
                      refine r_not (wn_f rfl rfl (by decide) rfl rfl) ?_
                      exact r_nil (n_lp ⟨_, rfl, undef, rfl, H1232⟩)
                    · intro η133 wd1238 Δ1239 hE1235 hR1236 H1237
                      have H1237 : Hp w0 ((Δ1239 ++ (Row K38 (.slice A52 o41.f_l.length c54) o41.f_l :: Bx b51 75 [.slice A52 o41.f_l.length c54] :: Row K3 (.slice A83 y70.Vector.length c85) y70.Vector :: Bx b97 59 [.int .i64 y70.Income, .int .i64 y70.Expired, .int .i64 y70.Used, .int .i64 y70.New, .int .i64 y70.Taxable, .int .i64 y70.Tax, .slice A83 y70.Vector.length c85] :: Row K38 (.slice A87 o76.f_l.length c89) o76.f_l :: Bx b86 75 [.slice A87 o76.f_l.length c89] :: Γ))) wd1238 := H1237
                      refine sp_op [(142, .bool false), (145, undef), (146, undef)] (ac (hE1235 9 (by decide)) (ac (hE1235 12 (by decide)) (ac (hE1235 13 (by decide)) an))) ?_
                      refine r_not (wn_f rfl rfl (by decide) rfl rfl) ?_
                      exact r_nil (n_lp ⟨_, rfl, undef, rfl, H1237⟩)
                    · intro η133 wd1243 Δ1244 hE1240 hR1241 H1242
                      have H1242 : Hp w0 ((Δ1244 ++ (Row K38 (.slice A52 o41.f_l.length c54) o41.f_l :: Bx b51 75 [.slice A52 o41.f_l.length c54] :: Row K3 (.slice A83 y70.Vector.length c85) y70.Vector :: Bx b97 59 [.int .i64 y70.Income, .int .i64 y70.Expired, .int .i64 y70.Used, .int .i64 y70.New, .int .i64 y70.Taxable, .int .i64 y70.Tax, .slice A83 y70.Vector.length c85] :: Row K38 (.slice A87 o76.f_l.length c89) o76.f_l :: Bx b86 75 [.slice A87 o76.f_l.length c89] :: Γ))) wd1243 := H1242
                      refine sp_op [(142, .bool false), (144, undef), (147, undef)] (ac (hE1240 9 (by decide)) (ac (hE1240 11 (by decide)) (ac (hE1240 14 (by decide)) an))) ?_
                      refine r_not (wn_f rfl rfl (by decide) rfl rfl) ?_
                      exact r_nil (n_lp ⟨_, rfl, undef, rfl, H1242⟩)
                    · intro η133 wd1248 Δ1249 hE1245 hR1246 H1247
                      have H1247 : Hp w0 ((Δ1249 ++ (Row K38 (.slice A52 o41.f_l.length c54) o41.f_l :: Bx b51 75 [.slice A52 o41.f_l.length c54] :: Row K3 (.slice A83 y70.Vector.length c85) y70.Vector :: Bx b97 59 [.int .i64 y70.Income, .int .i64 y70.Expired, .int .i64 y70.Used, .int .i64 y70.New, .int .i64 y70.Taxable, .int .i64 y70.Tax, .slice A83 y70.Vector.length c85] :: Row K38 (.slice A87 o76.f_l.length c89) o76.f_l :: Bx b86 75 [.slice A87 o76.f_l.length c89] :: Γ))) wd1248 := H1247
                      refine sp_op [(142, .bool false), (148, undef)] (ac (hE1245 9 (by decide)) (ac (hE1245 15 (by decide)) an)) ?_
                      refine r_pick_f (.bool false) rfl rfl rfl ?_
                      exact r_nil (n_lp ⟨_, rfl, undef, rfl, H1247⟩)
                    · intro η133 wd1253 Δ1254 hE1250 hR1251 H1252
                      have H1252 : Hp w0 ((Δ1254 ++ (Row K38 (.slice A52 o41.f_l.length c54) o41.f_l :: Bx b51 75 [.slice A52 o41.f_l.length c54] :: Row K3 (.slice A83 y70.Vector.length c85) y70.Vector :: Bx b97 59 [.int .i64 y70.Income, .int .i64 y70.Expired, .int .i64 y70.Used, .int .i64 y70.New, .int .i64 y70.Taxable, .int .i64 y70.Tax, .slice A83 y70.Vector.length c85] :: Row K38 (.slice A87 o76.f_l.length c89) o76.f_l :: Bx b86 75 [.slice A87 o76.f_l.length c89] :: Γ))) wd1253 := H1252
                      refine sp_op [(149, .bool false)] (ac (hE1250 16 (by decide)) an) ?_
                      refine r_pure (.bool false) rfl ?_
                      exact r_nil (n_lp ⟨_, rfl, undef, rfl, H1252⟩)
                    · intro η133 wd1258 Δ1259 hE1255 hR1256 H1257
                      have H1257 : Hp w0 ((Δ1259 ++ (Row K38 (.slice A52 o41.f_l.length c54) o41.f_l :: Bx b51 75 [.slice A52 o41.f_l.length c54] :: Row K3 (.slice A83 y70.Vector.length c85) y70.Vector :: Bx b97 59 [.int .i64 y70.Income, .int .i64 y70.Expired, .int .i64 y70.Used, .int .i64 y70.New, .int .i64 y70.Taxable, .int .i64 y70.Tax, .slice A83 y70.Vector.length c85] :: Row K38 (.slice A87 o76.f_l.length c89) o76.f_l :: Bx b86 75 [.slice A87 o76.f_l.length c89] :: Γ))) wd1258 := H1257
                      refine sp_op [(13, .pointer (some ⟨b86, 0, none⟩)), (150, .bool false)] (ac rfl (ac (hE1255 17 (by decide)) an)) ?_
                      refine r_not (wn_f rfl rfl (by decide) rfl rfl) ?_
                      exact r_nil (n_lp ⟨_, rfl, undef, rfl, H1257⟩)
                    · intro η133 wd1263 Δ1264 hE1260 hR1261 H1262
                      have H1262 : Hp w0 ((Δ1264 ++ (Row K38 (.slice A52 o41.f_l.length c54) o41.f_l :: Bx b51 75 [.slice A52 o41.f_l.length c54] :: Row K3 (.slice A83 y70.Vector.length c85) y70.Vector :: Bx b97 59 [.int .i64 y70.Income, .int .i64 y70.Expired, .int .i64 y70.Used, .int .i64 y70.New, .int .i64 y70.Taxable, .int .i64 y70.Tax, .slice A83 y70.Vector.length c85] :: Row K38 (.slice A87 o76.f_l.length c89) o76.f_l :: Bx b86 75 [.slice A87 o76.f_l.length c89] :: Γ))) wd1263 := H1262
                      refine sp_op [(150, .bool false), (151, undef)] (ac (hE1260 17 (by decide)) (ac (hE1260 18 (by decide)) an)) ?_
                      refine r_not (wn_f rfl rfl (by decide) rfl rfl) ?_
                      exact r_nil (n_lp ⟨_, rfl, undef, rfl, H1262⟩)
                    · intro η133 wd1268 Δ1269 hE1265 hR1266 H1267
                      have H1267 : Hp w0 ((Δ1269 ++ (Row K38 (.slice A52 o41.f_l.length c54) o41.f_l :: Bx b51 75 [.slice A52 o41.f_l.length c54] :: Row K3 (.slice A83 y70.Vector.length c85) y70.Vector :: Bx b97 59 [.int .i64 y70.Income, .int .i64 y70.Expired, .int .i64 y70.Used, .int .i64 y70.New, .int .i64 y70.Taxable, .int .i64 y70.Tax, .slice A83 y70.Vector.length c85] :: Row K38 (.slice A87 o76.f_l.length c89) o76.f_l :: Bx b86 75 [.slice A87 o76.f_l.length c89] :: Γ))) wd1268 := H1267
                      refine sp_op [(0, .int .i64 (w64 (1 + y1))), (150, .bool false)] (ac rfl (ac (hE1265 17 (by decide)) an)) ?_
                      refine r_not (wn_f rfl rfl (by decide) rfl rfl) ?_
                      exact r_nil (n_lp ⟨_, rfl, undef, rfl, H1267⟩)
                    · intro η133 wd1273 Δ1274 hE1270 hR1271 H1272
                      have H1272 : Hp w0 ((Δ1274 ++ (Row K38 (.slice A52 o41.f_l.length c54) o41.f_l :: Bx b51 75 [.slice A52 o41.f_l.length c54] :: Row K3 (.slice A83 y70.Vector.length c85) y70.Vector :: Bx b97 59 [.int .i64 y70.Income, .int .i64 y70.Expired, .int .i64 y70.Used, .int .i64 y70.New, .int .i64 y70.Taxable, .int .i64 y70.Tax, .slice A83 y70.Vector.length c85] :: Row K38 (.slice A87 o76.f_l.length c89) o76.f_l :: Bx b86 75 [.slice A87 o76.f_l.length c89] :: Γ))) wd1273 := H1272
                      refine sp_op [(14, .int .i64 (mn (w64 (1 + y1)) (w64 (Int.tdiv (w64 (2 * y7)) 2)))), (150, .bool false)] (ac rfl (ac (hE1270 17 (by decide)) an)) ?_
                      refine r_not (wn_f rfl rfl (by decide) rfl rfl) ?_
                      exact r_nil (n_lp ⟨_, rfl, undef, rfl, H1272⟩)
                    · intro η133 wd1278 Δ1279 hE1275 hR1276 H1277
                      have H1277 : Hp w0 ((Δ1279 ++ (Row K38 (.slice A52 o41.f_l.length c54) o41.f_l :: Bx b51 75 [.slice A52 o41.f_l.length c54] :: Row K3 (.slice A83 y70.Vector.length c85) y70.Vector :: Bx b97 59 [.int .i64 y70.Income, .int .i64 y70.Expired, .int .i64 y70.Used, .int .i64 y70.New, .int .i64 y70.Taxable, .int .i64 y70.Tax, .slice A83 y70.Vector.length c85] :: Row K38 (.slice A87 o76.f_l.length c89) o76.f_l :: Bx b86 75 [.slice A87 o76.f_l.length c89] :: Γ))) wd1278 := H1277
                      refine sp_op [(150, .bool false), (153, undef), (154, undef)] (ac (hE1275 17 (by decide)) (ac (hE1275 20 (by decide)) (ac (hE1275 21 (by decide)) an))) ?_
                      refine r_not (wn_f rfl rfl (by decide) rfl rfl) ?_
                      exact r_nil (n_lp ⟨_, rfl, undef, rfl, H1277⟩)
                    · intro η133 wd1283 Δ1284 hE1280 hR1281 H1282
                      have H1282 : Hp w0 ((Δ1284 ++ (Row K38 (.slice A52 o41.f_l.length c54) o41.f_l :: Bx b51 75 [.slice A52 o41.f_l.length c54] :: Row K3 (.slice A83 y70.Vector.length c85) y70.Vector :: Bx b97 59 [.int .i64 y70.Income, .int .i64 y70.Expired, .int .i64 y70.Used, .int .i64 y70.New, .int .i64 y70.Taxable, .int .i64 y70.Tax, .slice A83 y70.Vector.length c85] :: Row K38 (.slice A87 o76.f_l.length c89) o76.f_l :: Bx b86 75 [.slice A87 o76.f_l.length c89] :: Γ))) wd1283 := H1282
                      refine sp_op [(150, .bool false), (152, undef), (155, undef)] (ac (hE1280 17 (by decide)) (ac (hE1280 19 (by decide)) (ac (hE1280 22 (by decide)) an))) ?_
                      refine r_not (wn_f rfl rfl (by decide) rfl rfl) ?_
                      exact r_nil (n_lp ⟨_, rfl, undef, rfl, H1282⟩)
                    · intro η133 wd1288 Δ1289 hE1285 hR1286 H1287
                      have H1287 : Hp w0 ((Δ1289 ++ (Row K38 (.slice A52 o41.f_l.length c54) o41.f_l :: Bx b51 75 [.slice A52 o41.f_l.length c54] :: Row K3 (.slice A83 y70.Vector.length c85) y70.Vector :: Bx b97 59 [.int .i64 y70.Income, .int .i64 y70.Expired, .int .i64 y70.Used, .int .i64 y70.New, .int .i64 y70.Taxable, .int .i64 y70.Tax, .slice A83 y70.Vector.length c85] :: Row K38 (.slice A87 o76.f_l.length c89) o76.f_l :: Bx b86 75 [.slice A87 o76.f_l.length c89] :: Γ))) wd1288 := H1287
                      refine sp_op [(150, .bool false), (156, undef)] (ac (hE1285 17 (by decide)) (ac (hE1285 23 (by decide)) an)) ?_
                      refine r_pick_f (.bool false) rfl rfl rfl ?_
                      exact r_nil (n_lp ⟨_, rfl, undef, rfl, H1287⟩)
                    · intro η133 wd1293 Δ1294 hE1290 hR1291 H1292
                      have H1292 : Hp w0 ((Δ1294 ++ (Row K38 (.slice A52 o41.f_l.length c54) o41.f_l :: Bx b51 75 [.slice A52 o41.f_l.length c54] :: Row K3 (.slice A83 y70.Vector.length c85) y70.Vector :: Bx b97 59 [.int .i64 y70.Income, .int .i64 y70.Expired, .int .i64 y70.Used, .int .i64 y70.New, .int .i64 y70.Taxable, .int .i64 y70.Tax, .slice A83 y70.Vector.length c85] :: Row K38 (.slice A87 o76.f_l.length c89) o76.f_l :: Bx b86 75 [.slice A87 o76.f_l.length c89] :: Γ))) wd1293 := H1292
                      refine sp_op [(157, .bool false)] (ac (hE1290 24 (by decide)) an) ?_
                      refine r_pure (.bool false) rfl ?_
                      exact r_nil (n_lp ⟨_, rfl, undef, rfl, H1292⟩)
                    · intro η133 wd1298 Δ1299 hE1295 hR1296 H1297
                      have H1297 : Hp w0 ((Δ1299 ++ (Row K38 (.slice A52 o41.f_l.length c54) o41.f_l :: Bx b51 75 [.slice A52 o41.f_l.length c54] :: Row K3 (.slice A83 y70.Vector.length c85) y70.Vector :: Bx b97 59 [.int .i64 y70.Income, .int .i64 y70.Expired, .int .i64 y70.Used, .int .i64 y70.New, .int .i64 y70.Taxable, .int .i64 y70.Tax, .slice A83 y70.Vector.length c85] :: Row K38 (.slice A87 o76.f_l.length c89) o76.f_l :: Bx b86 75 [.slice A87 o76.f_l.length c89] :: Γ))) wd1298 := H1297
                      refine sp_op [(12, .pointer (some ⟨b97, 0, none⟩)), (158, .bool false)] (ac rfl (ac (hE1295 25 (by decide)) an)) ?_
                      refine r_not (wn_f rfl rfl (by decide) rfl rfl) ?_
                      exact r_nil (n_lp ⟨_, rfl, undef, rfl, H1297⟩)
                    · intro η133 wd1303 Δ1304 hE1300 hR1301 H1302
                      have H1302 : Hp w0 ((Δ1304 ++ (Row K38 (.slice A52 o41.f_l.length c54) o41.f_l :: Bx b51 75 [.slice A52 o41.f_l.length c54] :: Row K3 (.slice A83 y70.Vector.length c85) y70.Vector :: Bx b97 59 [.int .i64 y70.Income, .int .i64 y70.Expired, .int .i64 y70.Used, .int .i64 y70.New, .int .i64 y70.Taxable, .int .i64 y70.Tax, .slice A83 y70.Vector.length c85] :: Row K38 (.slice A87 o76.f_l.length c89) o76.f_l :: Bx b86 75 [.slice A87 o76.f_l.length c89] :: Γ))) wd1303 := H1302
                      refine sp_op [(158, .bool false), (159, undef)] (ac (hE1300 25 (by decide)) (ac (hE1300 26 (by decide)) an)) ?_
                      refine r_not (wn_f rfl rfl (by decide) rfl rfl) ?_
                      exact r_nil (n_lp ⟨_, rfl, undef, rfl, H1302⟩)
                    · intro η133 wd1308 Δ1309 hE1305 hR1306 H1307
                      have H1307 : Hp w0 ((Δ1309 ++ (Row K38 (.slice A52 o41.f_l.length c54) o41.f_l :: Bx b51 75 [.slice A52 o41.f_l.length c54] :: Row K3 (.slice A83 y70.Vector.length c85) y70.Vector :: Bx b97 59 [.int .i64 y70.Income, .int .i64 y70.Expired, .int .i64 y70.Used, .int .i64 y70.New, .int .i64 y70.Taxable, .int .i64 y70.Tax, .slice A83 y70.Vector.length c85] :: Row K38 (.slice A87 o76.f_l.length c89) o76.f_l :: Bx b86 75 [.slice A87 o76.f_l.length c89] :: Γ))) wd1308 := H1307
                      refine sp_op [(1, .int .i64 (w64 (2 * y7))), (158, .bool false)] (ac rfl (ac (hE1305 25 (by decide)) an)) ?_
                      refine r_not (wn_f rfl rfl (by decide) rfl rfl) ?_
                      exact r_nil (n_lp ⟨_, rfl, undef, rfl, H1307⟩)
                    · intro η133 wd1313 Δ1314 hE1310 hR1311 H1312
                      have H1312 : Hp w0 ((Δ1314 ++ (Row K38 (.slice A52 o41.f_l.length c54) o41.f_l :: Bx b51 75 [.slice A52 o41.f_l.length c54] :: Row K3 (.slice A83 y70.Vector.length c85) y70.Vector :: Bx b97 59 [.int .i64 y70.Income, .int .i64 y70.Expired, .int .i64 y70.Used, .int .i64 y70.New, .int .i64 y70.Taxable, .int .i64 y70.Tax, .slice A83 y70.Vector.length c85] :: Row K38 (.slice A87 o76.f_l.length c89) o76.f_l :: Bx b86 75 [.slice A87 o76.f_l.length c89] :: Γ))) wd1313 := H1312
                      refine sp_op [(14, .int .i64 (mn (w64 (1 + y1)) (w64 (Int.tdiv (w64 (2 * y7)) 2)))), (158, .bool false)] (ac rfl (ac (hE1310 25 (by decide)) an)) ?_
                      refine r_not (wn_f rfl rfl (by decide) rfl rfl) ?_
                      exact r_nil (n_lp ⟨_, rfl, undef, rfl, H1312⟩)
                    · intro η133 wd1318 Δ1319 hE1315 hR1316 H1317
                      have H1317 : Hp w0 ((Δ1319 ++ (Row K38 (.slice A52 o41.f_l.length c54) o41.f_l :: Bx b51 75 [.slice A52 o41.f_l.length c54] :: Row K3 (.slice A83 y70.Vector.length c85) y70.Vector :: Bx b97 59 [.int .i64 y70.Income, .int .i64 y70.Expired, .int .i64 y70.Used, .int .i64 y70.New, .int .i64 y70.Taxable, .int .i64 y70.Tax, .slice A83 y70.Vector.length c85] :: Row K38 (.slice A87 o76.f_l.length c89) o76.f_l :: Bx b86 75 [.slice A87 o76.f_l.length c89] :: Γ))) wd1318 := H1317
                      refine sp_op [(158, .bool false), (161, undef), (162, undef)] (ac (hE1315 25 (by decide)) (ac (hE1315 28 (by decide)) (ac (hE1315 29 (by decide)) an))) ?_
                      refine r_not (wn_f rfl rfl (by decide) rfl rfl) ?_
                      exact r_nil (n_lp ⟨_, rfl, undef, rfl, H1317⟩)
                    · intro η133 wd1323 Δ1324 hE1320 hR1321 H1322
                      have H1322 : Hp w0 ((Δ1324 ++ (Row K38 (.slice A52 o41.f_l.length c54) o41.f_l :: Bx b51 75 [.slice A52 o41.f_l.length c54] :: Row K3 (.slice A83 y70.Vector.length c85) y70.Vector :: Bx b97 59 [.int .i64 y70.Income, .int .i64 y70.Expired, .int .i64 y70.Used, .int .i64 y70.New, .int .i64 y70.Taxable, .int .i64 y70.Tax, .slice A83 y70.Vector.length c85] :: Row K38 (.slice A87 o76.f_l.length c89) o76.f_l :: Bx b86 75 [.slice A87 o76.f_l.length c89] :: Γ))) wd1323 := H1322
                      refine sp_op [(158, .bool false), (160, undef), (163, undef)] (ac (hE1320 25 (by decide)) (ac (hE1320 27 (by decide)) (ac (hE1320 30 (by decide)) an))) ?_
                      refine r_not (wn_f rfl rfl (by decide) rfl rfl) ?_
                      exact r_nil (n_lp ⟨_, rfl, undef, rfl, H1322⟩)
                    · intro η133 wd1328 Δ1329 hE1325 hR1326 H1327
                      have H1327 : Hp w0 ((Δ1329 ++ (Row K38 (.slice A52 o41.f_l.length c54) o41.f_l :: Bx b51 75 [.slice A52 o41.f_l.length c54] :: Row K3 (.slice A83 y70.Vector.length c85) y70.Vector :: Bx b97 59 [.int .i64 y70.Income, .int .i64 y70.Expired, .int .i64 y70.Used, .int .i64 y70.New, .int .i64 y70.Taxable, .int .i64 y70.Tax, .slice A83 y70.Vector.length c85] :: Row K38 (.slice A87 o76.f_l.length c89) o76.f_l :: Bx b86 75 [.slice A87 o76.f_l.length c89] :: Γ))) wd1328 := H1327
                      refine sp_op [(158, .bool false), (164, undef)] (ac (hE1325 25 (by decide)) (ac (hE1325 31 (by decide)) an)) ?_
                      refine r_pick_f (.bool false) rfl rfl rfl ?_
                      exact r_nil (n_lp ⟨_, rfl, undef, rfl, H1327⟩)
                    · intro η133 wd1333 Δ1334 hE1330 hR1331 H1332
                      have H1332 : Hp w0 ((Δ1334 ++ (Row K38 (.slice A52 o41.f_l.length c54) o41.f_l :: Bx b51 75 [.slice A52 o41.f_l.length c54] :: Row K3 (.slice A83 y70.Vector.length c85) y70.Vector :: Bx b97 59 [.int .i64 y70.Income, .int .i64 y70.Expired, .int .i64 y70.Used, .int .i64 y70.New, .int .i64 y70.Taxable, .int .i64 y70.Tax, .slice A83 y70.Vector.length c85] :: Row K38 (.slice A87 o76.f_l.length c89) o76.f_l :: Bx b86 75 [.slice A87 o76.f_l.length c89] :: Γ))) wd1333 := H1332
                      refine sp_op [(165, .bool false)] (ac (hE1330 32 (by decide)) an) ?_
                      refine r_pure (.bool false) rfl ?_
                      exact r_nil (n_lp ⟨_, rfl, undef, rfl, H1332⟩)
                    · intro η133 wd1338 Δ1339 hE1335 hR1336 H1337
                      have H1337 : Hp w0 ((Δ1339 ++ (Row K38 (.slice A52 o41.f_l.length c54) o41.f_l :: Bx b51 75 [.slice A52 o41.f_l.length c54] :: Row K3 (.slice A83 y70.Vector.length c85) y70.Vector :: Bx b97 59 [.int .i64 y70.Income, .int .i64 y70.Expired, .int .i64 y70.Used, .int .i64 y70.New, .int .i64 y70.Taxable, .int .i64 y70.Tax, .slice A83 y70.Vector.length c85] :: Row K38 (.slice A87 o76.f_l.length c89) o76.f_l :: Bx b86 75 [.slice A87 o76.f_l.length c89] :: Γ))) wd1338 := H1337
                      refine sp_op [(166, .bool false)] (ac (hE1335 33 (by decide)) an) ?_
                      refine r_not (wn_f rfl rfl (by decide) rfl rfl) ?_
                      exact r_nil (n_lp ⟨_, rfl, undef, rfl, H1337⟩)
                    · intro η133 wd1343 Δ1344 hE1340 hR1341 H1342
                      have H1342 : Hp w0 ((Δ1344 ++ (Row K38 (.slice A52 o41.f_l.length c54) o41.f_l :: Bx b51 75 [.slice A52 o41.f_l.length c54] :: Row K3 (.slice A83 y70.Vector.length c85) y70.Vector :: Bx b97 59 [.int .i64 y70.Income, .int .i64 y70.Expired, .int .i64 y70.Used, .int .i64 y70.New, .int .i64 y70.Taxable, .int .i64 y70.Tax, .slice A83 y70.Vector.length c85] :: Row K38 (.slice A87 o76.f_l.length c89) o76.f_l :: Bx b86 75 [.slice A87 o76.f_l.length c89] :: Γ))) wd1343 := H1342
                      refine sp_op [(166, .bool false), (167, undef)] (ac (hE1340 33 (by decide)) (ac (hE1340 34 (by decide)) an)) ?_
                      refine r_pick_f (.bool false) rfl rfl rfl ?_
                      exact r_nil (n_lp ⟨_, rfl, undef, rfl, H1342⟩)
                    · intro η133 wd1348 Δ1349 hE1345 hR1346 H1347
                      have H1347 : Hp w0 ((Δ1349 ++ (Row K38 (.slice A52 o41.f_l.length c54) o41.f_l :: Bx b51 75 [.slice A52 o41.f_l.length c54] :: Row K3 (.slice A83 y70.Vector.length c85) y70.Vector :: Bx b97 59 [.int .i64 y70.Income, .int .i64 y70.Expired, .int .i64 y70.Used, .int .i64 y70.New, .int .i64 y70.Taxable, .int .i64 y70.Tax, .slice A83 y70.Vector.length c85] :: Row K38 (.slice A87 o76.f_l.length c89) o76.f_l :: Bx b86 75 [.slice A87 o76.f_l.length c89] :: Γ))) wd1348 := H1347
                      refine sp_op [(168, .bool false)] (ac (hE1345 35 (by decide)) an) ?_
                      refine r_pure (.bool false) rfl ?_
                      exact r_nil (n_lp ⟨_, rfl, undef, rfl, H1347⟩)
                    · intro η133 wd1351 hV1352 H1350
                      have H1353 : Hp w0 (Row K38 (.slice A52 o41.f_l.length c54) o41.f_l :: Bx b51 75 [.slice A52 o41.f_l.length c54] :: Row K3 (.slice A83 y70.Vector.length c85) y70.Vector :: Bx b97 59 [.int .i64 y70.Income, .int .i64 y70.Expired, .int .i64 y70.Used, .int .i64 y70.New, .int .i64 y70.Taxable, .int .i64 y70.Tax, .slice A83 y70.Vector.length c85] :: Row K38 (.slice A87 o76.f_l.length c89) o76.f_l :: Bx b86 75 [.slice A87 o76.f_l.length c89] :: Γ) wd1351 := H1350
                      refine n_frame [(8, .bool false)] (ac (hV1352 36 rfl) an) ?_
                      refine n_cut ⟨false, upk (ac rfl an), H1353.d.d.d.d.d.d, hm⟩
                · rintro ρ w ⟨q131, ⟨base, rfl⟩, H132, hm⟩
                  unfold scutagelaw15_CurrentYears.j6 at hm
                  have hq_ := Option.some.inj hm
                  subst hq_
                  refine st_ret1 rfl rfl (Nat.le_of_ble_eq_true rfl) rfl ?_
                  exact ⟨rfl, H132⟩


end Go.Proofs.Ytcmhekibcbpajaa
