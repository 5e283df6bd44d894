/- The Go functions come to their models: printed by gen.py. -/
import Derived.Test.YtcmhekibcbpajaaEX0
set_option linter.unusedVariables false
set_option linter.unusedSimpArgs false
set_option maxRecDepth 100000
namespace Go.Proofs.Ytcmhekibcbpajaa
open Go Go.RowKit
attribute [local irreducible] W R N L Hp Row SlR Bx

set_option maxHeartbeats 2000000 in
theorem bucket_Register_Reclass_ok {w0 w : World} {Γ : List (World → Prop)} (b1 : Nat) (r_ : bucket_Register) (A2 : Option Addr) (c3 : Nat) (class_ : Int) (year : Int) (class2 : Int) (year2 : Int) (n_ : Int) (r0_ : Int) (r1_ : bucket_Register) (H : Hp w0 (Bx b1 89 [.slice A2 r_.f_l.length c3] :: Row K54 (.slice A2 r_.f_l.length c3) r_.f_l :: Γ) w) (hm : bucket_Register_Reclass r_ class_ year class2 year2 n_ = some (r0_, r1_)) : Calls Try.prog 31 #[.pointer (some ⟨b1, 0, none⟩), .int .i64 class_, .int .i64 year, .int .i64 class2, .int .i64 year2, .int .i64 n_] w (fun e w => ∃ (Ax1 : Option Addr) (nx2 cx3 : Nat), e = .returned (.int .i64 r0_) ∧ Hp w0 (Bx b1 89 [.slice Ax1 nx2 cx3] :: Row K54 (.slice Ax1 nx2 cx3) r1_.f_l :: Γ) w) := by
  unfold bucket_Register_Reclass at hm
  refine st_enter Try.func31 rfl Try.ntmps31 (Nat.le_of_ble_eq_true rfl) ?_
  refine st_seq ?_
  refine st_region ?_
  refine r_pure (.int .i64 0) rfl ?_
  refine r_seq ?_
  refine st_seq ?_
  refine st_cut (fun ρ w => ∃ q4 : Bool, (∃ base, ρ = updl base [(0, .pointer (some ⟨b1, 0, none⟩)), (1, .int .i64 class_), (2, .int .i64 year), (3, .int .i64 class2), (4, .int .i64 year2), (5, .int .i64 n_), (40, .bool q4)]) ∧ Hp w0 (Row K54 (.slice A2 r_.f_l.length c3) r_.f_l :: Bx b1 89 [.slice A2 r_.f_l.length c3] :: Γ) w ∧ bucket_Register_Reclass.j1 r_ class_ year class2 year2 n_ q4 = some (r0_, r1_)) ?_ ?_
  · refine st_region ?_
    refine r_pure (.int .i64 class_) rfl ?_
    refine r_pure (.int .i64 year) rfl ?_
    obtain ⟨y73, hy74, hm⟩ := bind_some hm
    refine r_callf Try.call61 (bucket_right_ok class_ year y73 H hy74) ?_
    rintro e76 wd75 ⟨rfl, H78⟩
    refine ⟨_, rfl, ?_⟩
    refine r_pure (.bool (!y73)) rfl ?_
    refine r_pure (.bool (!y73)) rfl ?_
    rcases ite_some hm with ⟨hb79, hm⟩ | ⟨hb79, hm⟩
    · refine r_not (wn_f rfl rfl (by decide) rfl hb79) ?_
      refine r_not (wn_f rfl rfl (by decide) rfl hb79) ?_
      refine r_not (wn_f rfl rfl (by decide) rfl hb79) ?_
      refine r_not (wn_f rfl rfl (by decide) rfl hb79) ?_
      refine r_pick_t (.bool true) hb79 rfl rfl ?_
      refine r_pure (.bool true) rfl ?_
      refine r_not (wn_f rfl rfl (by decide) rfl rfl) ?_
      refine r_not (wn_f rfl rfl (by decide) rfl rfl) ?_
      refine r_not (wn_f rfl rfl (by decide) rfl rfl) ?_
      refine r_pick_t (.bool true) rfl rfl rfl ?_
      refine r_pure (.bool true) rfl ?_
      refine r_not (wn_f rfl rfl (by decide) rfl rfl) ?_
      refine r_not (wn_f rfl rfl (by decide) rfl rfl) ?_
      refine r_not (wn_f rfl rfl (by decide) rfl rfl) ?_
      refine r_not (wn_f rfl rfl (by decide) rfl rfl) ?_
      refine r_not (wn_u rfl rfl (by decide) rfl rfl) ?_
      refine r_not (wn_u rfl rfl (by decide) rfl rfl) ?_
      refine r_not (wn_u rfl rfl (by decide) rfl rfl) ?_
      refine r_not (wn_f rfl rfl (by decide) rfl rfl) ?_
      refine r_pick_t (.bool true) rfl rfl rfl ?_
      refine r_nil ?_
      refine n_cut ⟨true, upk (ac rfl (ac rfl (ac rfl (ac rfl (ac rfl (ac rfl (ac rfl an))))))), H78.u1, hm⟩
    · refine r_pure (.int .i64 class2) rfl ?_ (wn_t rfl rfl (by decide) rfl hb79)
      refine r_pure (.int .i64 year2) rfl ?_ (wn_t rfl rfl (by decide) rfl hb79)
      obtain ⟨y80, hy81, hm⟩ := bind_some hm
      refine r_callf Try.call61 (bucket_right_ok class2 year2 y80 H78 hy81) ?_ (wn_t rfl rfl (by decide) rfl hb79)
      rintro e83 wd82 ⟨rfl, H85⟩
      refine ⟨_, rfl, ?_⟩
      refine r_pure (.bool (!y80)) rfl ?_ (wn_t rfl rfl (by decide) rfl hb79)
      refine r_pick_f (.bool (!y80)) hb79 rfl rfl ?_
      refine r_pure (.bool (!y80)) rfl ?_
      rcases ite_some hm with ⟨hb86, hm⟩ | ⟨hb86, hm⟩
      · refine r_not (wn_f rfl rfl (by decide) rfl hb86) ?_
        refine r_not (wn_f rfl rfl (by decide) rfl hb86) ?_
        refine r_not (wn_f rfl rfl (by decide) rfl hb86) ?_
        refine r_pick_t (.bool true) hb86 rfl rfl ?_
        refine r_pure (.bool true) rfl ?_
        refine r_not (wn_f rfl rfl (by decide) rfl rfl) ?_
        refine r_not (wn_f rfl rfl (by decide) rfl rfl) ?_
        refine r_not (wn_f rfl rfl (by decide) rfl rfl) ?_
        refine r_not (wn_f rfl rfl (by decide) rfl rfl) ?_
        refine r_not (wn_u rfl rfl (by decide) rfl rfl) ?_
        refine r_not (wn_u rfl rfl (by decide) rfl rfl) ?_
        refine r_not (wn_u rfl rfl (by decide) rfl rfl) ?_
        refine r_not (wn_f rfl rfl (by decide) rfl rfl) ?_
        refine r_pick_t (.bool true) rfl rfl rfl ?_
        refine r_nil ?_
        refine n_cut ⟨true, upk (ac rfl (ac rfl (ac rfl (ac rfl (ac rfl (ac rfl (ac rfl an))))))), H85.u1, hm⟩
      · refine r_pure (.int .i64 n_) rfl ?_ (wn_t rfl rfl (by decide) rfl hb86)
        obtain ⟨y87, hy88, hm⟩ := bind_some hm
        refine r_callf Try.call46 (rate_Money_ok n_ y87 H85 hy88) ?_ (wn_t rfl rfl (by decide) rfl hb86)
        rintro e90 wd89 ⟨rfl, H92⟩
        refine ⟨_, rfl, ?_⟩
        refine r_pure (.bool (!y87)) rfl ?_ (wn_t rfl rfl (by decide) rfl hb86)
        refine r_pick_f (.bool (!y87)) hb86 rfl rfl ?_
        refine r_pure (.bool (!y87)) rfl ?_
        rcases ite_some hm with ⟨hb93, hm⟩ | ⟨hb93, hm⟩
        · refine r_not (wn_f rfl rfl (by decide) rfl hb93) ?_
          refine r_not (wn_f rfl rfl (by decide) rfl hb93) ?_
          refine r_not (wn_f rfl rfl (by decide) rfl hb93) ?_
          refine r_not (wn_f rfl rfl (by decide) rfl hb93) ?_
          refine r_not (wn_u rfl rfl (by decide) rfl rfl) ?_
          refine r_not (wn_u rfl rfl (by decide) rfl rfl) ?_
          refine r_not (wn_u rfl rfl (by decide) rfl rfl) ?_
          refine r_not (wn_f rfl rfl (by decide) rfl hb93) ?_
          refine r_pick_t (.bool true) hb93 rfl rfl ?_
          refine r_nil ?_
          refine n_cut ⟨true, upk (ac rfl (ac rfl (ac rfl (ac rfl (ac rfl (ac rfl (ac rfl an))))))), H92.u1, hm⟩
        · refine r_pure (.int .i64 class_) rfl ?_ (wn_t rfl rfl (by decide) rfl hb93)
          refine r_pure (.int .i64 class2) rfl ?_ (wn_t rfl rfl (by decide) rfl hb93)
          refine r_pure (.bool (class_ == class2)) rfl ?_ (wn_t rfl rfl (by decide) rfl hb93)
          refine r_pure (.bool (class_ == class2)) rfl ?_ (wn_t rfl rfl (by decide) rfl hb93)
          rcases ite_some hm with ⟨hb94, hm⟩ | ⟨hb94, hm⟩
          · refine r_pure (.int .i64 year) rfl ?_ (wn_t rfl rfl (by decide) rfl hb94)
            refine r_pure (.int .i64 year2) rfl ?_ (wn_t rfl rfl (by decide) rfl hb94)
            refine r_pure (.bool (year == year2)) rfl ?_ (wn_t rfl rfl (by decide) rfl hb94)
            refine r_pick_t (.bool (year == year2)) hb94 rfl rfl ?_ (wn_t rfl rfl (by decide) rfl hb93)
            refine r_pick_f (.bool (year == year2)) hb93 rfl rfl ?_
            refine r_nil ?_
            refine n_cut ⟨year == year2, upk (ac rfl (ac rfl (ac rfl (ac rfl (ac rfl (ac rfl (ac rfl an))))))), H92.u1, hm⟩
          · refine r_not (wn_f rfl rfl (by decide) rfl hb94) ?_
            refine r_not (wn_f rfl rfl (by decide) rfl hb94) ?_
            refine r_not (wn_f rfl rfl (by decide) rfl hb94) ?_
            refine r_pick_f (.bool false) hb94 rfl rfl ?_ (wn_t rfl rfl (by decide) rfl hb93)
            refine r_pick_f (.bool false) hb93 rfl rfl ?_
            refine r_nil ?_
            refine n_cut ⟨false, upk (ac rfl (ac rfl (ac rfl (ac rfl (ac rfl (ac rfl (ac rfl an))))))), H92.u1, hm⟩
  · rintro ρ w ⟨q4, ⟨base, rfl⟩, H5, hm⟩
    unfold bucket_Register_Reclass.j1 at hm
    rcases ite_some hm with ⟨hb6, hm⟩ | ⟨hb6, hm⟩
    · refine st_condt hb6 rfl ?_
      refine st_seq ?_
      refine st_region ?_
      refine r_pure (.int .i64 1) rfl ?_
      refine r_seq ?_
      obtain ⟨rfl, rfl⟩ := some_inj2 hm
      refine st_ret1 rfl rfl (Nat.le_of_ble_eq_true rfl) rfl ?_
      exact ⟨A2, r_.f_l.length, c3, rfl, H5.u1⟩
    · refine st_condf hb6 rfl ?_
      refine st_skip ?_
      refine n_sq ?_
      refine st_seq ?_
      refine st_region ?_
      refine r_pure (.pointer (some ⟨b1, 0, none⟩)) rfl ?_
      refine r_pure (.int .i64 class_) rfl ?_
      refine r_pure (.int .i64 year) rfl ?_
      obtain ⟨y7, hy8, hm⟩ := bind_some hm
      refine r_callf Try.call30 (bucket_Register_Get_ok b1 (⟨r_.f_l⟩ : bucket_Register) A2 r_.f_l.length c3 rfl (((H5).g0).cap) (fun _ H => (H.g0.rd)) (fun _ H => (H.g1)) class_ year y7 H5 hy8) ?_
      rintro e10 wd9 ⟨rfl, H12⟩
      refine ⟨_, rfl, ?_⟩
      refine r_pure (.int .i64 n_) rfl ?_
      refine r_pure (.int .i64 (w64 (y7 - n_))) rfl ?_
      refine r_pure (.pointer (some ⟨b1, 0, none⟩)) rfl ?_
      refine r_pure (.int .i64 class2) rfl ?_
      refine r_pure (.int .i64 year2) rfl ?_
      obtain ⟨y13, hy14, hm⟩ := bind_some hm
      refine r_callf Try.call30 (bucket_Register_Get_ok b1 (⟨r_.f_l⟩ : bucket_Register) A2 r_.f_l.length c3 rfl (((H12).g0).cap) (fun _ H => (H.g0.rd)) (fun _ H => (H.g1)) class2 year2 y13 H12 hy14) ?_
      rintro e16 wd15 ⟨rfl, H18⟩
      refine ⟨_, rfl, ?_⟩
      refine r_pure (.int .i64 n_) rfl ?_
      refine r_pure (.int .i64 (w64 (y13 + n_))) rfl ?_
      refine r_pure (.int .i64 (w64 (y7 - n_))) rfl ?_
      refine r_pure (.int .i64 (w64 (y13 + n_))) rfl ?_
      refine r_seq ?_
      refine st_seq ?_
      refine st_cut (fun ρ w => ∃ q19 : Bool, (∃ base, ρ = updl base [(0, .pointer (some ⟨b1, 0, none⟩)), (1, .int .i64 class_), (2, .int .i64 year), (3, .int .i64 class2), (4, .int .i64 year2), (13, .int .i64 (w64 (y7 - n_))), (14, .int .i64 (w64 (y13 + n_))), (60, .bool q19)]) ∧ Hp w0 (Row K54 (.slice A2 r_.f_l.length c3) r_.f_l :: Bx b1 89 [.slice A2 r_.f_l.length c3] :: Γ) w ∧ bucket_Register_Reclass.j2 r_ class_ year y7 n_ class2 year2 y13 q19 = some (r0_, r1_)) ?_ ?_
      · refine st_region ?_
        refine r_pure (.int .i64 (w64 (y7 - n_))) rfl ?_
        obtain ⟨y60, hy61, hm⟩ := bind_some hm
        refine r_callf Try.call46 (rate_Money_ok (w64 (y7 - n_)) y60 H18 hy61) ?_
        rintro e63 wd62 ⟨rfl, H65⟩
        refine ⟨_, rfl, ?_⟩
        refine r_pure (.bool (!y60)) rfl ?_
        refine r_pure (.bool (!y60)) rfl ?_
        rcases ite_some hm with ⟨hb66, hm⟩ | ⟨hb66, hm⟩
        · refine r_not (wn_f rfl rfl (by decide) rfl hb66) ?_
          refine r_not (wn_f rfl rfl (by decide) rfl hb66) ?_
          refine r_not (wn_f rfl rfl (by decide) rfl hb66) ?_
          refine r_pick_t (.bool true) hb66 rfl rfl ?_
          refine r_nil ?_
          refine n_cut ⟨true, upk (ac rfl (ac rfl (ac rfl (ac rfl (ac rfl (ac rfl (ac rfl (ac rfl an)))))))), H65.u1.u1, hm⟩
        · refine r_pure (.int .i64 (w64 (y13 + n_))) rfl ?_ (wn_t rfl rfl (by decide) rfl hb66)
          obtain ⟨y67, hy68, hm⟩ := bind_some hm
          refine r_callf Try.call46 (rate_Money_ok (w64 (y13 + n_)) y67 H65 hy68) ?_ (wn_t rfl rfl (by decide) rfl hb66)
          rintro e70 wd69 ⟨rfl, H72⟩
          refine ⟨_, rfl, ?_⟩
          refine r_pure (.bool (!y67)) rfl ?_ (wn_t rfl rfl (by decide) rfl hb66)
          refine r_pick_f (.bool (!y67)) hb66 rfl rfl ?_
          refine r_nil ?_
          refine n_cut ⟨!y67, upk (ac rfl (ac rfl (ac rfl (ac rfl (ac rfl (ac rfl (ac rfl (ac rfl an)))))))), H72.u1.u1, hm⟩
      · rintro ρ w ⟨q19, ⟨base, rfl⟩, H20, hm⟩
        unfold bucket_Register_Reclass.j2 at hm
        rcases ite_some hm with ⟨hb21, hm⟩ | ⟨hb21, hm⟩
        · refine st_condt hb21 rfl ?_
          refine st_seq ?_
          refine st_region ?_
          refine r_pure (.int .i64 6) rfl ?_
          refine r_seq ?_
          obtain ⟨rfl, rfl⟩ := some_inj2 hm
          refine st_ret1 rfl rfl (Nat.le_of_ble_eq_true rfl) rfl ?_
          exact ⟨A2, r_.f_l.length, c3, rfl, H20.u1⟩
        · refine st_condf hb21 rfl ?_
          refine st_skip ?_
          refine n_sq ?_
          refine st_seq ?_
          refine st_region ?_
          refine r_pure (.pointer (some ⟨b1, 0, none⟩)) rfl ?_
          obtain ⟨y22, hy23, hm⟩ := bind_some hm
          refine r_callf Try.call62 (bucket_Register_Clone_ok b1 (⟨r_.f_l⟩ : bucket_Register) A2 r_.f_l.length c3 rfl (((H20).g0).cap) (fun _ H => (H.g0.rd)) (fun _ H => (H.g1)) y22 H20 hy23) ?_
          rintro e25 wd24 ⟨b28, A29, n30, c31, rfl, H27⟩
          obtain rfl := (H27.g1).leneq
          refine ⟨_, rfl, ?_⟩
          refine r_pure (.pointer (some ⟨b28, 0, none⟩)) rfl ?_
          refine r_seq ?_
          refine st_seq ?_
          refine st_region ?_
          refine r_pure (.pointer (some ⟨b28, 0, none⟩)) rfl ?_
          refine r_pure (.int .i64 class_) rfl ?_
          refine r_pure (.int .i64 year) rfl ?_
          refine r_pure (.int .i64 (w64 (y7 - n_))) rfl ?_
          obtain ⟨y32, hy33, hm⟩ := bind_some hm
          refine r_callf Try.call63 (bucket_Register_set_ok b28 (⟨y22.f_l⟩ : bucket_Register) A29 c31 class_ year (w64 (y7 - n_)) y32 H27.u1.u1 hy33) ?_
          rintro e35 wd34 ⟨A38, n39, c40, rfl, H37⟩
          obtain rfl := (H37.g1).leneq
          refine ⟨_, rfl, ?_⟩
          refine r_seq ?_
          refine st_seq ?_
          refine st_region ?_
          refine r_pure (.pointer (some ⟨b28, 0, none⟩)) rfl ?_
          refine r_pure (.int .i64 class2) rfl ?_
          refine r_pure (.int .i64 year2) rfl ?_
          refine r_pure (.int .i64 (w64 (y13 + n_))) rfl ?_
          obtain ⟨y41, hy42, hm⟩ := bind_some hm
          refine r_callf Try.call63 (bucket_Register_set_ok b28 (⟨y32.f_l⟩ : bucket_Register) A38 c40 class2 year2 (w64 (y13 + n_)) y41 H37.u1.u1 hy42) ?_
          rintro e44 wd43 ⟨A47, n48, c49, rfl, H46⟩
          obtain rfl := (H46.g1).leneq
          refine ⟨_, rfl, ?_⟩
          refine r_seq ?_
          refine st_seq ?_
          refine st_region ?_
          refine r_pure (.pointer (some ⟨b1, 0, none⟩)) rfl ?_
          refine r_pure (.pointer (some ⟨b28, 0, none⟩)) rfl ?_
          obtain ⟨⟨y50, y51⟩, hy52, hm⟩ := bind_some hm
          refine r_callf Try.call64 (bucket_Register_take_ok b1 (⟨r_.f_l⟩ : bucket_Register) A2 c3 b28 (⟨y41.f_l⟩ : bucket_Register) A47 c49 y50 y51 H46.u1.u1.u2.u3 hy52) ?_
          rintro e54 wd53 ⟨A57, n58, c59, rfl, H56⟩
          obtain rfl := (H56.g1).leneq
          refine ⟨_, rfl, ?_⟩
          refine r_pure (.int .i64 y50) rfl ?_
          refine r_seq ?_
          obtain ⟨rfl, rfl⟩ := some_inj2 hm
          refine st_ret1 rfl rfl (Nat.le_of_ble_eq_true rfl) rfl ?_
          exact ⟨A57, y51.f_l.length, c59, rfl, H56.u1.u1⟩

set_option maxHeartbeats 2000000 in
theorem scutagekeep_Same_api_Bucket_ok {w0 w : World} {Γ : List (World → Prop)} (a_ : List api_Bucket) (A1 : Option Addr) (n6 c2 : Nat) (hn5 : n6 = a_.length) (hc3 : a_.length ≤ c2) (hv4 : ∀ u, Hp w0 Γ u → SlR K54 A1 a_ u) (b_ : List api_Bucket) (A7 : Option Addr) (n12 c8 : Nat) (hn11 : n12 = b_.length) (hc9 : b_.length ≤ c8) (hv10 : ∀ u, Hp w0 Γ u → SlR K54 A7 b_ u) (r0_ : Bool) (H : Hp w0 (Γ) w) (hm : scutagekeep_Same_api_Bucket a_ b_ = some r0_) : Calls Try.prog 32 #[.slice A1 n6 c2, .slice A7 n12 c8] w (fun e w => e = .returned (.bool r0_) ∧ Hp w0 (Γ) w) := by
  subst hn5
  subst hn11
  unfold scutagekeep_Same_api_Bucket at hm
  refine st_enter Try.func32 rfl Try.ntmps32 (Nat.le_of_ble_eq_true rfl) ?_
  refine st_seq ?_
  refine st_region ?_
  refine r_pure (.bool false) rfl ?_
  refine r_seq ?_
  refine st_seq ?_
  refine st_seq ?_
  refine st_region ?_
  refine r_pure (.slice A1 a_.length c2) rfl ?_
  refine r_len Try.underlying51 rfl ?_
  refine r_pure (.slice A7 b_.length c8) rfl ?_
  refine r_len Try.underlying51 rfl ?_
  refine r_pure (.bool ((a_.length : Int) != (b_.length : Int))) rfl ?_
  refine r_seq ?_
  rcases ite_some hm with ⟨hb13, hm⟩ | ⟨hb13, hm⟩
  · refine st_condt hb13 rfl ?_
    refine st_seq ?_
    refine st_region ?_
    refine r_pure (.bool false) rfl ?_
    refine r_seq ?_
    have hq_ := Option.some.inj hm
    subst hq_
    refine st_ret1 rfl rfl (Nat.le_of_ble_eq_true rfl) rfl ?_
    exact ⟨rfl, H⟩
  · refine st_condf hb13 rfl ?_
    refine st_skip ?_
    refine n_sq ?_
    refine st_seq ?_
    refine st_seq ?_
    refine st_region ?_
    refine r_pure (.int .i64 0) rfl ?_
    refine r_seq ?_
    refine st_block ?_
    obtain ⟨tl18, hl19, hm17⟩ := bind_some hm
    refine st_loopF (scutagekeep_Same_api_Bucket.l1 a_ b_) (fun s ρ w => ∃ v15 : Int, v15 = s ∧ (∃ base, ρ = updl base [(0, .slice A1 a_.length c2), (1, .slice A7 b_.length c8), (5, .int .i64 v15)]) ∧ Hp w0 (Γ) w) hl19 (fun _ => rfl) ⟨0, rfl, upk (ac rfl (ac rfl (ac rfl an))), H⟩ ?_
    rintro fuel25 IH27 s ρ w ⟨v15, rfl, ⟨base, rfl⟩, H16⟩ hm
    rw [scutagekeep_Same_api_Bucket.l1] at hm
    refine st_seq ?_
    refine st_seq ?_
    refine st_region ?_
    refine r_pure (.int .i64 v15) rfl ?_
    refine r_pure (.slice A1 a_.length c2) rfl ?_
    refine r_len Try.underlying51 rfl ?_
    refine r_pure (.bool (decide (v15 < (a_.length : Int)))) rfl ?_
    refine r_seq ?_
    rcases ite_some hm with ⟨hb28, hm⟩ | ⟨hb28, hm⟩
    · refine st_condt hb28 rfl ?_
      refine st_skip ?_
      refine n_sq ?_
      refine st_seq ?_
      refine st_block ?_
      refine st_seq ?_
      obtain ⟨⟨h030, h131⟩, hm⟩ := gd_some hm
      have hj32 := rd_get h030 h131
      obtain ⟨⟨h034, h135⟩, hm⟩ := gd_some hm
      have hj36 := rd_get h034 h135
      refine Flow.run' [[], [], [0, 1], [0, 1, 2], [], [], [4, 5], [4, 5, 6], [0, 1, 2, 3, 4, 5, 6, 7]] [(17, 0), (18, 1), (19, 2), (20, 3), (21, 4), (22, 5), (23, 6), (24, 7), (25, 8)] [(fun η29 v => v.1 = .slice A1 a_.length c2), (fun η29 v => v.1 = .int .i64 v15), (fun η29 v => v.1 = .pointer (some ((oA A1).add (Int.toNat v15 * 3)))), (fun η29 v => v.1 = .agg #[.int .i64 ((rd a_ v15).Class), .int .i64 ((rd a_ v15).Year), .int .i64 ((rd a_ v15).Amount)]), (fun η29 v => v.1 = .slice A7 b_.length c8), (fun η29 v => v.1 = .int .i64 v15), (fun η29 v => v.1 = .pointer (some ((oA A7).add (Int.toNat v15 * 3)))), (fun η29 v => v.1 = .agg #[.int .i64 ((rd b_ v15).Class), .int .i64 ((rd b_ v15).Year), .int .i64 ((rd b_ v15).Amount)]), (fun η29 v => v.1 = .bool (!(((rd a_ v15).Class) == ((rd b_ v15).Class) && (((rd a_ v15).Year) == ((rd b_ v15).Year) && (((rd a_ v15).Amount) == ((rd b_ v15).Amount))))))] [] rfl (by kernel_rfl) (by kernel_rfl) H16 ⟨?_, ?_, ?_, ?_, ?_, ?_, ?_, ?_, ?_, trivial⟩ ?_
      · intro η29 wd41 Δ42 hE38 hR39 H40
        have H40 : Hp w0 ((Δ42 ++ Γ)) wd41 := H40
        refine sp_op [(0, .slice A1 a_.length c2)] (ac rfl an) ?_
        refine r_pure (.slice A1 a_.length c2) rfl ?_
        exact r_nil (n_lp ⟨_, rfl, undef, rfl, H40⟩)
      · intro η29 wd46 Δ47 hE43 hR44 H45
        have H45 : Hp w0 ((Δ47 ++ Γ)) wd46 := H45
        refine sp_op [(5, .int .i64 v15)] (ac rfl an) ?_
        refine r_pure (.int .i64 v15) rfl ?_
        exact r_nil (n_lp ⟨_, rfl, undef, rfl, H45⟩)
      · intro η29 wd51 Δ52 hE48 hR49 H50
        have H50 : Hp w0 ((Δ52 ++ Γ)) wd51 := H50
        refine sp_op [(17, .slice A1 a_.length c2), (18, .int .i64 v15)] (ac (hE48 0 (by decide)) (ac (hE48 1 (by decide)) an)) ?_
        have hA56 := (hv4 _ (H50).tl).adO hj32
        refine r_ix IX51 rfl rfl hA56 h030 h131 ?_
        exact r_nil (n_lp ⟨_, rfl, undef, rfl, H50⟩)
      · intro η29 wd60 Δ61 hE57 hR58 H59
        have H59 : Hp w0 ((Δ61 ++ Γ)) wd60 := H59
        refine sp_op [(19, .pointer (some ((oA A1).add (Int.toNat v15 * 3))))] (ac (hE57 2 (by decide)) an) ?_
        have hA62 := (hv4 _ (H59).tl).adO hj32
        refine r_ldA [.int .i64 ((rd a_ v15).Class), .int .i64 ((rd a_ v15).Year), .int .i64 ((rd a_ v15).Amount)] LD54 rfl rfl ((hv4 _ (H59).tl).csA hA62 hj32) ?_
        exact r_nil (n_lp ⟨_, rfl, undef, rfl, H59⟩)
      · intro η29 wd66 Δ67 hE63 hR64 H65
        have H65 : Hp w0 ((Δ67 ++ Γ)) wd66 := H65
        refine sp_op [(1, .slice A7 b_.length c8)] (ac rfl an) ?_
        refine r_pure (.slice A7 b_.length c8) rfl ?_
        exact r_nil (n_lp ⟨_, rfl, undef, rfl, H65⟩)
      · intro η29 wd71 Δ72 hE68 hR69 H70
        have H70 : Hp w0 ((Δ72 ++ Γ)) wd71 := H70
        refine sp_op [(5, .int .i64 v15)] (ac rfl an) ?_
        refine r_pure (.int .i64 v15) rfl ?_
        exact r_nil (n_lp ⟨_, rfl, undef, rfl, H70⟩)
      · intro η29 wd76 Δ77 hE73 hR74 H75
        have H75 : Hp w0 ((Δ77 ++ Γ)) wd76 := H75
        refine sp_op [(21, .slice A7 b_.length c8), (22, .int .i64 v15)] (ac (hE73 4 (by decide)) (ac (hE73 5 (by decide)) an)) ?_
        have hA81 := (hv10 _ (H75).tl).adO hj36
        refine r_ix IX51 rfl rfl hA81 h034 h135 ?_
        exact r_nil (n_lp ⟨_, rfl, undef, rfl, H75⟩)
      · intro η29 wd85 Δ86 hE82 hR83 H84
        have H84 : Hp w0 ((Δ86 ++ Γ)) wd85 := H84
        refine sp_op [(23, .pointer (some ((oA A7).add (Int.toNat v15 * 3))))] (ac (hE82 6 (by decide)) an) ?_
        have hA87 := (hv10 _ (H84).tl).adO hj36
        refine r_ldA [.int .i64 ((rd b_ v15).Class), .int .i64 ((rd b_ v15).Year), .int .i64 ((rd b_ v15).Amount)] LD54 rfl rfl ((hv10 _ (H84).tl).csA hA87 hj36) ?_
        exact r_nil (n_lp ⟨_, rfl, undef, rfl, H84⟩)
      · intro η29 wd91 Δ92 hE88 hR89 H90
        have H90 : Hp w0 ((Δ92 ++ Γ)) wd91 := H90
        refine sp_op [(20, .agg #[.int .i64 ((rd a_ v15).Class), .int .i64 ((rd a_ v15).Year), .int .i64 ((rd a_ v15).Amount)]), (24, .agg #[.int .i64 ((rd b_ v15).Class), .int .i64 ((rd b_ v15).Year), .int .i64 ((rd b_ v15).Amount)])] (ac (hE88 3 (by decide)) (ac (hE88 7 (by decide)) an)) ?_
        refine r_neS (EQ54 ((rd a_ v15).Class) ((rd b_ v15).Class) ((rd a_ v15).Year) ((rd b_ v15).Year) ((rd a_ v15).Amount) ((rd b_ v15).Amount)) (by decide) Try.eqGuardType54 rfl rfl ?_
        exact r_nil (n_lp ⟨_, rfl, undef, rfl, H90⟩)
      · intro η29 wd94 hV95 H93
        have H96 : Hp w0 (Γ) wd94 := H93
        refine n_frame [(0, .slice A1 a_.length c2), (1, .slice A7 b_.length c8), (5, .int .i64 v15), (25, .bool (!(((rd a_ v15).Class) == ((rd b_ v15).Class) && (((rd a_ v15).Year) == ((rd b_ v15).Year) && (((rd a_ v15).Amount) == ((rd b_ v15).Amount))))))] (ac rfl (ac rfl (ac rfl (ac (hV95 8 rfl) an)))) ?_
        refine n_sq ?_
        rcases ite_some hm with ⟨hb97, hm⟩ | ⟨hb97, hm⟩
        · refine st_condt hb97 rfl ?_
          refine st_seq ?_
          refine st_region ?_
          refine r_pure (.bool false) rfl ?_
          refine r_seq ?_
          have hq_ := Option.some.inj hm
          subst hq_
          have hq_ := Option.some.inj (show some (false : Bool) = some r0_ from hm17)
          subst hq_
          refine st_ret1 rfl rfl (Nat.le_of_ble_eq_true rfl) rfl ?_
          exact ⟨rfl, H96⟩
        · refine st_condf hb97 rfl ?_
          refine st_skip ?_
          refine n_bl ?_
          refine n_sq ?_
          refine st_region ?_
          refine r_pure (.int .i64 v15) rfl ?_
          refine r_pure (.int .i64 (w64 (v15 + 1))) rfl ?_
          refine r_pure (.int .i64 (w64 (v15 + 1))) rfl ?_
          refine r_nil ?_
          refine n_round (IH27 _ _ _ ⟨w64 (v15 + 1), rfl, upk (ac rfl (ac rfl (ac rfl an))), H96⟩ hm)
    · refine st_condf hb28 rfl ?_
      have hq_ := Option.some.inj hm
      refine st_exit rfl ?_
      subst hq_
      refine n_sq ?_
      refine st_seq ?_
      refine st_region ?_
      refine r_pure (.bool true) rfl ?_
      refine r_seq ?_
      have hq_ := Option.some.inj hm17
      subst hq_
      refine st_ret1 rfl rfl (Nat.le_of_ble_eq_true rfl) rfl ?_
      exact ⟨rfl, H16⟩

set_option maxHeartbeats 2000000 in
theorem scutagelaw10_wakes_ok {w0 w : World} {Γ : List (World → Prop)}  (r0_ : Bool) (H : Hp w0 (Γ) w) (hm : scutagelaw10_wakes = some r0_) : Calls Try.prog 34 #[] w (fun e w => e = .returned (.bool r0_) ∧ Hp w0 (Γ) w) := by
  unfold scutagelaw10_wakes at hm
  refine st_enter Try.func34 rfl Try.ntmps34 (Nat.le_of_ble_eq_true rfl) ?_
  refine st_seq ?_
  refine st_region ?_
  refine r_pure (.bool false) rfl ?_
  refine r_seq ?_
  refine st_seq ?_
  refine st_region ?_
  obtain ⟨y1, hy2, hm⟩ := bind_some hm
  refine r_callf Try.call55 (bucket_New_ok  y1 H hy2) ?_
  rintro e4 wd3 ⟨b7, A8, n9, c10, rfl, H6⟩
  obtain rfl := (H6.g1).leneq
  refine ⟨_, rfl, ?_⟩
  refine r_pure (.pointer (some ⟨b7, 0, none⟩)) rfl ?_
  refine r_seq ?_
  refine st_cut (fun ρ w => ∃ q11 : Bool, (∃ base, ρ = updl base [(0, .bool q11)]) ∧ Hp w0 (Γ) w ∧ scutagelaw10_wakes.j1 q11 = some r0_) ?_ ?_
  · refine st_region ?_
    refine r_pure (.pointer (some ⟨b7, 0, none⟩)) rfl ?_
    refine r_nen Try.underlying47 rfl rfl ?_
    refine r_pure (.bool true) rfl ?_
    refine r_pure (.pointer (some ⟨b7, 0, none⟩)) rfl ?_ (wn_t rfl rfl (by decide) rfl rfl)
    obtain ⟨y13, hy14, hm⟩ := bind_some hm
    refine r_callf Try.call30 (bucket_Register_Get_ok b7 (⟨y1.f_l⟩ : bucket_Register) A8 y1.f_l.length c10 rfl (((H6).g1).cap) (fun _ H => (H.g1.rd)) (fun _ H => (H.g0)) 1 5 y13 H6 hy14) ?_ (wn_t rfl rfl (by decide) rfl rfl)
    rintro e16 wd15 ⟨rfl, H18⟩
    refine ⟨_, rfl, ?_⟩
    refine r_pure (.bool (y13 == 0)) rfl ?_ (wn_t rfl rfl (by decide) rfl rfl)
    refine r_pick_t (.bool (y13 == 0)) rfl rfl rfl ?_
    refine r_pure (.bool (y13 == 0)) rfl ?_
    rcases ite_some hm with ⟨hb19, hm⟩ | ⟨hb19, hm⟩
    · refine r_pure (.pointer (some ⟨b7, 0, none⟩)) rfl ?_ (wn_t rfl rfl (by decide) rfl hb19)
      obtain ⟨⟨y20, y21⟩, hy22, hm⟩ := bind_some hm
      refine r_callf Try.call33 (bucket_Register_Move_ok b7 (⟨y1.f_l⟩ : bucket_Register) A8 c10 1 5 100 y20 y21 H18.u1.u1 hy22) ?_ (wn_t rfl rfl (by decide) rfl hb19)
      rintro e24 wd23 ⟨A27, n28, c29, rfl, H26⟩
      obtain rfl := (H26.g1).leneq
      refine ⟨_, rfl, ?_⟩
      refine r_pure (.bool (y20 == 0)) rfl ?_ (wn_t rfl rfl (by decide) rfl hb19)
      refine r_pick_t (.bool (y20 == 0)) hb19 rfl rfl ?_
      refine r_pure (.bool (y20 == 0)) rfl ?_
      rcases ite_some hm with ⟨hb30, hm⟩ | ⟨hb30, hm⟩
      · refine r_pure (.pointer (some ⟨b7, 0, none⟩)) rfl ?_ (wn_t rfl rfl (by decide) rfl hb30)
        obtain ⟨y31, hy32, hm⟩ := bind_some hm
        refine r_callf Try.call29 (bucket_Register_Total_ok b7 (⟨y21.f_l⟩ : bucket_Register) A27 y21.f_l.length c29 rfl (((H26).g1).cap) (fun _ H => (H.g1.rd)) (fun _ H => (H.g0)) y31 H26 hy32) ?_ (wn_t rfl rfl (by decide) rfl hb30)
        rintro e34 wd33 ⟨rfl, H36⟩
        refine ⟨_, rfl, ?_⟩
        refine r_pure (.bool (y31 == 100)) rfl ?_ (wn_t rfl rfl (by decide) rfl hb30)
        refine r_pick_t (.bool (y31 == 100)) hb30 rfl rfl ?_
        refine r_pure (.bool (y31 == 100)) rfl ?_
        rcases ite_some hm with ⟨hb37, hm⟩ | ⟨hb37, hm⟩
        · refine r_pure (.pointer (some ⟨b7, 0, none⟩)) rfl ?_ (wn_t rfl rfl (by decide) rfl hb37)
          obtain ⟨y38, hy39, hm⟩ := bind_some hm
          refine r_callf Try.call28 (bucket_Register_Rows_ok b7 (⟨y21.f_l⟩ : bucket_Register) A27 y21.f_l.length c29 rfl (((H36).g1).cap) (fun _ H => (H.g1.rd)) (fun _ H => (H.g0)) y38 H36 hy39) ?_ (wn_t rfl rfl (by decide) rfl hb37)
          rintro e41 wd40 ⟨A44, n45, c46, rfl, H43⟩
          obtain rfl := (H43.g0).leneq
          refine ⟨_, rfl, ?_⟩
          refine r_len Try.underlying51 rfl ?_ (wn_t rfl rfl (by decide) rfl hb37)
          refine r_pure (.bool ((y38.length : Int) == 1)) rfl ?_ (wn_t rfl rfl (by decide) rfl hb37)
          refine r_pick_t (.bool ((y38.length : Int) == 1)) hb37 rfl rfl ?_
          refine r_pure (.bool ((y38.length : Int) == 1)) rfl ?_
          refine r_nil ?_
          refine n_cut ⟨(y38.length : Int) == 1, upk (ac rfl an), H43.d.d.d, hm⟩
        · refine r_not (wn_f rfl rfl (by decide) rfl hb37) ?_
          refine r_not (wn_f rfl rfl (by decide) rfl hb37) ?_
          refine r_not (wn_f rfl rfl (by decide) rfl hb37) ?_
          refine r_not (wn_f rfl rfl (by decide) rfl hb37) ?_
          refine r_pick_f (.bool false) hb37 rfl rfl ?_
          refine r_pure (.bool false) rfl ?_
          refine r_nil ?_
          refine n_cut ⟨false, upk (ac rfl an), H36.d.d, hm⟩
      · refine r_not (wn_f rfl rfl (by decide) rfl hb30) ?_
        refine r_not (wn_f rfl rfl (by decide) rfl hb30) ?_
        refine r_not (wn_f rfl rfl (by decide) rfl hb30) ?_
        refine r_pick_f (.bool false) hb30 rfl rfl ?_
        refine r_pure (.bool false) rfl ?_
        refine r_not (wn_f rfl rfl (by decide) rfl rfl) ?_
        refine r_not (wn_f rfl rfl (by decide) rfl rfl) ?_
        refine r_not (wn_f rfl rfl (by decide) rfl rfl) ?_
        refine r_not (wn_f rfl rfl (by decide) rfl rfl) ?_
        refine r_pick_f (.bool false) rfl rfl rfl ?_
        refine r_pure (.bool false) rfl ?_
        refine r_nil ?_
        refine n_cut ⟨false, upk (ac rfl an), H26.d.d, hm⟩
    · refine r_not (wn_f rfl rfl (by decide) rfl hb19) ?_
      refine r_not (wn_f rfl rfl (by decide) rfl hb19) ?_
      refine r_not (wn_f rfl rfl (by decide) rfl hb19) ?_
      refine r_pick_f (.bool false) hb19 rfl rfl ?_
      refine r_pure (.bool false) rfl ?_
      refine r_not (wn_f rfl rfl (by decide) rfl rfl) ?_
      refine r_not (wn_f rfl rfl (by decide) rfl rfl) ?_
      refine r_not (wn_f rfl rfl (by decide) rfl rfl) ?_
      refine r_pick_f (.bool false) rfl rfl rfl ?_
      refine r_pure (.bool false) rfl ?_
      refine r_not (wn_f rfl rfl (by decide) rfl rfl) ?_
      refine r_not (wn_f rfl rfl (by decide) rfl rfl) ?_
      refine r_not (wn_f rfl rfl (by decide) rfl rfl) ?_
      refine r_not (wn_f rfl rfl (by decide) rfl rfl) ?_
      refine r_pick_f (.bool false) rfl rfl rfl ?_
      refine r_pure (.bool false) rfl ?_
      refine r_nil ?_
      refine n_cut ⟨false, upk (ac rfl an), H18.d.d, hm⟩
  · rintro ρ w ⟨q11, ⟨base, rfl⟩, H12, hm⟩
    unfold scutagelaw10_wakes.j1 at hm
    have hq_ := Option.some.inj hm
    subst hq_
    refine st_ret1 rfl rfl (Nat.le_of_ble_eq_true rfl) rfl ?_
    exact ⟨rfl, H12⟩


end Go.Proofs.Ytcmhekibcbpajaa
