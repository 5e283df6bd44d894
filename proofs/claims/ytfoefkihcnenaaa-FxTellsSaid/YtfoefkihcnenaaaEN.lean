/- The plain law of lists that are put together. No program in it. -/
import Derived.Test.YtfoefkihcnenaaaEL
set_option linter.unusedVariables false
set_option linter.unusedSimpArgs false
namespace Go.Proofs.Ytfoefkihcnenaaa
open Go

def md (x : api_Item) : api_Item := ⟨x.Kind, Int.tmod x.Amount 1000000⟩
theorem rd_mid (A B : List api_Item) (x : api_Item) : rd (A ++ x :: B) (A.length : Int) = x := by
  simp [rd]
theorem set_mid (A B : List api_Item) (x z : api_Item) : (A ++ x :: B).set (Int.toNat (A.length : Int)) z = A ++ z :: B := by
  simp
theorem md_loop1 : ∀ (ys dn : List api_Item), scutagelaw25_FxTells.l1 ys ((dn.length : Int), dn ++ ys) = some (dn ++ ys.map md)
  | [], dn => by simp [scutagelaw25_FxTells.l1]
  | y :: ys, dn => by
    rw [scutagelaw25_FxTells.l1, gd_true (by simp; omega), rd_mid, set_mid]
    have := md_loop1 ys (dn ++ [md y])
    simp only [List.length_append, List.length_singleton, List.append_assoc, List.singleton_append, Int.natCast_add, Int.natCast_one] at this
    rw [show (⟨y.Kind, Int.tmod y.Amount 1000000⟩ : api_Item) = md y from rfl, this]; rfl
theorem md_loop2 : ∀ (ys dn : List api_Item), scutagelaw25_FxTells.l2 ys ((dn.length : Int), dn ++ ys) = some (dn ++ ys.map md)
  | [], dn => by simp [scutagelaw25_FxTells.l2]
  | y :: ys, dn => by
    rw [scutagelaw25_FxTells.l2, gd_true (by simp; omega), rd_mid, set_mid]
    have := md_loop2 ys (dn ++ [md y])
    simp only [List.length_append, List.length_singleton, List.append_assoc, List.singleton_append, Int.natCast_add, Int.natCast_one] at this
    rw [show (⟨y.Kind, Int.tmod y.Amount 1000000⟩ : api_Item) = md y from rfl, this]; rfl
theorem md_bound (x : api_Item) : -1000000 < (md x).Amount ∧ (md x).Amount < 1000000 := by
  have h1 := Int.tmod_lt_of_pos x.Amount (b := 1000000) (by omega)
  have h2 := Int.tmod_lt_of_pos (-x.Amount) (b := 1000000) (by omega)
  rw [Int.neg_tmod] at h2
  simp only [md]; omega

/-! ### where a kind stands -/
theorem index_loop (k : api_Item) : ∀ (ys : List api_Item) (i : Int),
    (∃ A x B, ys = A ++ x :: B ∧ x.Kind = k.Kind ∧ (∀ z ∈ A, z.Kind ≠ k.Kind) ∧ slices_IndexFunc_api_Item.l1 (fun x => fx_Add_c1 x k) ys i = some (.inl (i + (A.length : Int)))) ∨
    ((∀ z ∈ ys, z.Kind ≠ k.Kind) ∧ slices_IndexFunc_api_Item.l1 (fun x => fx_Add_c1 x k) ys i = some (.inr ()))
  | [], i => .inr ⟨by simp, rfl⟩
  | y :: ys, i => by
    rw [slices_IndexFunc_api_Item.l1, fx_Add_c1, Option.bind_some]
    by_cases h : y.Kind = k.Kind
    · exact .inl ⟨[], y, ys, rfl, h, by simp, by rw [if_pos (by simpa using h)]; simp⟩
    · rw [if_neg (by simpa using h)]
      rcases index_loop k ys (i + 1) with ⟨A, x, B, rfl, hx, hA, hr⟩ | ⟨hA, hr⟩
      · refine .inl ⟨y :: A, x, B, rfl, hx, fun z hz => ?_, ?_⟩
        · rcases List.mem_cons.1 hz with rfl | hz
          · exact h
          · exact hA z hz
        · rw [hr]; simp only [List.length_cons]; congr 2; omega
      · refine .inr ⟨fun z hz => ?_, hr⟩
        rcases List.mem_cons.1 hz with rfl | hz
        · exact h
        · exact hA z hz
theorem index_ok (k : api_Item) (L : List api_Item) :
    (∃ A x B, L = A ++ x :: B ∧ x.Kind = k.Kind ∧ slices_IndexFunc_api_Item L (fun x => fx_Add_c1 x k) = some (A.length : Int)) ∨
    ((∀ z ∈ L, z.Kind ≠ k.Kind) ∧ slices_IndexFunc_api_Item L (fun x => fx_Add_c1 x k) = some (-1)) := by
  unfold slices_IndexFunc_api_Item
  rcases index_loop k L 0 with ⟨A, x, B, h, hx, _, hr⟩ | ⟨hA, hr⟩
  · exact .inl ⟨A, x, B, h, hx, by rw [hr, Option.bind_some, Int.zero_add]⟩
  · exact .inr ⟨hA, by rw [hr, Option.bind_some]⟩
theorem place_loop (R : List api_Item) (k : api_Item) (hR : R.length ≤ 1000) : ∀ (fuel : Nat) (A B : List api_Item), R = A ++ B → (∀ z ∈ A, z.Kind < k.Kind) → B.length < fuel →
    ∃ A1 B1, R = A1 ++ B1 ∧ (∀ z ∈ A1, z.Kind < k.Kind) ∧ (∀ x B', B1 = x :: B' → k.Kind ≤ x.Kind) ∧ scutageref19_AddItems.l2 R k fuel (A.length : Int) = some (A1.length : Int)
  | 0, A, B, _, _, h => by omega
  | fuel + 1, A, [], h, hA, hf => by
    refine ⟨A, [], h, hA, by simp, ?_⟩
    rw [scutageref19_AddItems.l2, if_neg (by simp [h])]
    simp [scutageref19_AddItems.j2]
  | fuel + 1, A, x :: B, h, hA, hf => by
    have hl : A.length + (B.length + 1) = R.length := by rw [h]; simp
    by_cases hx : x.Kind < k.Kind
    · obtain ⟨A1, B1, h1, h2, h3, h4⟩ := place_loop R k hR fuel (A ++ [x]) B (by simp [h]) (fun z hz => by
        rcases List.mem_append.1 hz with hz | hz
        · exact hA z hz
        · simp at hz; subst hz; exact hx) (by simp at hf; omega)
      refine ⟨A1, B1, h1, h2, h3, ?_⟩
      rw [← h4, scutageref19_AddItems.l2, if_pos (by simp; omega), gd_true (by omega)]
      have e : rd R (A.length : Int) = x := by rw [h, rd_mid]
      rw [e, scutageref19_AddItems.j2, if_pos (by simpa using hx), w64_id (by omega) (by omega)]
      simp
    · refine ⟨A, x :: B, h, hA, fun x' B' e => by cases e; omega, ?_⟩
      have e : rd R (A.length : Int) = x := by rw [h, rd_mid]
      rw [scutageref19_AddItems.l2, if_pos (by simp; omega), gd_true (by omega), e, scutageref19_AddItems.j2, if_neg (by simpa using hx)]

/-! ### the two ways of putting together -/
def Srt (R : List api_Item) : Prop := R.Pairwise (fun a b => a.Kind < b.Kind)
def Dst (L : List api_Item) : Prop := L.Pairwise (fun a b => a.Kind ≠ b.Kind)
theorem Srt.dst {R : List api_Item} (h : Srt R) : Dst R := List.Pairwise.imp (fun h => by omega) h
theorem Dst.perm {L R : List api_Item} (h : Dst R) (p : L.Perm R) : Dst L := (List.Perm.pairwise_iff (R := fun a b : api_Item => a.Kind ≠ b.Kind) (fun h e => h e.symm) p).2 h
theorem Dst.eq {L : List api_Item} (h : Dst L) {x z : api_Item} (hx : x ∈ L) (hz : z ∈ L) (hk : x.Kind = z.Kind) : x = z := by
  induction h with
  | nil => cases hx
  | cons h1 _ ih =>
    rcases List.mem_cons.1 hx with h2 | h2 <;> rcases List.mem_cons.1 hz with h3 | h3
    · rw [h2, h3]
    · subst h2; exact absurd hk (h1 z h3)
    · subst h3; exact absurd hk.symm (h1 x h2)
    · exact ih h2 h3
def Bnd (n : Nat) (L : List api_Item) : Prop := ∀ x ∈ L, (-1000000 * (n : Int) ≤ x.Amount ∧ x.Amount ≤ 1000000 * (n : Int)) ∧ 0 ≤ x.Kind ∧ x.Kind < 9
theorem Srt.len : ∀ {R : List api_Item} {lo : Int}, Srt R → (∀ x ∈ R, lo ≤ x.Kind ∧ x.Kind < 9) → lo ≤ 9 → (R.length : Int) ≤ 9 - lo
  | [], lo, _, _, h => by simp; omega
  | x :: R, lo, h, hb, _ => by
    have hx := hb x (by simp)
    have := Srt.len (R := R) (lo := x.Kind + 1) (List.pairwise_cons.1 h).2 (fun z hz => ⟨by have := (List.pairwise_cons.1 h).1 z hz; omega, (hb z (by simp [hz])).2⟩) (by omega)
    simp; omega
/-- one step of either: they stay alike -/
theorem add_step (y : api_Item) (n : Nat) (hn : n ≤ 100) (hy : Bnd 1 [y]) (L R : List api_Item) (hp : L.Perm R) (hs : Srt R) (hb : Bnd n R) (ys ys' : List api_Item) (i i' : Int) :
    ∃ L' R', L'.Perm R' ∧ Srt R' ∧ Bnd (n + 1) R' ∧ fx_Add.l1 (y :: ys) (i, L) = fx_Add.l1 ys (i + 1, L') ∧ scutageref19_AddItems.l1 (y :: ys') (i', R) = scutageref19_AddItems.l1 ys' (i' + 1, R') := by
  have hlen : (R.length : Int) ≤ 9 - 0 := hs.len (fun x hx => (hb x hx).2) (by omega)
  have hlen2 : L.length = R.length := hp.length_eq
  have hyb := hy y (by simp)
  have hbL : ∀ x ∈ L, (-1000000 * (n : Int) ≤ x.Amount ∧ x.Amount ≤ 1000000 * (n : Int)) ∧ 0 ≤ x.Kind ∧ x.Kind < 9 := fun x hx => hb x (hp.mem_iff.1 hx)
  have hmono : ∀ x : api_Item, ((-1000000 * (n : Int) ≤ x.Amount ∧ x.Amount ≤ 1000000 * (n : Int)) ∧ 0 ≤ x.Kind ∧ x.Kind < 9) → ((-1000000 * ((n + 1 : Nat) : Int) ≤ x.Amount ∧ x.Amount ≤ 1000000 * ((n + 1 : Nat) : Int)) ∧ 0 ≤ x.Kind ∧ x.Kind < (9 : Int)) := fun (x : api_Item) h => by omega
  obtain ⟨A, B, hAB, hA, hB, hl2⟩ := place_loop R y (by omega) FUEL [] R rfl (by simp) (by simp only [FUEL]; omega)
  have hl2' : scutageref19_AddItems.l2 R y FUEL 0 = some (A.length : Int) := hl2
  have hal : A.length + B.length = R.length := by rw [hAB]; simp
  rcases index_ok y L with ⟨C, x, D, hL, hx, hr⟩ | ⟨hno, hr⟩
  · -- found
    have hxR : x ∈ R := hp.mem_iff.1 (by rw [hL]; simp)
    have hxb := hb x hxR
    have hxB : x ∈ B := by
      rw [hAB] at hxR
      rcases List.mem_append.1 hxR with h | h
      · have := hA x h; omega
      · exact h
    obtain ⟨z, B', rfl⟩ : ∃ z B', B = z :: B' := by
      cases B with
      | nil => cases hxB
      | cons z B' => exact ⟨z, B', rfl⟩
    have hzk : z.Kind = y.Kind := by
      have h1 := hB z B' rfl
      rw [hAB] at hs
      have h2 := (List.pairwise_append.1 hs).2.1
      rcases List.mem_cons.1 hxB with rfl | h
      · exact hx
      · have := (List.pairwise_cons.1 h2).1 x h; omega
    have hzx : z = x := hs.dst.eq (by rw [hAB]; simp) hxR (by omega)
    subst hzx
    let z' : api_Item := ⟨z.Kind, z.Amount + y.Amount⟩
    refine ⟨C ++ z' :: D, A ++ z' :: B', ?_, ?_, ?_, ?_, ?_⟩
    · have h1 : (z :: (C ++ D)).Perm (z :: (A ++ B')) := by
        rw [hL, hAB] at hp
        exact (List.perm_middle.symm.trans hp).trans List.perm_middle
      exact (List.perm_middle.trans ((List.perm_cons z').2 ((List.perm_cons z).1 h1))).trans List.perm_middle.symm
    · rw [hAB] at hs
      obtain ⟨h1, h2, h3⟩ := List.pairwise_append.1 hs
      refine List.pairwise_append.2 ⟨h1, ?_, fun a ha b hb' => ?_⟩
      · exact List.pairwise_cons.2 ⟨fun b hb' => (List.pairwise_cons.1 h2).1 b hb', (List.pairwise_cons.1 h2).2⟩
      · rcases List.mem_cons.1 hb' with rfl | hb'
        · exact h3 a ha z (by simp)
        · exact h3 a ha b (by simp [hb'])
    · intro q hq
      rcases List.mem_append.1 hq with h | h
      · exact hmono q (hb q (by rw [hAB]; simp [h]))
      · rcases List.mem_cons.1 h with rfl | h
        · simp only [z']; omega
        · exact hmono q (hb q (by rw [hAB]; simp [h]))
    · rw [fx_Add.l1, hr, Option.bind_some, if_neg (by simp), fx_Add.j1, gd_true (by rw [hL]; simp; omega), hL, rd_mid, set_mid, w64_id (by omega) (by omega)]
    · rw [scutageref19_AddItems.l1, hl2', Option.bind_some, if_pos (by rw [hAB]; simp; omega), gd_true (by rw [hAB]; simp; omega), hAB, rd_mid, scutageref19_AddItems.j3, if_pos (by simpa using hzk), gd_true (by simp; omega), rd_mid, set_mid, w64_id (by omega) (by omega)]
      rfl
  · -- not found
    have hnoR : ∀ z ∈ R, z.Kind ≠ y.Kind := fun z hz => hno z (hp.mem_iff.2 hz)
    refine ⟨L ++ [y], A ++ y :: B, ?_, ?_, ?_, ?_, ?_⟩
    · have h1 : (L ++ [y]).Perm (y :: L) := List.perm_append_singleton y L
      rw [hAB] at hp
      exact (h1.trans ((List.perm_cons y).2 hp)).trans List.perm_middle.symm
    · rw [hAB] at hs
      obtain ⟨h1, h2, h3⟩ := List.pairwise_append.1 hs
      have hBk : ∀ b ∈ B, y.Kind < b.Kind := by
        intro b hb'
        cases B with
        | nil => cases hb'
        | cons x B' =>
          have hx := hB x B' rfl
          have hne := hnoR x (by rw [hAB]; simp)
          rcases List.mem_cons.1 hb' with rfl | hb'
          · omega
          · have := (List.pairwise_cons.1 h2).1 b hb'; omega
      refine List.pairwise_append.2 ⟨h1, List.pairwise_cons.2 ⟨hBk, h2⟩, fun a ha b hb' => ?_⟩
      rcases List.mem_cons.1 hb' with rfl | hb'
      · exact hA a ha
      · exact h3 a ha b hb'
    · intro q hq
      rcases List.mem_append.1 hq with h | h
      · exact hmono q (hb q (by rw [hAB]; simp [h]))
      · rcases List.mem_cons.1 h with rfl | h
        · omega
        · exact hmono q (hb q (by rw [hAB]; simp [h]))
    · rw [fx_Add.l1, hr, Option.bind_some, if_pos (by simp), gd_true (fit_small (by simp; omega)), fx_Add.j1, gd_true (by simp; omega)]
      have e1 : rd (L ++ [(⟨y.Kind, 0⟩ : api_Item)]) (L.length : Int) = ⟨y.Kind, 0⟩ := rd_mid L [] _
      have e2 := set_mid L [] (⟨y.Kind, 0⟩ : api_Item) (⟨y.Kind, w64 (0 + y.Amount)⟩ : api_Item)
      rw [e1, e2, w64_id (by omega) (by omega), Int.zero_add]
    · have hb1 : ∀ q : Bool, (if decide ((A.length : Int) < (R.length : Int)) = true then gd ((0 : Int) ≤ (A.length : Int) ∧ (A.length : Int) < (R.length : Int)) (scutageref19_AddItems.j3 (A.length : Int) R (scutageref19_AddItems.l1 ys') i' y ((rd R (A.length : Int)).Kind == y.Kind)) else scutageref19_AddItems.j3 (A.length : Int) R (scutageref19_AddItems.l1 ys') i' y false) = scutageref19_AddItems.j3 (A.length : Int) R (scutageref19_AddItems.l1 ys') i' y false := by
        intro _
        by_cases hlt : (A.length : Int) < (R.length : Int)
        · rw [if_pos (by simpa using hlt), gd_true (by omega)]
          congr 1
          cases B with
          | nil => simp at hal; omega
          | cons x B' =>
            have e : rd R (A.length : Int) = x := by rw [hAB, rd_mid]
            rw [e]
            have := hnoR x (by rw [hAB]; simp)
            simpa using this
        · rw [if_neg (by simpa using hlt)]
      rw [scutageref19_AddItems.l1, hl2', Option.bind_some, hb1 true, scutageref19_AddItems.j3, if_neg (by simp), gd_true (by omega), gd_true (by omega)]
      have s1 : sb R (0 : Int) (A.length : Int) = A := by rw [hAB]; simp [sb]
      have s2 : sb R (A.length : Int) (R.length : Int) = B := by
        have : (R.length : Int).toNat = R.length := by omega
        unfold sb
        rw [this, List.take_length]
        simp only [Int.toNat_natCast]
        rw [hAB, List.drop_left]
      rw [s1, s2, gd_true (fit_small (by simp; omega)), gd_true (fit_small (by simp; omega))]
      rfl
theorem add_loop : ∀ (ys : List api_Item) (n : Nat) (L R : List api_Item) (i i' : Int), n + ys.length ≤ 100 → Bnd 1 ys → L.Perm R → Srt R → Bnd n R →
    ∃ L' R', L'.Perm R' ∧ Srt R' ∧ Bnd (n + ys.length) R' ∧ fx_Add.l1 ys (i, L) = some L' ∧ scutageref19_AddItems.l1 ys (i', R) = some R'
  | [], n, L, R, i, i', _, _, hp, hs, hb => ⟨L, R, hp, hs, hb, rfl, rfl⟩
  | y :: ys, n, L, R, i, i', hn, hy, hp, hs, hb => by
    simp only [List.length_cons] at hn
    obtain ⟨L1, R1, h1, h2, h3, h4, h5⟩ := add_step y n (by omega) (fun x hx => hy x (by simp at hx; simp [hx])) L R hp hs hb ys ys i i'
    obtain ⟨L2, R2, g1, g2, g3, g4, g5⟩ := add_loop ys (n + 1) L1 R1 (i + 1) (i' + 1) (by omega) (fun x hx => hy x (by simp [hx])) h1 h2 h3
    refine ⟨L2, R2, g1, g2, ?_, h4.trans g4, h5.trans g5⟩
    rw [List.length_cons, show n + (ys.length + 1) = n + 1 + ys.length by omega]; exact g3
end Go.Proofs.Ytfoefkihcnenaaa
