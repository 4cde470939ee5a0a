/- The walk of impl's plainMove. Conditions: lengths below 8388608; bytealg.MaxLen holds some int. -/
import Derived.Test.YtijeoadfgjpefaaGreatDoorWImplB
import Derived.Test.YtijeoadfgjpefaaGreatDoorWPlainB
namespace Go.Proofs.YtijeoadfgjpefaaGreatDoor
open Go.RowKit Go.Proofs.YtijeoadfgjpefaaGreatDoorW.PrintWords
set_option linter.unusedSimpArgs false
set_option linter.unusedVariables false

/-- What impl's plainMove computes. -/
def moveFM (o : OpR) : List Item → Option (List Item)
  | [] => some []
  | x :: r => if 4 ≤ (moved o x).path.count 47 then none else (moveFM o r).map ((moved o x) :: ·)
def moveM (l : List Item) (o : OpR) : List Item × Int :=
  if folderC l o.path = 2 then (l, 2) else if o.path.isEmpty = true then (l, 6) else if under o.dest o.path = true then (l, 6)
  else if folderC l o.dest ≠ 2 then (l, 3)
  else if folderC l (split o.dest).1 ≠ 0 then (l, folderC l (split o.dest).1)
  else match moveFM o l with
    | none => (l, 5)
    | some out => (out, 0)
theorem countC (s : Str) (w : World) : Calls Tryz.prog 141 #[sv s, .string { data := #[47] }] w fun e w' => e = .returned (.int .i64 (s.count 47 : Nat)) ∧ w' = w :=
  Go.Proofs.Tryz.strings_Count_one ⟨s.toArray⟩ 47 w
set_option maxHeartbeats 4000000 in
theorem implMove (m : Int) (base : Nat) (v : Value) (l : List Item) (o : OpR) (w : World) (HO0 : Aside0 (Own kItem 83 w base v l)) (hbase : base ≤ w.heap.size) (hl : smallI l) (ho : smallO o) (HM : Aside0 (MX m w)) :
    Calls Tryz.prog 77 #[v, opv o] w fun e w' => ∃ v', e = .returned (.tuple #[v', .int .i64 (moveM l o).2]) ∧ Own kItem 83 w' base v' (moveM l o).1 ∧ Below base w w' := by
  obtain ⟨A, c, rfl, hc, hr⟩ := RdV.of_own HO0.out
  have HR := Aside0.mk hr
  clear hr
  have hlen := hl.1
  obtain ⟨ho1, ho2, ho3⟩ := ho
  have HB0 := Aside0.mk ((Below.refl w.heap.size w).alloc (Nat.le_refl _) (.cells #[.int .i64 o.kind, sv o.path, sv o.dest, sv o.data] 31))
  have BK0 := Aside0.mk (box1 w (.cells #[.int .i64 o.kind, sv o.path, sv o.dest, sv o.data] 31))
  by_cases h1 : folderC l o.path = 2
  · have HF := Lib.hid (show moveM l o = (l, 2) by simp only [moveM, if_pos h1])
    have h1b : (folderC l o.path == 2) = true := by simpa using h1
    clear h1
    go_enter Tryz.func77, Tryz.ntmps77
    go_wp2_with (go_at_call 135; refine (implThere A c l o.path _ ⟨Kd.C_below HR.out HB0.out⟩ hl).mono ?_; rintro e w1 ⟨rfl, hb⟩; have BK1 := Aside0.mk (blk_below BK0.out hb); obtain ⟨⟨a10, a11, a12, a13⟩, b10, b11, b12, b13⟩ := blk4 BK1.out; have HB1 := Aside0.mk (below_box hb); clear hb)
    go_ret2
    exact ⟨_, by rw [HF.out]; rfl, by rw [HF.out]; exact Kd.R_below HO0.out HB1.out, HB1.out.mono hbase⟩
  have h1b : (folderC l o.path == 2) = false := by simpa using h1
  rcases Bool.eq_false_or_eq_true o.path.isEmpty with he | he
  · have HF := Lib.hid (show moveM l o = (l, 6) by simp only [moveM, if_neg h1, if_pos he])
    clear h1
    go_enter Tryz.func77, Tryz.ntmps77
    go_wp2_with (go_at_call 135; refine (implThere A c l o.path _ ⟨Kd.C_below HR.out HB0.out⟩ hl).mono ?_; rintro e w1 ⟨rfl, hb⟩; have BK1 := Aside0.mk (blk_below BK0.out hb); obtain ⟨⟨a10, a11, a12, a13⟩, b10, b11, b12, b13⟩ := blk4 BK1.out; have HB1 := Aside0.mk (below_box hb); clear hb)
    go_ret2
    exact ⟨_, by rw [HF.out]; rfl, by rw [HF.out]; exact Kd.R_below HO0.out HB1.out, HB1.out.mono hbase⟩
  rcases Bool.eq_false_or_eq_true (under o.dest o.path) with h2 | h2
  · have HF := Lib.hid (show moveM l o = (l, 6) by simp [moveM, h1, he, h2])
    clear h1
    go_enter Tryz.func77, Tryz.ntmps77
    go_wp2_with (first
      | (go_at_call 135; refine (implThere A c l o.path _ ⟨Kd.C_below HR.out HB0.out⟩ hl).mono ?_; rintro e w1 ⟨rfl, hb⟩; have BK1 := Aside0.mk (blk_below BK0.out hb); obtain ⟨⟨a10, a11, a12, a13⟩, b10, b11, b12, b13⟩ := blk4 BK1.out; have HB1 := Aside0.mk (below_box hb); clear hb)
      | (go_at_call 140; refine (implUnder m o.dest o.path _ (by omega) (by omega) ⟨HM.out.below (Nat.le_refl _) HB1.out⟩).mono ?_; rintro e w2 ⟨rfl, hb⟩; have BK2 := Aside0.mk (blk_below BK1.out hb); obtain ⟨⟨a20, a21, a22, a23⟩, b20, b21, b22, b23⟩ := blk4 BK2.out; have HB2 := Aside0.mk (below_then HB1.out HB1.out.size hb); clear hb))
    go_ret2
    exact ⟨_, by rw [HF.out]; rfl, by rw [HF.out]; exact Kd.R_below HO0.out HB2.out, HB2.out.mono hbase⟩
  by_cases h3 : folderC l o.dest ≠ 2
  · have HF := Lib.hid (show moveM l o = (l, 3) by simp [moveM, h1, he, h2, h3])
    have h3b : (folderC l o.dest == 2) = false := by simpa using h3
    clear h1 h3
    go_enter Tryz.func77, Tryz.ntmps77
    go_wp2_with (first
      | (go_at_call 140; refine (implUnder m o.dest o.path _ (by omega) (by omega) ⟨HM.out.below (Nat.le_refl _) HB1.out⟩).mono ?_; rintro e w2 ⟨rfl, hb⟩; have BK2 := Aside0.mk (blk_below BK1.out hb); obtain ⟨⟨a20, a21, a22, a23⟩, b20, b21, b22, b23⟩ := blk4 BK2.out; have HB2 := Aside0.mk (below_then HB1.out HB1.out.size hb); clear hb)
      | (go_at_call 135; refine (implThere A c l o.dest _ ⟨Kd.C_below HR.out HB2.out⟩ hl).mono ?_; rintro e w3 ⟨rfl, hb⟩; have BK3 := Aside0.mk (blk_below BK2.out hb); obtain ⟨⟨a30, a31, a32, a33⟩, b30, b31, b32, b33⟩ := blk4 BK3.out; have HB3 := Aside0.mk (below_then HB2.out HB2.out.size hb); clear hb)
      | (go_at_call 135; refine (implThere A c l o.path _ ⟨Kd.C_below HR.out HB0.out⟩ hl).mono ?_; rintro e w1 ⟨rfl, hb⟩; have BK1 := Aside0.mk (blk_below BK0.out hb); obtain ⟨⟨a10, a11, a12, a13⟩, b10, b11, b12, b13⟩ := blk4 BK1.out; have HB1 := Aside0.mk (below_box hb); clear hb))
    go_ret2
    exact ⟨_, by rw [HF.out]; rfl, by rw [HF.out]; exact Kd.R_below HO0.out HB3.out, HB3.out.mono hbase⟩
  have h3 : folderC l o.dest = 2 := by simpa using h3
  have h3b : (folderC l o.dest == 2) = true := by simpa using h3
  by_cases h5 : folderC l (split o.dest).1 = 0
  · have HF := Lib.hid (show moveM l o = match moveFM o l with | none => (l, 5) | some out => (out, 0) by simp [moveM, h1, he, h2, h3, h5])
    clear h1 h3
    go_enter Tryz.func77, Tryz.ntmps77
    go_wp2_with (first
      | (go_at_call 140; refine (implUnder m o.dest o.path _ (by omega) (by omega) ⟨HM.out.below (Nat.le_refl _) HB1.out⟩).mono ?_; rintro e w2 ⟨rfl, hb⟩; have BK2 := Aside0.mk (blk_below BK1.out hb); obtain ⟨⟨a20, a21, a22, a23⟩, b20, b21, b22, b23⟩ := blk4 BK2.out; have HB2 := Aside0.mk (below_then HB1.out HB1.out.size hb); clear hb)
      | (go_at_call 135; refine (implThere A c l o.dest _ ⟨Kd.C_below HR.out HB2.out⟩ hl).mono ?_; rintro e w3 ⟨rfl, hb⟩; have BK3 := Aside0.mk (blk_below BK2.out hb); obtain ⟨⟨a30, a31, a32, a33⟩, b30, b31, b32, b33⟩ := blk4 BK3.out; have HB3 := Aside0.mk (below_then HB2.out HB2.out.size hb); clear hb)
      | (go_at_call 135; refine (implThere A c l o.path _ ⟨Kd.C_below HR.out HB0.out⟩ hl).mono ?_; rintro e w1 ⟨rfl, hb⟩; have BK1 := Aside0.mk (blk_below BK0.out hb); obtain ⟨⟨a10, a11, a12, a13⟩, b10, b11, b12, b13⟩ := blk4 BK1.out; have HB1 := Aside0.mk (below_box hb); clear hb)
      | (go_at_call 136; refine (implFolderCode m A c l o.dest _ (by omega) ⟨HM.out.below (Nat.le_refl _) HB3.out⟩ ⟨Kd.C_below HR.out HB3.out⟩ hl).mono ?_; rintro e w4 ⟨rfl, hb⟩; have BK4 := Aside0.mk (blk_below BK3.out hb); have HB4 := Aside0.mk (below_then HB3.out HB3.out.size hb); clear hb))
    clear a10 a11 a12 a13 b10 b11 b12 b13 a20 a21 a22 a23 b20 b21 b22 b23 a30 a31 a32 a33 b30 b31 b32 b33
    go_loopw [7, 46] (fun v i wr => ∃ (k : Nat) (xs : List Item), k ≤ l.length ∧ i = .int .i64 k ∧ xs.length ≤ k ∧ Aside0 ((moveFM o (l.drop k)).map (xs ++ ·) = moveFM o l) ∧
        Aside0 (Own kItem 83 wr w4.heap.size v xs) ∧ Aside0 (Below w4.heap.size w4 wr)) (fun _ i _ => l.length - (intOf i).toNat)
    case atStart => exact ⟨0, [], Nat.zero_le _, rfl, Nat.le_refl _, ⟨by simp⟩, ⟨own_empty w4 (Nat.le_refl _)⟩, ⟨(Below.refl _ _).alloc (Nat.le_refl _) _⟩⟩
    case round =>
      obtain ⟨k, xs, hk, rfl, hx, ha, HO, HB5⟩ := hrel
      have BKx := Aside0.mk (blk_below BK4.out HB5.out)
      have HMr := Aside0.mk ((HM.out.below (Nat.le_refl _) HB4.out).below (Nat.le_refl _) HB5.out)
      obtain ⟨⟨a0, a1, a2, a3⟩, b0, b1, b2, b3⟩ := blk4 BKx.out
      have hz := blk_lt BKx.out
      by_cases hlt : k < l.length
      · obtain ⟨ad, rfl, h0, hd1, hd2⟩ := at_Item (Kd.C_below HR.out (below_then HB4.out HB4.out.size HB5.out)) k hlt
        have hx1 := (hl.2 _ (List.getElem_mem hlt)).1
        have HA := Aside0.mk (show (if 4 ≤ (moved o l[k]).path.count 47 then none else ((moveFM o (l.drop (k + 1))).map ((moved o l[k]) :: ·))).map (xs ++ ·) = moveFM o l by
          rw [← ha.out, List.drop_eq_getElem_cons hlt, moveFM])
        clear ha
        rcases Bool.eq_false_or_eq_true (under l[k].path o.path) with hu | hu
        · have hul := under_len hu
          have hcut := cutS l[k].path o.path.length l[k].path.length
          rw [List.take_length] at hcut
          have hcat := catS o.dest (l[k].path.drop o.path.length)
          go_wp2_with (go_at_call 140; refine (implUnder m _ _ _ (by omega) (by omega) ⟨HMr.out.below (Nat.le_refl _) ((Below.refl _ _).alloc (Nat.le_refl _) _)⟩).mono ?_; rintro e w5 ⟨rfl, hb⟩; have BKi := Aside0.mk (blk_below (box1 _ _) hb); have BKy := Aside0.mk (blk_below (blk_alloc BKx.out _) hb); have HB6 := Aside0.mk (below_box hb); clear hb; obtain ⟨⟨c0, c1, c2, c3⟩, d0, d1, d2, d3⟩ := blk4 BKy.out; obtain ⟨⟨e0, e1, e2⟩, f0, f1, f2⟩ := blk3 BKi.out; have hz3 := blk_lt BKi.out; have hz4 := blk_lt BKy.out)
          have HMv := Lib.hid (show (if 4 ≤ (o.dest ++ l[k].path.drop o.path.length).count 47 then none else ((moveFM o (l.drop (k + 1))).map ((⟨o.dest ++ l[k].path.drop o.path.length, l[k].dir, l[k].data⟩ : Item) :: ·))).map (xs ++ ·) = moveFM o l by
            have h := HA.out
            simp only [moved, hu, if_true] at h
            exact h)
          clear HA
          generalize o.dest ++ l[k].path.drop o.path.length = np at hcat HMv
          go_region
          have BK8 := Aside0.mk (blk_set BKi.out 0 (sv np))
          have HB8 := Aside0.mk (HB6.out.setCell (show wr.heap.size ≤ wr.heap.size from Nat.le_refl _) (sv np) (p := ⟨wr.heap.size, 0, none⟩)).drew
          obtain ⟨⟨g0, g1, g2⟩, i0, i1, i2⟩ := blk3 BK8.out
          clear e0 e1 e2 f0 f1 f2
          by_cases hct : 4 ≤ np.count 47
          · have hctI : (4 : Int) ≤ (np.count 47 : Nat) := by omega
            have HN := Lib.hid (show moveFM o l = none by have h := HMv.out; rw [if_pos hct] at h; rw [← h]; rfl)
            clear hct
            go_wp2_with (go_at_call 141; go_loud (refine (countC _ _).mono ?_); rintro e w6 ⟨rfl, rfl⟩)
            go_ret2
            exact ⟨_, by rw [HF.out, HN.out]; rfl, by rw [HF.out, HN.out]; exact Kd.R_below HO0.out (below_then HB4.out HB4.out.size (below_then HB5.out HB5.out.size HB8.out)), (below_then HB4.out HB4.out.size (below_then HB5.out HB5.out.size HB8.out)).mono hbase⟩
          · have hctI : ¬ (4 : Int) ≤ (np.count 47 : Nat) := by omega
            go_wp2_with (first
              | (go_at_call 141; refine (countC _ _).mono ?_; rintro e w6 ⟨rfl, rfl⟩)
              | ((with_reducible refine gate_b (b := .append) (xs := #[.tmp 70, .tmp 72]) rfl ?_); at_builtin; refine appI rfl (s := .tmp 70) (x := .tmp 72) rfl u7 xs ⟨np, l[k].dir, l[k].data⟩ rfl (by first | rfl | (show Value.slice (some ⟨_, 0, none⟩) 1 1 = _; simp)) ⟨Kd.R_below HO.out HB8.out⟩ ⟨below_then HB5.out HB5.out.size HB8.out⟩ (Nat.le_trans HB5.out.size HB8.out.size) (by omega) ?_; intro v1 w7 HO7 HB7 _ _))
            go_roundw
            case rel => exact ⟨k + 1, xs ++ [⟨np, l[k].dir, l[k].data⟩], by omega, by go_num, by simp; omega, ⟨by have h := HMv.out; rw [if_neg hct] at h; rw [← h, Option.map_map]; congr 1; funext r; simp⟩, HO7, HB7⟩
            case measure => simp [intOf] <;> omega
        · have HMv := Lib.hid (show (if 4 ≤ l[k].path.count 47 then none else ((moveFM o (l.drop (k + 1))).map (l[k] :: ·))).map (xs ++ ·) = moveFM o l by
            have h := HA.out
            simp only [moved, hu] at h
            exact h)
          clear HA
          by_cases hct : 4 ≤ l[k].path.count 47
          · have hctI : (4 : Int) ≤ (l[k].path.count 47 : Nat) := by omega
            have HN := Lib.hid (show moveFM o l = none by have h := HMv.out; rw [if_pos hct] at h; rw [← h]; rfl)
            clear hct
            go_wp2_with (first
              | (go_at_call 140; refine (implUnder m _ _ _ (by omega) (by omega) ⟨HMr.out.below (Nat.le_refl _) ((Below.refl _ _).alloc (Nat.le_refl _) _)⟩).mono ?_; rintro e w5 ⟨rfl, hb⟩; have BKi := Aside0.mk (blk_below (box1 _ _) hb); have HB6 := Aside0.mk (below_box hb); clear hb; obtain ⟨⟨e0, e1, e2⟩, f0, f1, f2⟩ := blk3 BKi.out)
              | (go_at_call 141; refine (countC _ _).mono ?_; rintro e w6 ⟨rfl, rfl⟩))
            go_ret2
            exact ⟨_, by rw [HF.out, HN.out]; rfl, by rw [HF.out, HN.out]; exact Kd.R_below HO0.out (below_then HB4.out HB4.out.size (below_then HB5.out HB5.out.size HB6.out)), (below_then HB4.out HB4.out.size (below_then HB5.out HB5.out.size HB6.out)).mono hbase⟩
          · have hctI : ¬ (4 : Int) ≤ (l[k].path.count 47 : Nat) := by omega
            go_wp2_with (first
              | (go_at_call 140; refine (implUnder m _ _ _ (by omega) (by omega) ⟨HMr.out.below (Nat.le_refl _) ((Below.refl _ _).alloc (Nat.le_refl _) _)⟩).mono ?_; rintro e w5 ⟨rfl, hb⟩; have BKi := Aside0.mk (blk_below (box1 _ _) hb); have HB6 := Aside0.mk (below_box hb); clear hb; obtain ⟨⟨e0, e1, e2⟩, f0, f1, f2⟩ := blk3 BKi.out)
              | (go_at_call 141; refine (countC _ _).mono ?_; rintro e w6 ⟨rfl, rfl⟩)
              | ((with_reducible refine gate_b (b := .append) (xs := #[.tmp 70, .tmp 72]) rfl ?_); at_builtin; refine appI rfl (s := .tmp 70) (x := .tmp 72) rfl u7 xs l[k] rfl rfl ⟨Kd.R_below HO.out HB6.out⟩ ⟨below_then HB5.out HB5.out.size HB6.out⟩ (Nat.le_trans HB5.out.size HB6.out.size) (by omega) ?_; intro v1 w7 HO7 HB7 _ _))
            go_roundw
            case rel => exact ⟨k + 1, xs ++ [l[k]], by omega, by go_num, by simp; omega, ⟨by have h := HMv.out; rw [if_neg hct] at h; rw [← h, Option.map_map]; congr 1; funext r; simp⟩, HO7, HB7⟩
            case measure => simp [intOf] <;> omega
      · have HN := Lib.hid (show moveFM o l = some xs by rw [← ha.out, List.drop_eq_nil_of_le (by omega)]; simp [moveFM])
        clear ha
        go_wp2
        go_ret2
        exact ⟨_, by rw [HF.out, HN.out]; rfl, by rw [HF.out, HN.out]; exact own_lower (Nat.le_trans hbase HB4.out.size) HO.out, (below_then HB4.out HB4.out.size HB5.out).mono hbase⟩
  · have HF := Lib.hid (show moveM l o = (l, folderC l (split o.dest).1) by simp [moveM, h1, he, h2, h3, h5])
    have h5b : (folderC l (split o.dest).1 == 0) = false := by simpa using h5
    clear h1 h3
    go_enter Tryz.func77, Tryz.ntmps77
    go_wp2_with (first
      | (go_at_call 140; refine (implUnder m o.dest o.path _ (by omega) (by omega) ⟨HM.out.below (Nat.le_refl _) HB1.out⟩).mono ?_; rintro e w2 ⟨rfl, hb⟩; have BK2 := Aside0.mk (blk_below BK1.out hb); obtain ⟨⟨a20, a21, a22, a23⟩, b20, b21, b22, b23⟩ := blk4 BK2.out; have HB2 := Aside0.mk (below_then HB1.out HB1.out.size hb); clear hb)
      | (go_at_call 135; refine (implThere A c l o.dest _ ⟨Kd.C_below HR.out HB2.out⟩ hl).mono ?_; rintro e w3 ⟨rfl, hb⟩; have BK3 := Aside0.mk (blk_below BK2.out hb); obtain ⟨⟨a30, a31, a32, a33⟩, b30, b31, b32, b33⟩ := blk4 BK3.out; have HB3 := Aside0.mk (below_then HB2.out HB2.out.size hb); clear hb)
      | (go_at_call 135; refine (implThere A c l o.path _ ⟨Kd.C_below HR.out HB0.out⟩ hl).mono ?_; rintro e w1 ⟨rfl, hb⟩; have BK1 := Aside0.mk (blk_below BK0.out hb); obtain ⟨⟨a10, a11, a12, a13⟩, b10, b11, b12, b13⟩ := blk4 BK1.out; have HB1 := Aside0.mk (below_box hb); clear hb)
      | (go_at_call 136; refine (implFolderCode m A c l o.dest _ (by omega) ⟨HM.out.below (Nat.le_refl _) HB3.out⟩ ⟨Kd.C_below HR.out HB3.out⟩ hl).mono ?_; rintro e w4 ⟨rfl, hb⟩; have BK4 := Aside0.mk (blk_below BK3.out hb); have HB4 := Aside0.mk (below_then HB3.out HB3.out.size hb); clear hb))
    go_ret2
    exact ⟨_, by rw [HF.out]; rfl, by rw [HF.out]; exact Kd.R_below HO0.out HB4.out, HB4.out.mono hbase⟩
end Go.Proofs.YtijeoadfgjpefaaGreatDoor
