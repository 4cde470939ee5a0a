/- The walk of impl's plainList. Conditions: at most 11 items; lengths below 8388608; bytealg.MaxLen holds some int. The walk of impl's plainFile. Conditions: at most 11 items; lengths below 8388608; bytealg.MaxLen holds some int. -/
import Derived.Test.YtijeoadfgjpefaaGreatDoorWImplB
import Derived.Test.YtijeoadfgjpefaaGreatDoorWStr
import Derived.Test.YtijeoadfgjpefaaGreatDoorWPlain5
namespace Go.Proofs.YtijeoadfgjpefaaGreatDoor
open Go.RowKit Go.Proofs.YtijeoadfgjpefaaGreatDoorW.PrintWords
set_option linter.unusedSimpArgs false
set_option linter.unusedVariables false

def namesL (l : List Item) (p : Str) : List Str := (l.filter fun x => (split x.path).1 == p).map fun x => (split x.path).2.1
def foldsL (l : List Item) (p : Str) : List Str := (l.filter fun x => (split x.path).1 == p && x.dir).map fun x => (split x.path).2.1
def slashL (fs xs : List Str) : List Str := xs.map fun n => if fs.contains n then n ++ [47] else n
def sortL (xs : List Str) : List Str := xs.mergeSort fun x y => decide (x ≤ y)
def listM (l : List Item) (p : Str) : Str := ([32] : Str).intercalate (slashL (foldsL l p) (sortL (namesL l p)))
theorem namesL_cons (x : Item) (r : List Item) (p : Str) : namesL (x :: r) p = if ((split x.path).1 == p) = true then (split x.path).2.1 :: namesL r p else namesL r p := by
  unfold namesL
  rw [List.filter_cons]
  split <;> rfl
theorem foldsL_cons (x : Item) (r : List Item) (p : Str) : foldsL (x :: r) p = if ((split x.path).1 == p && x.dir) = true then (split x.path).2.1 :: foldsL r p else foldsL r p := by
  unfold foldsL
  rw [List.filter_cons]
  split <;> rfl
theorem namesL_len (l : List Item) (p : Str) : (namesL l p).length ≤ l.length := by
  unfold namesL; rw [List.length_map]; exact List.length_filter_le _ _
theorem foldsL_len (l : List Item) (p : Str) : (foldsL l p).length ≤ l.length := by
  unfold foldsL; rw [List.length_map]; exact List.length_filter_le _ _
theorem sortL_len (xs : List Str) : (sortL xs).length = xs.length := by simp [sortL]
theorem join_len (B : Nat) : ∀ (xs : List Str), (∀ x ∈ xs, x.length ≤ B) → (([32] : Str).intercalate xs).length ≤ xs.length * (B + 1)
  | [], _ => by simp [List.intercalate]
  | [x], h => by
    have := h x (by simp)
    simp [List.intercalate]; omega
  | x :: y :: r, h => by
    have h1 := h x (by simp)
    have h2 := join_len B (y :: r) (fun z hz => h z (by simp [hz]))
    have e : (([32] : Str).intercalate (x :: y :: r)) = x ++ [32] ++ ([32] : Str).intercalate (y :: r) := by simp [List.intercalate, List.intersperse]
    rw [e]
    simp only [List.length_append, List.length_cons, List.length_nil] at h2 ⊢
    have e2 : (r.length + 1 + 1) * (B + 1) = (r.length + 1) * (B + 1) + (B + 1) := by rw [Nat.add_mul (r.length + 1) 1, Nat.one_mul]
    omega
theorem listM_small (l : List Item) (p : Str) (hl : smallI l) : ∀ x ∈ slashL (foldsL l p) (sortL (namesL l p)), x.length ≤ 8388609 := by
  intro x hx
  obtain ⟨n, hn, rfl⟩ := List.mem_map.1 hx
  have hn2 : n ∈ namesL l p := by
    have := (List.mergeSort_perm (namesL l p) fun x y => decide (x ≤ y)).mem_iff (a := n)
    exact this.1 hn
  obtain ⟨y, hy, rfl⟩ := List.mem_map.1 hn2
  have hy2 := (List.mem_filter.1 hy).1
  have h1 := (hl.2 y hy2).1
  have h2 := (split_le y.path).2
  split
  · simp; omega
  · omega

theorem slash_step (fs ss : List Str) (k : Nat) (h : k < ss.length) : slashL fs (ss.take (k + 1)) = slashL fs (ss.take k) ++ [if fs.contains ss[k] = true then ss[k] ++ [47] else ss[k]] := by
  rw [List.take_succ_eq_append_getElem h]
  unfold slashL
  rw [List.map_append]
  rfl
theorem ne_left {v v1 v6 : Value} {N : Nat} (h : ∀ j, v.ownBlock = some j → v6.ownBlock ≠ some j) (hv : v1.ownBlock = v.ownBlock ∨ ∃ b, v1.ownBlock = some b ∧ N ≤ b) (h6 : ∀ k, v6.ownBlock = some k → k < N) : ∀ j, v1.ownBlock = some j → v6.ownBlock ≠ some j := by
  intro j hj h2
  rcases hv with hv | ⟨b, hv, hN⟩
  · exact h j (hv ▸ hj) h2
  · have := h6 j h2
    rw [hv] at hj
    injection hj with hj
    omega
theorem ne_symm {v v6 : Value} (h : ∀ j, v.ownBlock = some j → v6.ownBlock ≠ some j) : ∀ j, v6.ownBlock = some j → v.ownBlock ≠ some j := fun j h1 h2 => h j h2 h1
set_option maxRecDepth 20000 in
set_option maxHeartbeats 4000000 in
theorem implList (m : Int) (A : Option Addr) (c : Nat) (l : List Item) (p : Str) (w : World) (HR : Aside0 (Kd.C kItem w A l.length l)) (hl : smallI l) (hl11 : l.length ≤ 11) (HM : Aside0 (MX m w)) :
    Calls Tryz.prog 142 #[.slice A l.length c, sv p] w fun e w' => e = .returned (sv (listM l p)) ∧ Below w.heap.size w w' := by
  have HL := Lib.hid hl
  go_enter Tryz.func142, Tryz.ntmps142
  go_wp2
  go_loopw [5, 6, 18] (fun v5 v6 i wr => ∃ (k : Nat) (xs ys : List Str), k ≤ l.length ∧ i = .int .i64 k ∧ xs.length ≤ k ∧ ys.length ≤ k ∧ Aside0 (xs ++ namesL (l.drop k) p = namesL l p) ∧ Aside0 (ys ++ foldsL (l.drop k) p = foldsL l p) ∧
      Aside0 (RS wr w.heap.size v5 xs) ∧ Aside0 (RS wr w.heap.size v6 ys) ∧ Aside0 (∀ j, v5.ownBlock = some j → v6.ownBlock ≠ some j) ∧ Aside0 (Below w.heap.size w wr)) (fun _ _ i _ => l.length - (intOf i).toNat)
  case atStart => exact ⟨0, [], [], Nat.zero_le _, rfl, Nat.le_refl _, Nat.le_refl _, ⟨rfl⟩, ⟨rfl⟩, ⟨RS.of_own (own_alloc ⟨own_empty w (Nat.le_refl _)⟩ _).out⟩, ⟨RS.of_own (own_emptyB _ (by simp) (by simp))⟩, ⟨by intro j h; simp [Value.ownBlock] at h ⊢; omega⟩, ⟨((Below.refl _ _).alloc (Nat.le_refl _) _).alloc (by simp) _⟩⟩
  case round =>
    obtain ⟨k, xs, ys, hk, rfl, hxs, hys, ha5, ha6, HO5, HO6, HNE, HB⟩ := hrel
    have HMr := Aside0.mk (HM.out.below (Nat.le_refl _) HB.out)
    by_cases hlt : k < l.length
    · obtain ⟨ad, rfl, h0, hd1, hd2⟩ := at_Item (Kd.C_below HR.out HB.out) k hlt
      have hx1 := (hl.2 _ (List.getElem_mem hlt)).1
      have HA5 := Lib.hid (show xs ++ (if ((split l[k].path).1 == p) = true then (split l[k].path).2.1 :: namesL (l.drop (k + 1)) p else namesL (l.drop (k + 1)) p) = namesL l p by
        rw [← ha5.out, List.drop_eq_getElem_cons hlt, namesL_cons])
      have HA6 := Lib.hid (show ys ++ (if ((split l[k].path).1 == p && l[k].dir) = true then (split l[k].path).2.1 :: foldsL (l.drop (k + 1)) p else foldsL (l.drop (k + 1)) p) = foldsL l p by
        rw [← ha6.out, List.drop_eq_getElem_cons hlt, foldsL_cons])
      clear ha5 ha6
      rcases Bool.eq_false_or_eq_true ((split l[k].path).1 == p) with hp | hp
      · rcases Bool.eq_false_or_eq_true l[k].dir with hdir | hdir
        · go_wp2_with (first
            | (go_at_call 123; refine (implSplit m _ _ (by omega) ⟨HMr.out.below (Nat.le_refl _) ((Below.refl _ _).alloc (Nat.le_refl _) _)⟩).mono ?_; rintro e w1 ⟨rfl, hb⟩; have BKi := Aside0.mk (blk_below (box1 _ _) hb); obtain ⟨⟨e0, e1, e2⟩, f0, f1, f2⟩ := blk3 BKi.out; have HB1 := Aside0.mk (below_box hb); clear hb; have HO51 := Aside0.mk (RS.below HO5.out HB1.out); have HO61 := Aside0.mk (RS.below HO6.out HB1.out))
            | ((with_reducible refine gate_b (b := .append) (xs := #[.tmp 32, .tmp 34]) rfl ?_); at_builtin; refine appS rfl (s := .tmp 32) (x := .tmp 34) rfl u5 xs (split l[k].path).2.1 rfl rfl ⟨HO51.out.own⟩ ⟨below_then HB.out HB.out.size HB1.out⟩ (Nat.le_trans HB.out.size HB1.out.size) (by omega) ?_; intro v1 w2 HO52 HB2 HG1 hv1; have BKj := Aside0.mk (blk_grown BKi.out HG1.out (Kd.R_ne HO51.out.own BKi.out (by decide))); obtain ⟨⟨g0, g1, g2⟩, i0, i1, i2⟩ := blk3 BKj.out; have HO62 := Aside0.mk (RS.keep HO61.out HG1.out fun j hj e_ => HNE.out j e_.symm hj); have HNE1 := Aside0.mk (ne_left HNE.out hv1.out fun k hk => (HO61.out.lt hk).1))
            | ((with_reducible refine gate_b (b := .append) (xs := #[.tmp 38, .tmp 40]) rfl ?_); at_builtin; refine appS rfl (s := .tmp 38) (x := .tmp 40) rfl u6 ys (split l[k].path).2.1 rfl (by show Value.slice (some ⟨w2.heap.size, 0, none⟩) 1 1 = _; simp) ⟨HO62.out.own⟩ HB2 HB2.out.size (by omega) ?_; intro v2 w3 HO63 HB3 HG2 hv2))
          go_roundw
          case rel => exact ⟨k + 1, xs ++ [(split l[k].path).2.1], ys ++ [(split l[k].path).2.1], by omega, by go_num, by simp; omega, by simp; omega, ⟨by have h := HA5.out; rw [hp] at h; simpa using h⟩, ⟨by have h := HA6.out; rw [hp, hdir] at h; simpa using h⟩, ⟨RS.keep (RS.of_own HO52.out) HG2.out fun j hj e_ => HNE1.out j hj e_.symm⟩, ⟨RS.of_own HO63.out⟩,
            ⟨ne_symm (ne_left (ne_symm HNE1.out) hv2.out fun k hk => ((RS.of_own HO52.out).lt hk).1)⟩, HB3⟩
          case measure => simp [intOf] <;> omega
        · go_wp2_with (first
            | (go_at_call 123; refine (implSplit m _ _ (by omega) ⟨HMr.out.below (Nat.le_refl _) ((Below.refl _ _).alloc (Nat.le_refl _) _)⟩).mono ?_; rintro e w1 ⟨rfl, hb⟩; have BKi := Aside0.mk (blk_below (box1 _ _) hb); obtain ⟨⟨e0, e1, e2⟩, f0, f1, f2⟩ := blk3 BKi.out; have HB1 := Aside0.mk (below_box hb); clear hb; have HO51 := Aside0.mk (RS.below HO5.out HB1.out); have HO61 := Aside0.mk (RS.below HO6.out HB1.out))
            | ((with_reducible refine gate_b (b := .append) (xs := #[.tmp 32, .tmp 34]) rfl ?_); at_builtin; refine appS rfl (s := .tmp 32) (x := .tmp 34) rfl u5 xs (split l[k].path).2.1 rfl rfl ⟨HO51.out.own⟩ ⟨below_then HB.out HB.out.size HB1.out⟩ (Nat.le_trans HB.out.size HB1.out.size) (by omega) ?_; intro v1 w2 HO52 HB2 HG1 hv1; have BKj := Aside0.mk (blk_grown BKi.out HG1.out (Kd.R_ne HO51.out.own BKi.out (by decide))); obtain ⟨⟨g0, g1, g2⟩, i0, i1, i2⟩ := blk3 BKj.out; have HO62 := Aside0.mk (RS.keep HO61.out HG1.out fun j hj e_ => HNE.out j e_.symm hj); have HNE1 := Aside0.mk (ne_left HNE.out hv1.out fun k hk => (HO61.out.lt hk).1)))
          go_roundw
          case rel => exact ⟨k + 1, xs ++ [(split l[k].path).2.1], ys, by omega, by go_num, by simp; omega, by omega, ⟨by have h := HA5.out; rw [hp] at h; simpa using h⟩, ⟨by have h := HA6.out; rw [hp, hdir] at h; simpa using h⟩, ⟨RS.of_own HO52.out⟩, HO62, HNE1, HB2⟩
          case measure => simp [intOf] <;> omega
      · go_wp2_with (go_at_call 123; refine (implSplit m _ _ (by omega) ⟨HMr.out.below (Nat.le_refl _) ((Below.refl _ _).alloc (Nat.le_refl _) _)⟩).mono ?_; rintro e w1 ⟨rfl, hb⟩; have BKi := Aside0.mk (blk_below (box1 _ _) hb); obtain ⟨⟨e0, e1, e2⟩, f0, f1, f2⟩ := blk3 BKi.out; have HB1 := Aside0.mk (below_box hb); clear hb; have HO51 := Aside0.mk (RS.below HO5.out HB1.out); have HO61 := Aside0.mk (RS.below HO6.out HB1.out))
        go_roundw
        case rel => exact ⟨k + 1, xs, ys, by omega, by go_num, by omega, by omega, ⟨by have h := HA5.out; rw [hp] at h; simpa using h⟩, ⟨by have h := HA6.out; rw [hp] at h; simpa using h⟩, HO51, HO61, HNE, ⟨below_then HB.out HB.out.size HB1.out⟩⟩
        case measure => simp [intOf] <;> omega
    · have e5 : xs = namesL l p := by have h := ha5.out; rw [List.drop_eq_nil_of_le (by omega)] at h; simpa [namesL] using h
      have e6 : ys = foldsL l p := by have h := ha6.out; rw [List.drop_eq_nil_of_le (by omega)] at h; simpa [foldsL] using h
      subst e5 e6
      clear ha5 ha6
      have hnl := namesL_len l p
      have hfl := foldsL_len l p
      have hsl := sortL_len (namesL l p)
      have HSM := Lib.hid (listM_small l p hl)
      have HJ := Lib.hid (show listM l p = ([32] : Str).intercalate (slashL (foldsL l p) (sortL (namesL l p))) from rfl)
      obtain ⟨fs, hfs⟩ : ∃ fs, fs = foldsL l p := ⟨_, rfl⟩
      obtain ⟨ns, hns⟩ : ∃ ns, ns = namesL l p := ⟨_, rfl⟩
      rw [← hfs] at HO6 HSM HJ hfl hys
      rw [← hns] at HO5 HSM HJ hnl hsl hxs
      clear hfs hns
      obtain ⟨A5, c5, rfl, hc5, hr5_⟩ := RdV.of_own HO5.out.own
      clear hr5_
      go_wp2_with (go_at_call 183; refine (sortRS w.heap.size _ ns _ HO5.out (by omega)).mono ?_; rintro e w1 ⟨rfl, hs, hg⟩; have HO51 := Aside0.mk (show RS w1 w.heap.size _ (sortL ns) from hs); have HO61 := Aside0.mk (RS.keep HO6.out hg fun j hj e_ => HNE.out j e_.symm hj); have HB1 := Aside0.mk (grownBy_step HB.out HB.out.size hg fun k hk => (HO5.out.lt hk).2); clear hs hg)
      generalize sortL ns = ss at HO51 hsl HSM HJ
      have hs1 : ss.length ≤ ns.length := by omega
      have hs2 : ns.length ≤ ss.length := by omega
      clear hsl
      go_loopw [47] (fun i wr => ∃ k : Nat, k ≤ ss.length ∧ i = .int .i64 k ∧ Aside0 (RS wr w.heap.size (.slice A5 ns.length c5) (slashL fs (ss.take k) ++ ss.drop k)) ∧ Aside0 (RS wr w.heap.size u6 fs) ∧ Aside0 (Below w.heap.size w wr)) (fun i _ => ss.length - (intOf i).toNat)
      case atStart => exact ⟨0, Nat.zero_le _, rfl, ⟨by simpa [slashL] using HO51.out⟩, HO61, HB1⟩
      case round =>
        obtain ⟨k2, hk2, rfl, HO7, HO8, HB7⟩ := hrel
        have hlen7 : (slashL fs (ss.take k2) ++ ss.drop k2).length = ss.length := by simp [slashL]; omega
        by_cases hlt2 : k2 < ss.length
        · obtain ⟨g5, cap5, e5⟩ := own_form HO7.out.own (by omega)
          injection e5 with e5 e5b e5c
          subst e5
          clear e5b e5c
          have hel : (slashL fs (ss.take k2) ++ ss.drop k2)[k2]'(by omega) = ss[k2] := by
            rw [List.getElem_append_right (by simp [slashL]; omega)]
            simp [slashL, Nat.min_eq_left hk2]
          have hC7 := (own_sl HO7.out.own).2
          obtain ⟨ad2, e6, h6⟩ := at_Str hC7 k2 (by omega)
          injection e6 with e6
          subst e6
          rw [hel, add_plain] at h6
          have hk2n : k2 < ns.length := by omega
          have hk2i : (k2 : Int) < (ns.length : Int) := by omega
          clear hC7 hel hlen7
          have hcat := catS ss[k2] [47]
          have HST := Lib.hid (slash_step fs ss k2 hlt2)
          rcases Bool.eq_false_or_eq_true (fs.contains ss[k2]) with hf | hf
          · have hbk : ss[k2].length + 1 ≤ 8388609 := by
              have h := HSM.out _ (List.mem_map_of_mem (List.getElem_mem hlt2))
              rw [if_pos hf] at h
              simpa using h
            rw [hf] at HST
            have HSET := Lib.hid (show (slashL fs (ss.take k2) ++ ss.drop k2).set (k2 : Int).toNat (ss[k2] ++ [47]) = slashL fs (ss.take (k2 + 1)) ++ ss.drop (k2 + 1) by
              rw [HST.out, if_pos rfl]
              have hl : (slashL fs (ss.take k2)).length = k2 := by simp [slashL, Nat.min_eq_left hk2]
              rw [List.drop_eq_getElem_cons hlt2, List.set_append_right _ _ (by omega), hl, show (k2 : Int).toNat - k2 = 0 by omega, List.set_cons_zero, List.append_assoc]
              rfl)
            go_wp2_with (first
              | (go_at_call 184; refine (containsRS w.heap.size _ fs _ _ HO8.out (by omega)).mono ?_; rintro e w3 ⟨rfl, rfl⟩; rw [hf])
              | ((with_reducible refine gate_store (t := 9) (p := 59) (v := .tmp 58) rfl ?_); refine storeS (w0 := w) rfl rfl rfl (k2 : Int) (slashL fs (ss.take k2) ++ ss.drop k2) (ss[k2] ++ [47]) rfl (by simp) rfl HO7 (by omega) (by omega) HB7 ?_; intro w4 HO9 HB9 HG9))
            go_roundw
            case rel => exact ⟨k2 + 1, by omega, by go_num, ⟨by rw [← HSET.out]; exact HO9.out⟩, ⟨RS.keep HO8.out HG9.out fun j hj e_ => ne_symm HNE.out j hj (by rw [e_]; rfl)⟩, HB9⟩
            case measure => simp [intOf] <;> omega
          · have HEQ := Lib.hid (show slashL fs (ss.take (k2 + 1)) ++ ss.drop (k2 + 1) = slashL fs (ss.take k2) ++ ss.drop k2 by
              rw [slash_step fs ss k2 hlt2, if_neg (by rw [hf]; decide), List.drop_eq_getElem_cons hlt2, List.append_assoc]
              rfl)
            go_wp2_with (go_at_call 184; refine (containsRS w.heap.size _ fs _ _ HO8.out (by omega)).mono ?_; rintro e w3 ⟨rfl, rfl⟩; rw [hf])
            go_roundw
            case rel => exact ⟨k2 + 1, by omega, by go_num, ⟨by rw [HEQ.out]; exact HO7.out⟩, HO8, HB7⟩
            case measure => simp [intOf] <;> omega
        · have hkk : k2 = ss.length := by omega
          have HO9 := Aside0.mk (show RS wr w.heap.size (.slice A5 ns.length c5) (slashL fs ss) by have h := HO7.out; rw [hkk, List.take_length, List.drop_length, List.append_nil] at h; exact h)
          clear HO7
          have hjl : (([32] : Str).intercalate (slashL fs ss)).length ≤ 140737488355328 := by
            have h1 := join_len 8388609 (slashL fs ss) HSM.out
            have h2 : (slashL fs ss).length ≤ 11 := by
              have e_ : (slashL fs ss).length = ss.length := List.length_map ..
              omega
            have h3 : (slashL fs ss).length * (8388609 + 1) ≤ 11 * (8388609 + 1) := Nat.mul_le_mul_right _ h2
            omega
          go_wp2_with (go_at_call 185; refine (joinRS w.heap.size _ (slashL fs ss) [32] _ HO9.out (by have e_ : (slashL fs ss).length = ss.length := List.length_map ..; omega) hjl).mono ?_; rintro e w3 ⟨rfl, hb⟩; have HB9 := Aside0.mk (below_then HB7.out HB7.out.size hb); clear hb)
          go_ret
          exact ⟨by rw [HJ.out]; rfl, HB9.out⟩
end Go.Proofs.YtijeoadfgjpefaaGreatDoor
namespace Go.Proofs.YtijeoadfgjpefaaGreatDoor
open Go.RowKit Go.Proofs.YtijeoadfgjpefaaGreatDoorW.PrintWords
set_option linter.unusedSimpArgs false
set_option linter.unusedVariables false

/-- What impl's plainFile computes. -/
def fileM (l : List Item) (o : OpR) : List Item × Int × Str :=
  if folderC l o.path = 2 then (l, 2, [])
  else if ((folderC l o.path == 0) == (o.kind == 7)) = false then (l, 4, [])
  else if o.kind = 7 then (l, 0, listM l o.path)
  else if o.kind = 4 then (l, 0, (getI l (find l o.path)).data)
  else (l.set (find l o.path).toNat ⟨(getI l (find l o.path)).path, (getI l (find l o.path)).dir, o.data⟩, 0, [])
set_option maxHeartbeats 4000000 in
theorem implFile (m : Int) (base : Nat) (v : Value) (l : List Item) (o : OpR) (w : World) (HO : Aside0 (Own kItem 83 w base v l)) (hbase : base ≤ w.heap.size) (hl : smallI l) (hl11 : l.length ≤ 11) (ho : smallO o) (HM : Aside0 (MX m w)) :
    Calls Tryz.prog 78 #[v, opv o] w fun e w' => ∃ v', e = .returned (.tuple #[v', .int .i64 (fileM l o).2.1, sv (fileM l o).2.2]) ∧ Own kItem 83 w' base v' (fileM l o).1 ∧ Below base w w' := by
  obtain ⟨A, c, rfl, hc, hr⟩ := RdV.of_own HO.out
  have HR := Aside0.mk hr
  clear hr
  have hlen := hl.1
  obtain ⟨ho1, ho2, ho3⟩ := ho
  have HB0 := Aside0.mk ((Below.refl w.heap.size w).alloc (Nat.le_refl _) (.cells #[.int .i64 o.kind, sv o.path, sv o.dest, sv o.data] 31))
  have BK0 := Aside0.mk (box1 w (.cells #[.int .i64 o.kind, sv o.path, sv o.dest, sv o.data] 31))
  by_cases h1 : folderC l o.path = 2
  · have HF := Lib.hid (show fileM l o = (l, 2, []) by simp only [fileM, if_pos h1])
    have h1b : (folderC l o.path == 2) = true := by simpa using h1
    clear h1
    go_enter Tryz.func78, Tryz.ntmps78
    go_wp2_with (first
      | (go_at_call 63; refine (implFind _ _ l o.path _ ⟨Kd.C_below HR.out HB0.out⟩ hl).mono ?_; rintro e w1 ⟨rfl, hb⟩; have BK1 := Aside0.mk (blk_below BK0.out hb); obtain ⟨⟨a10, a11, a12, a13⟩, b10, b11, b12, b13⟩ := blk4 BK1.out; have HB1 := Aside0.mk (below_box hb); clear hb)
      | (go_at_call 135; refine (implThere _ _ l o.path _ ⟨Kd.C_below HR.out HB1.out⟩ hl).mono ?_; rintro e w2 ⟨rfl, hb⟩; have BK2 := Aside0.mk (blk_below BK1.out hb); obtain ⟨⟨a20, a21, a22, a23⟩, b20, b21, b22, b23⟩ := blk4 BK2.out; have HB2 := Aside0.mk (below_then HB1.out HB1.out.size hb); clear hb))
    go_ret3
    exact ⟨_, by rw [HF.out]; rfl, by rw [HF.out]; exact Kd.R_below HO.out HB2.out, HB2.out.mono hbase⟩
  have h1b : (folderC l o.path == 2) = false := by simpa using h1
  rcases Bool.eq_false_or_eq_true ((folderC l o.path == 0) == (o.kind == 7)) with h2 | h2
  · have HH2 := Lib.hid h2
    by_cases h7 : o.kind = 7
    · have HF := Lib.hid (show fileM l o = (l, 0, listM l o.path) by simp only [fileM, if_neg h1, h2, if_pos h7]; rfl)
      have h7b : (o.kind == 7) = true := by simpa using h7
      have h0b : (folderC l o.path == 0) = true := by rw [h7b] at h2; simpa using h2
      clear h1 h2 h7
      go_enter Tryz.func78, Tryz.ntmps78
      go_wp2_with (first
        | (go_at_call 63; refine (implFind _ _ l o.path _ ⟨Kd.C_below HR.out HB0.out⟩ hl).mono ?_; rintro e w1 ⟨rfl, hb⟩; have BK1 := Aside0.mk (blk_below BK0.out hb); obtain ⟨⟨a10, a11, a12, a13⟩, b10, b11, b12, b13⟩ := blk4 BK1.out; have HB1 := Aside0.mk (below_box hb); clear hb)
        | (go_at_call 135; refine (implThere _ _ l o.path _ ⟨Kd.C_below HR.out HB1.out⟩ hl).mono ?_; rintro e w2 ⟨rfl, hb⟩; have BK2 := Aside0.mk (blk_below BK1.out hb); obtain ⟨⟨a20, a21, a22, a23⟩, b20, b21, b22, b23⟩ := blk4 BK2.out; have HB2 := Aside0.mk (below_then HB1.out HB1.out.size hb); clear hb))
      go_region_with (go_at_call 124; refine (implIsFolder _ _ l o.path _ ⟨Kd.C_below HR.out (by repeat (first | exact HB2.out | apply below_drew))⟩ hl).mono ?_; rintro e w3 ⟨rfl, hb⟩; have BK3 := Aside0.mk (blk_below (by first | exact BK2.out | exact (show w2.drew.heap[_]? = _ from BK2.out)) hb); obtain ⟨⟨a30, a31, a32, a33⟩, b30, b31, b32, b33⟩ := blk4 BK3.out; have HB3 := Aside0.mk (below_then (by first | exact HB2.out | exact HB2.out.drew) (by first | exact HB2.out.size | exact HB2.out.drew.size) hb); clear hb)
      all_goals
        go_wp2_with (go_at_call 142; refine (implList m A c l o.path _ ⟨Kd.C_below HR.out HB3.out⟩ hl hl11 ⟨HM.out.below (Nat.le_refl _) HB3.out⟩).mono ?_; rintro e w4 ⟨rfl, hb⟩; have HB4 := Aside0.mk (below_then HB3.out HB3.out.size hb); clear hb)
        go_ret3
        exact ⟨_, by rw [HF.out]; rfl, by rw [HF.out]; exact Kd.R_below HO.out HB4.out, HB4.out.mono hbase⟩
    have h7b : (o.kind == 7) = false := by simpa using h7
    have h0b : (folderC l o.path == 0) = false := by rw [h7b] at h2; simpa using h2
    have HX := find_of_folder h1 (by simpa using h0b)
    obtain ⟨hx0, hx1⟩ := HX
    by_cases hk : o.kind = 4
    · have HF := Lib.hid (show fileM l o = (l, 0, (getI l (find l o.path)).data) by simp only [fileM, if_neg h1, h2, if_neg h7, if_pos hk]; rfl)
      have hkb : (o.kind == 4) = true := by simpa using hk
      clear h1 h2 h7 hk
      go_enter Tryz.func78, Tryz.ntmps78
      go_wp2_with (first
        | (go_at_call 63; refine (implFind _ _ l o.path _ ⟨Kd.C_below HR.out HB0.out⟩ hl).mono ?_; rintro e w1 ⟨rfl, hb⟩; have BK1 := Aside0.mk (blk_below BK0.out hb); obtain ⟨⟨a10, a11, a12, a13⟩, b10, b11, b12, b13⟩ := blk4 BK1.out; have HB1 := Aside0.mk (below_box hb); clear hb)
        | (go_at_call 135; refine (implThere _ _ l o.path _ ⟨Kd.C_below HR.out HB1.out⟩ hl).mono ?_; rintro e w2 ⟨rfl, hb⟩; have BK2 := Aside0.mk (blk_below BK1.out hb); obtain ⟨⟨a20, a21, a22, a23⟩, b20, b21, b22, b23⟩ := blk4 BK2.out; have HB2 := Aside0.mk (below_then HB1.out HB1.out.size hb); clear hb))
      go_region_with (go_at_call 124; refine (implIsFolder _ _ l o.path _ ⟨Kd.C_below HR.out (by repeat (first | exact HB2.out | apply below_drew))⟩ hl).mono ?_; rintro e w3 ⟨rfl, hb⟩; have BK3 := Aside0.mk (blk_below (by first | exact BK2.out | exact (show w2.drew.heap[_]? = _ from BK2.out)) hb); obtain ⟨⟨a30, a31, a32, a33⟩, b30, b31, b32, b33⟩ := blk4 BK3.out; have HB3 := Aside0.mk (below_then (by first | exact HB2.out | exact HB2.out.drew) (by first | exact HB2.out.size | exact HB2.out.drew.size) hb); clear hb)
      all_goals
        obtain ⟨ad, e_, f0, f1, f2⟩ := at_ItemZ (Kd.C_below HR.out HB3.out) (find l o.path) hx0 hx1
        subst e_
        go_wp2_with (go_quiet (fail))
        go_ret3
        exact ⟨_, by rw [HF.out]; rfl, by rw [HF.out]; exact Kd.R_below HO.out (below_drewN HB3.out _), (below_drewN HB3.out _).mono hbase⟩
    · have HF := Lib.hid (show fileM l o = (l.set (find l o.path).toNat ⟨(getI l (find l o.path)).path, (getI l (find l o.path)).dir, o.data⟩, 0, []) by simp only [fileM, if_neg h1, h2, if_neg h7, if_neg hk]; rfl)
      have hkb : (o.kind == 4) = false := by simpa using hk
      clear h1 h2 h7 hk
      obtain ⟨g1, c1, e1⟩ := own_form HO.out (by omega)
      injection e1 with e1 e2 e3
      subst e1 e3
      clear e2
      go_enter Tryz.func78, Tryz.ntmps78
      go_wp2_with (first
        | (go_at_call 63; refine (implFind _ _ l o.path _ ⟨Kd.C_below HR.out HB0.out⟩ hl).mono ?_; rintro e w1 ⟨rfl, hb⟩; have BK1 := Aside0.mk (blk_below BK0.out hb); obtain ⟨⟨a10, a11, a12, a13⟩, b10, b11, b12, b13⟩ := blk4 BK1.out; have HB1 := Aside0.mk (below_box hb); clear hb)
        | (go_at_call 135; refine (implThere _ _ l o.path _ ⟨Kd.C_below HR.out HB1.out⟩ hl).mono ?_; rintro e w2 ⟨rfl, hb⟩; have BK2 := Aside0.mk (blk_below BK1.out hb); obtain ⟨⟨a20, a21, a22, a23⟩, b20, b21, b22, b23⟩ := blk4 BK2.out; have HB2 := Aside0.mk (below_then HB1.out HB1.out.size hb); clear hb))
      go_region_with (go_at_call 124; refine (implIsFolder _ _ l o.path _ ⟨Kd.C_below HR.out (by repeat (first | exact HB2.out | apply below_drew))⟩ hl).mono ?_; rintro e w3 ⟨rfl, hb⟩; have BK3 := Aside0.mk (blk_below (by first | exact BK2.out | exact (show w2.drew.heap[_]? = _ from BK2.out)) hb); obtain ⟨⟨a30, a31, a32, a33⟩, b30, b31, b32, b33⟩ := blk4 BK3.out; have HB3 := Aside0.mk (below_then (by first | exact HB2.out | exact HB2.out.drew) (by first | exact HB2.out.size | exact HB2.out.drew.size) hb); clear hb)
      all_goals
        have HO3 := Aside0.mk (Kd.R_below HO.out HB3.out)
        skip
        go_wp2_with ((with_reducible refine gate_store (t := 9) (p := 53) (v := .tmp 51) rfl ?_); refine storeI (w0 := w) (o' := (find l o.path).toNat * 3 + 2) rfl rfl rfl (find l o.path) 2 l ⟨(getI l (find l o.path)).path, (getI l (find l o.path)).dir, o.data⟩ (sv o.data) (by decide) rfl rfl rfl rfl sizeS rfl HO3 hx0 hx1 rfl ⟨HB3.out.mono hbase⟩ ?_; intro w5 HO5 HB5 HG5)
        go_ret3
        exact ⟨_, by rw [HF.out]; rfl, by rw [HF.out]; exact HO5.out, HB5.out⟩
  · have HF := Lib.hid (show fileM l o = (l, 4, []) by simp only [fileM, if_neg h1, h2, if_true])
    clear h1
    go_enter Tryz.func78, Tryz.ntmps78
    go_wp2_with (first
      | (go_at_call 63; refine (implFind _ _ l o.path _ ⟨Kd.C_below HR.out HB0.out⟩ hl).mono ?_; rintro e w1 ⟨rfl, hb⟩; have BK1 := Aside0.mk (blk_below BK0.out hb); obtain ⟨⟨a10, a11, a12, a13⟩, b10, b11, b12, b13⟩ := blk4 BK1.out; have HB1 := Aside0.mk (below_box hb); clear hb)
      | (go_at_call 135; refine (implThere _ _ l o.path _ ⟨Kd.C_below HR.out HB1.out⟩ hl).mono ?_; rintro e w2 ⟨rfl, hb⟩; have BK2 := Aside0.mk (blk_below BK1.out hb); obtain ⟨⟨a20, a21, a22, a23⟩, b20, b21, b22, b23⟩ := blk4 BK2.out; have HB2 := Aside0.mk (below_then HB1.out HB1.out.size hb); clear hb))
    go_region_with (go_at_call 124; refine (implIsFolder _ _ l o.path _ ⟨Kd.C_below HR.out (by repeat (first | exact HB2.out | apply below_drew))⟩ hl).mono ?_; rintro e w3 ⟨rfl, hb⟩; have BK3 := Aside0.mk (blk_below (by first | exact BK2.out | exact (show w2.drew.heap[_]? = _ from BK2.out)) hb); obtain ⟨⟨a30, a31, a32, a33⟩, b30, b31, b32, b33⟩ := blk4 BK3.out; have HB3 := Aside0.mk (below_then (by first | exact HB2.out | exact HB2.out.drew) (by first | exact HB2.out.size | exact HB2.out.drew.size) hb); clear hb)
    go_wp2
    all_goals
      go_ret3
      exact ⟨_, by rw [HF.out]; rfl, by rw [HF.out]; exact Kd.R_below HO.out HB3.out, HB3.out.mono hbase⟩
end Go.Proofs.YtijeoadfgjpefaaGreatDoor
