/- The walk of impl's Plain. Conditions: lengths below 8388608; bytealg.MaxLen holds some int. -/
import Derived.Test.YtijeoadfgjpefaaGreatDoorWImpl5
import Derived.Test.YtijeoadfgjpefaaGreatDoorWImpl6
import Derived.Test.YtijeoadfgjpefaaGreatDoorWImplC
namespace Go.Proofs.YtijeoadfgjpefaaGreatDoor
open Go.RowKit Go.Proofs.YtijeoadfgjpefaaGreatDoorW.PrintWords
set_option linter.unusedSimpArgs false
set_option linter.unusedVariables false

/-- What impl's Plain computes. -/
def implI (l : List Item) (o : OpR) : List Item × Int × Str :=
  if itemsOk l = false then (l, 1, [])
  else if opOk o = false then (l, 1, [])
  else if o.kind = 1 then ((makeM l o).1, (makeM l o).2, [])
  else if o.kind = 2 then ((makeM l o).1, (makeM l o).2, [])
  else if o.kind = 5 then ((dropM l o).1, (dropM l o).2, [])
  else if o.kind = 6 then ((moveM l o).1, (moveM l o).2, [])
  else fileM l o
set_option maxHeartbeats 4000000 in
theorem implPlain (m : Int) (A : Option Addr) (c : Nat) (l : List Item) (o : OpR) (w : World) (HR : Aside0 (Kd.C kItem w A l.length l)) (hc : l.length ≤ c) (hl : smallI l) (ho : smallO o) (HM : Aside0 (MX m w)) :
    Calls Tryz.prog 16 #[.slice A l.length c, opv o] w fun e w' => ∃ v, e = .returned (.tuple #[v, .int .i64 (implI l o).2.1, sv (implI l o).2.2]) ∧ Own kItem 83 w' w.heap.size v (implI l o).1 ∧ Below w.heap.size w w' := by
  have HO' := Lib.hid ho
  have hln := hl.1
  have HB0 := Aside0.mk ((Below.refl w.heap.size w).alloc (Nat.le_refl _) (.cells #[.int .i64 o.kind, sv o.path, sv o.dest, sv o.data] 31))
  have BK0 := Aside0.mk (box1 w (.cells #[.int .i64 o.kind, sv o.path, sv o.dest, sv o.data] 31))
  rcases Bool.eq_false_or_eq_true (itemsOk l) with h1 | h1
  · rcases Bool.eq_false_or_eq_true (opOk o) with h2 | h2
    · have h11 : l.length ≤ 11 := by
        have := h1
        simp only [itemsOk, Bool.and_eq_true, decide_eq_true_eq] at this
        omega
      by_cases h1_ : o.kind = 1
      · have HF := Lib.hid (show implI l o = ((makeM l o).1, (makeM l o).2, []) by simp [implI, h1, h2, h1_])
        have hb1_ : (o.kind == 1) = true := by simpa using h1_
        clear h1_
        go_enter Tryz.func16, Tryz.ntmps16
        go_wp2_with (first
          | (go_at_call 73; refine (implClone A c l _ ⟨Kd.C_below HR.out HB0.out⟩ hln).mono ?_; rintro e w1 ⟨v1, rfl, ho1_, hb⟩; have HO1 := Aside0.mk ho1_; have BK1 := Aside0.mk (blk_below BK0.out hb); obtain ⟨⟨a10, a11, a12, a13⟩, b10, b11, b12, b13⟩ := blk4 BK1.out; have HB1 := Aside0.mk (below_box hb); clear hb ho1_)
          | (go_at_call 61; refine (implItemsOk m A c l _ ⟨Kd.C_below HR.out HB1.out⟩ hl ⟨HM.out.below (Nat.le_refl _) HB1.out⟩).mono ?_; rintro e w2 ⟨rfl, hb⟩; have HO2 := Aside0.mk (Kd.R_below HO1.out hb); have BK2 := Aside0.mk (blk_below BK1.out hb); obtain ⟨⟨a20, a21, a22, a23⟩, b20, b21, b22, b23⟩ := blk4 BK2.out; have HB2 := Aside0.mk (below_then HB1.out HB1.out.size hb); clear hb)
          | (go_at_call 74; refine (implOpOk m o _ HO'.out ⟨HM.out.below (Nat.le_refl _) HB2.out⟩).mono ?_; rintro e w3 ⟨rfl, hb⟩; have HO3 := Aside0.mk (Kd.R_below HO2.out hb); have BK3 := Aside0.mk (blk_below BK2.out hb); obtain ⟨⟨a30, a31, a32, a33⟩, b30, b31, b32, b33⟩ := blk4 BK3.out; have HB3 := Aside0.mk (below_then HB2.out HB2.out.size hb); clear hb)
          | (go_at_call 75; refine (implMake m _ _ l o _ HO3 (by have h_ := blk_lt BK3.out; simp; omega) hl HO'.out ⟨HM.out.below (Nat.le_refl _) HB3.out⟩).mono ?_; rintro e w4 ⟨v4, rfl, ho_, hb⟩; have HO4 := Aside0.mk (own_lower (base' := w.heap.size) (by simp) ho_); have HB4 := Aside0.mk (HB3.out.trans (hb.mono (by simp))); clear ho_ hb))
        go_ret3
        exact ⟨_, by rw [HF.out]; rfl, by rw [HF.out]; exact HO4.out, HB4.out⟩
      have hb1_ : (o.kind == 1) = false := by simpa using h1_
      by_cases h2_ : o.kind = 2
      · have HF := Lib.hid (show implI l o = ((makeM l o).1, (makeM l o).2, []) by simp [implI, h1, h2, h2_])
        have hb2_ : (o.kind == 2) = true := by simpa using h2_
        clear h1_ h2_
        go_enter Tryz.func16, Tryz.ntmps16
        go_wp2_with (first
          | (go_at_call 73; refine (implClone A c l _ ⟨Kd.C_below HR.out HB0.out⟩ hln).mono ?_; rintro e w1 ⟨v1, rfl, ho1_, hb⟩; have HO1 := Aside0.mk ho1_; have BK1 := Aside0.mk (blk_below BK0.out hb); obtain ⟨⟨a10, a11, a12, a13⟩, b10, b11, b12, b13⟩ := blk4 BK1.out; have HB1 := Aside0.mk (below_box hb); clear hb ho1_)
          | (go_at_call 61; refine (implItemsOk m A c l _ ⟨Kd.C_below HR.out HB1.out⟩ hl ⟨HM.out.below (Nat.le_refl _) HB1.out⟩).mono ?_; rintro e w2 ⟨rfl, hb⟩; have HO2 := Aside0.mk (Kd.R_below HO1.out hb); have BK2 := Aside0.mk (blk_below BK1.out hb); obtain ⟨⟨a20, a21, a22, a23⟩, b20, b21, b22, b23⟩ := blk4 BK2.out; have HB2 := Aside0.mk (below_then HB1.out HB1.out.size hb); clear hb)
          | (go_at_call 74; refine (implOpOk m o _ HO'.out ⟨HM.out.below (Nat.le_refl _) HB2.out⟩).mono ?_; rintro e w3 ⟨rfl, hb⟩; have HO3 := Aside0.mk (Kd.R_below HO2.out hb); have BK3 := Aside0.mk (blk_below BK2.out hb); obtain ⟨⟨a30, a31, a32, a33⟩, b30, b31, b32, b33⟩ := blk4 BK3.out; have HB3 := Aside0.mk (below_then HB2.out HB2.out.size hb); clear hb)
          | (go_at_call 75; refine (implMake m _ _ l o _ HO3 (by have h_ := blk_lt BK3.out; simp; omega) hl HO'.out ⟨HM.out.below (Nat.le_refl _) HB3.out⟩).mono ?_; rintro e w4 ⟨v4, rfl, ho_, hb⟩; have HO4 := Aside0.mk (own_lower (base' := w.heap.size) (by simp) ho_); have HB4 := Aside0.mk (HB3.out.trans (hb.mono (by simp))); clear ho_ hb))
        go_ret3
        exact ⟨_, by rw [HF.out]; rfl, by rw [HF.out]; exact HO4.out, HB4.out⟩
      have hb2_ : (o.kind == 2) = false := by simpa using h2_
      by_cases h5_ : o.kind = 5
      · have HF := Lib.hid (show implI l o = ((dropM l o).1, (dropM l o).2, []) by simp [implI, h1, h2, h5_])
        have hb5_ : (o.kind == 5) = true := by simpa using h5_
        clear h1_ h2_ h5_
        go_enter Tryz.func16, Tryz.ntmps16
        go_wp2_with (first
          | (go_at_call 73; refine (implClone A c l _ ⟨Kd.C_below HR.out HB0.out⟩ hln).mono ?_; rintro e w1 ⟨v1, rfl, ho1_, hb⟩; have HO1 := Aside0.mk ho1_; have BK1 := Aside0.mk (blk_below BK0.out hb); obtain ⟨⟨a10, a11, a12, a13⟩, b10, b11, b12, b13⟩ := blk4 BK1.out; have HB1 := Aside0.mk (below_box hb); clear hb ho1_)
          | (go_at_call 61; refine (implItemsOk m A c l _ ⟨Kd.C_below HR.out HB1.out⟩ hl ⟨HM.out.below (Nat.le_refl _) HB1.out⟩).mono ?_; rintro e w2 ⟨rfl, hb⟩; have HO2 := Aside0.mk (Kd.R_below HO1.out hb); have BK2 := Aside0.mk (blk_below BK1.out hb); obtain ⟨⟨a20, a21, a22, a23⟩, b20, b21, b22, b23⟩ := blk4 BK2.out; have HB2 := Aside0.mk (below_then HB1.out HB1.out.size hb); clear hb)
          | (go_at_call 74; refine (implOpOk m o _ HO'.out ⟨HM.out.below (Nat.le_refl _) HB2.out⟩).mono ?_; rintro e w3 ⟨rfl, hb⟩; have HO3 := Aside0.mk (Kd.R_below HO2.out hb); have BK3 := Aside0.mk (blk_below BK2.out hb); obtain ⟨⟨a30, a31, a32, a33⟩, b30, b31, b32, b33⟩ := blk4 BK3.out; have HB3 := Aside0.mk (below_then HB2.out HB2.out.size hb); clear hb)
          | (go_at_call 76; refine (implDrop m _ _ l o _ HO3 (by have h_ := blk_lt BK3.out; simp; omega) hl HO'.out ⟨HM.out.below (Nat.le_refl _) HB3.out⟩).mono ?_; rintro e w4 ⟨v4, rfl, ho_, hb⟩; have HO4 := Aside0.mk (own_lower (base' := w.heap.size) (by simp) ho_); have HB4 := Aside0.mk (HB3.out.trans (hb.mono (by simp))); clear ho_ hb))
        go_ret3
        exact ⟨_, by rw [HF.out]; rfl, by rw [HF.out]; exact HO4.out, HB4.out⟩
      have hb5_ : (o.kind == 5) = false := by simpa using h5_
      by_cases h6_ : o.kind = 6
      · have HF := Lib.hid (show implI l o = ((moveM l o).1, (moveM l o).2, []) by simp [implI, h1, h2, h6_])
        have hb6_ : (o.kind == 6) = true := by simpa using h6_
        clear h1_ h2_ h5_ h6_
        go_enter Tryz.func16, Tryz.ntmps16
        go_wp2_with (first
          | (go_at_call 73; refine (implClone A c l _ ⟨Kd.C_below HR.out HB0.out⟩ hln).mono ?_; rintro e w1 ⟨v1, rfl, ho1_, hb⟩; have HO1 := Aside0.mk ho1_; have BK1 := Aside0.mk (blk_below BK0.out hb); obtain ⟨⟨a10, a11, a12, a13⟩, b10, b11, b12, b13⟩ := blk4 BK1.out; have HB1 := Aside0.mk (below_box hb); clear hb ho1_)
          | (go_at_call 61; refine (implItemsOk m A c l _ ⟨Kd.C_below HR.out HB1.out⟩ hl ⟨HM.out.below (Nat.le_refl _) HB1.out⟩).mono ?_; rintro e w2 ⟨rfl, hb⟩; have HO2 := Aside0.mk (Kd.R_below HO1.out hb); have BK2 := Aside0.mk (blk_below BK1.out hb); obtain ⟨⟨a20, a21, a22, a23⟩, b20, b21, b22, b23⟩ := blk4 BK2.out; have HB2 := Aside0.mk (below_then HB1.out HB1.out.size hb); clear hb)
          | (go_at_call 74; refine (implOpOk m o _ HO'.out ⟨HM.out.below (Nat.le_refl _) HB2.out⟩).mono ?_; rintro e w3 ⟨rfl, hb⟩; have HO3 := Aside0.mk (Kd.R_below HO2.out hb); have BK3 := Aside0.mk (blk_below BK2.out hb); obtain ⟨⟨a30, a31, a32, a33⟩, b30, b31, b32, b33⟩ := blk4 BK3.out; have HB3 := Aside0.mk (below_then HB2.out HB2.out.size hb); clear hb)
          | (go_at_call 77; refine (implMove m _ _ l o _ HO3 (by have h_ := blk_lt BK3.out; simp; omega) hl HO'.out ⟨HM.out.below (Nat.le_refl _) HB3.out⟩).mono ?_; rintro e w4 ⟨v4, rfl, ho_, hb⟩; have HO4 := Aside0.mk (own_lower (base' := w.heap.size) (by simp) ho_); have HB4 := Aside0.mk (HB3.out.trans (hb.mono (by simp))); clear ho_ hb))
        go_ret3
        exact ⟨_, by rw [HF.out]; rfl, by rw [HF.out]; exact HO4.out, HB4.out⟩
      have hb6_ : (o.kind == 6) = false := by simpa using h6_
      have HF := Lib.hid (show implI l o = fileM l o by simp [implI, h1, h2, h1_, h2_, h5_, h6_])
      clear h1_ h2_ h5_ h6_
      go_enter Tryz.func16, Tryz.ntmps16
      go_wp2_with (first
        | (go_at_call 73; refine (implClone A c l _ ⟨Kd.C_below HR.out HB0.out⟩ hln).mono ?_; rintro e w1 ⟨v1, rfl, ho1_, hb⟩; have HO1 := Aside0.mk ho1_; have BK1 := Aside0.mk (blk_below BK0.out hb); obtain ⟨⟨a10, a11, a12, a13⟩, b10, b11, b12, b13⟩ := blk4 BK1.out; have HB1 := Aside0.mk (below_box hb); clear hb ho1_)
        | (go_at_call 61; refine (implItemsOk m A c l _ ⟨Kd.C_below HR.out HB1.out⟩ hl ⟨HM.out.below (Nat.le_refl _) HB1.out⟩).mono ?_; rintro e w2 ⟨rfl, hb⟩; have HO2 := Aside0.mk (Kd.R_below HO1.out hb); have BK2 := Aside0.mk (blk_below BK1.out hb); obtain ⟨⟨a20, a21, a22, a23⟩, b20, b21, b22, b23⟩ := blk4 BK2.out; have HB2 := Aside0.mk (below_then HB1.out HB1.out.size hb); clear hb)
        | (go_at_call 74; refine (implOpOk m o _ HO'.out ⟨HM.out.below (Nat.le_refl _) HB2.out⟩).mono ?_; rintro e w3 ⟨rfl, hb⟩; have HO3 := Aside0.mk (Kd.R_below HO2.out hb); have BK3 := Aside0.mk (blk_below BK2.out hb); obtain ⟨⟨a30, a31, a32, a33⟩, b30, b31, b32, b33⟩ := blk4 BK3.out; have HB3 := Aside0.mk (below_then HB2.out HB2.out.size hb); clear hb)
        | (go_at_call 78; refine (implFile m _ _ l o _ HO3 (by have h_ := blk_lt BK3.out; simp; omega) hl h11 HO'.out ⟨HM.out.below (Nat.le_refl _) HB3.out⟩).mono ?_; rintro e w4 ⟨v4, rfl, ho_, hb⟩; have HO4 := Aside0.mk (own_lower (base' := w.heap.size) (by simp) ho_); have HB4 := Aside0.mk (HB3.out.trans (hb.mono (by simp))); clear ho_ hb))
      go_ret3
      exact ⟨_, by rw [HF.out]; rfl, by rw [HF.out]; exact HO4.out, HB4.out⟩
    · have HF := Lib.hid (show implI l o = (l, 1, []) by simp [implI, h1, h2])
      go_enter Tryz.func16, Tryz.ntmps16
      go_wp2_with (first
        | (go_at_call 73; refine (implClone A c l _ ⟨Kd.C_below HR.out HB0.out⟩ hln).mono ?_; rintro e w1 ⟨v1, rfl, ho1_, hb⟩; have HO1 := Aside0.mk ho1_; have BK1 := Aside0.mk (blk_below BK0.out hb); obtain ⟨⟨a10, a11, a12, a13⟩, b10, b11, b12, b13⟩ := blk4 BK1.out; have HB1 := Aside0.mk (below_box hb); clear hb ho1_)
        | (go_at_call 61; refine (implItemsOk m A c l _ ⟨Kd.C_below HR.out HB1.out⟩ hl ⟨HM.out.below (Nat.le_refl _) HB1.out⟩).mono ?_; rintro e w2 ⟨rfl, hb⟩; have HO2 := Aside0.mk (Kd.R_below HO1.out hb); have BK2 := Aside0.mk (blk_below BK1.out hb); obtain ⟨⟨a20, a21, a22, a23⟩, b20, b21, b22, b23⟩ := blk4 BK2.out; have HB2 := Aside0.mk (below_then HB1.out HB1.out.size hb); clear hb)
        | (go_at_call 74; refine (implOpOk m o _ HO'.out ⟨HM.out.below (Nat.le_refl _) HB2.out⟩).mono ?_; rintro e w3 ⟨rfl, hb⟩; have HO3 := Aside0.mk (Kd.R_below HO2.out hb); have BK3 := Aside0.mk (blk_below BK2.out hb); obtain ⟨⟨a30, a31, a32, a33⟩, b30, b31, b32, b33⟩ := blk4 BK3.out; have HB3 := Aside0.mk (below_then HB2.out HB2.out.size hb); clear hb))
      go_ret3
      exact ⟨_, by rw [HF.out]; rfl, by rw [HF.out]; exact own_lower (base' := w.heap.size) (by simp) HO3.out, HB3.out⟩
  · have HF := Lib.hid (show implI l o = (l, 1, []) by simp [implI, h1])
    go_enter Tryz.func16, Tryz.ntmps16
    go_wp2_with (first
      | (go_at_call 73; refine (implClone A c l _ ⟨Kd.C_below HR.out HB0.out⟩ hln).mono ?_; rintro e w1 ⟨v1, rfl, ho1_, hb⟩; have HO1 := Aside0.mk ho1_; have BK1 := Aside0.mk (blk_below BK0.out hb); obtain ⟨⟨a10, a11, a12, a13⟩, b10, b11, b12, b13⟩ := blk4 BK1.out; have HB1 := Aside0.mk (below_box hb); clear hb ho1_)
      | (go_at_call 61; refine (implItemsOk m A c l _ ⟨Kd.C_below HR.out HB1.out⟩ hl ⟨HM.out.below (Nat.le_refl _) HB1.out⟩).mono ?_; rintro e w2 ⟨rfl, hb⟩; have HO2 := Aside0.mk (Kd.R_below HO1.out hb); have BK2 := Aside0.mk (blk_below BK1.out hb); obtain ⟨⟨a20, a21, a22, a23⟩, b20, b21, b22, b23⟩ := blk4 BK2.out; have HB2 := Aside0.mk (below_then HB1.out HB1.out.size hb); clear hb))
    go_ret3
    exact ⟨_, by rw [HF.out]; rfl, by rw [HF.out]; exact own_lower (base' := w.heap.size) (by simp) HO2.out, HB2.out⟩
end Go.Proofs.YtijeoadfgjpefaaGreatDoor
