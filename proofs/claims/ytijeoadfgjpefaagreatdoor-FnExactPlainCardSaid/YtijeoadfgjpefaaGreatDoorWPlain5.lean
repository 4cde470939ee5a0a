/- The walks of the reference's l12Do and Plain. Conditions: lengths below 8388608. -/
import Derived.Test.YtijeoadfgjpefaaGreatDoorWList
import Derived.Test.YtijeoadfgjpefaaGreatDoorWPlainA
import Derived.Test.YtijeoadfgjpefaaGreatDoorWPlainB
namespace Go.Proofs.YtijeoadfgjpefaaGreatDoor
open Go.RowKit Go.Proofs.YtijeoadfgjpefaaGreatDoorW.PrintWords
set_option linter.unusedSimpArgs false
set_option linter.unusedVariables false

def doI (l : List Item) (o : OpR) : List Item × Int × Str :=
  if folderC l o.path = 2 then (l, 2, [])
  else if o.kind = 5 then ((dropI l o).1, (dropI l o).2, [])
  else if o.kind = 6 then ((moveI l o).1, (moveI l o).2, [])
  else if ((folderC l o.path == 0) != (o.kind == 7)) then (l, 4, [])
  else if o.kind = 7 then (l, 0, namesText l o.path)
  else if o.kind = 4 then (l, 0, (getI l (find l o.path)).data)
  else (l.set (find l o.path).toNat ⟨(getI l (find l o.path)).path, (getI l (find l o.path)).dir, o.data⟩, 0, [])
theorem find_of_folder {l : List Item} {p : Str} (h2 : folderC l p ≠ 2) (h0 : folderC l p ≠ 0) : 0 ≤ find l p ∧ find l p < l.length := by
  unfold folderC at h2 h0
  split at h2
  · simp_all
  · split at h2
    · simp at h2
    · rcases findF_range p l 0 with h | h
      · rw [show find l p = -1 from h] at *; simp_all
      · exact ⟨by simpa using h.1, by simpa using h.2⟩

set_option maxHeartbeats 4000000 in
theorem specDo (A : Option Addr) (c : Nat) (l : List Item) (o : OpR) (w : World) (HR : Aside0 (Kd.C kItem w A l.length l)) (hc : l.length ≤ c) (hl : smallI l) (hl11 : l.length ≤ 11) (ho : smallO o) :
    Calls Tryz.prog 71 #[.slice A l.length c, opv o] w fun e w' => ∃ v, e = .returned (.tuple #[v, .int .i64 (doI l o).2.1, sv (doI l o).2.2]) ∧ RdV kItem w' v (doI l o).1 ∧ Below w.heap.size w w' := by
  have HO' := Lib.hid ho
  obtain ⟨ho1, ho2, ho3⟩ := ho
  have HR0 := Aside0.mk (Kd.C_below HR.out ((Below.refl _ _).alloc (Nat.le_refl _) (.cells #[.int .i64 o.kind, sv o.path, sv o.dest, sv o.data] 31)))
  have HB0 := Aside0.mk ((Below.refl w.heap.size w).alloc (Nat.le_refl _) (.cells #[.int .i64 o.kind, sv o.path, sv o.dest, sv o.data] 31))
  by_cases h2 : folderC l o.path = 2
  · have HF := Lib.hid (show doI l o = (l, 2, []) by simp only [doI, if_pos h2])
    have h2b : (folderC l o.path == 2) = true := by simpa using h2
    clear h2
    go_enter Tryz.func71, Tryz.ntmps71
    go_wp2_with (go_at_call 126; refine (specFolder _ c l _ _ HR0 hl).mono ?_; rintro e w3 ⟨rfl, rfl⟩)
    go_ret3
    exact ⟨_, by rw [HF.out]; rfl, by rw [HF.out]; exact RdV.below (RdV.mk' hc HR) HB0.out, HB0.out⟩
  have h2b : (folderC l o.path == 2) = false := by simpa using h2
  by_cases h5 : o.kind = 5
  · have HF := Lib.hid (show doI l o = ((dropI l o).1, (dropI l o).2, []) by simp only [doI, if_neg h2, if_pos h5])
    have h5b : (o.kind == 5) = true := by simpa using h5
    clear h2 h5
    go_enter Tryz.func71, Tryz.ntmps71
    go_wp2_with (first
      | (go_at_call 126; refine (specFolder _ c l _ _ HR0 hl).mono ?_; rintro e w3 ⟨rfl, rfl⟩)
      | (go_at_call 132; refine (specDrop A c l o _ HR0 hc hl HO'.out).mono ?_; rintro e w3 ⟨v, rfl, hr, hb⟩; obtain ⟨A1, c1, rfl, hc1, hr⟩ := hr; have HR1 := Aside0.mk hr; have HB := Aside0.mk (below_box hb); clear hb hr))
    go_ret3
    exact ⟨_, by rw [HF.out]; rfl, by rw [HF.out]; exact RdV.mk' hc1 HR1, HB.out⟩
  have h5b : (o.kind == 5) = false := by simpa using h5
  by_cases h6 : o.kind = 6
  · have HF := Lib.hid (show doI l o = ((moveI l o).1, (moveI l o).2, []) by simp only [doI, if_neg h2, if_neg h5, if_pos h6])
    have h6b : (o.kind == 6) = true := by simpa using h6
    clear h2 h5 h6
    go_enter Tryz.func71, Tryz.ntmps71
    go_wp2_with (first
      | (go_at_call 126; refine (specFolder _ c l _ _ HR0 hl).mono ?_; rintro e w3 ⟨rfl, rfl⟩)
      | (go_at_call 133; refine (specMove A c l o _ HR0 hc hl HO'.out).mono ?_; rintro e w3 ⟨v, rfl, hr, hb⟩; obtain ⟨A1, c1, rfl, hc1, hr⟩ := hr; have HR1 := Aside0.mk hr; have HB := Aside0.mk (below_box hb); clear hb hr))
    go_ret3
    exact ⟨_, by rw [HF.out]; rfl, by rw [HF.out]; exact RdV.mk' hc1 HR1, HB.out⟩
  have h6b : (o.kind == 6) = false := by simpa using h6
  have FOL := fun (w3 : World) (hb : Below w.heap.size w w3) => specFolder A c l o.path w3 ⟨Kd.C_below HR.out hb⟩ hl
  by_cases h4 : ((folderC l o.path == 0) == (o.kind == 7)) = true
  · have hne : ((folderC l o.path == 0) != (o.kind == 7)) = false := by simp only [bne, h4]; rfl
    by_cases h7 : o.kind = 7
    · have HF := Lib.hid (show doI l o = (l, 0, namesText l o.path) by simp only [doI, if_neg h2, if_neg h5, if_neg h6, hne, if_pos h7]; rfl)
      have h7b : (o.kind == 7) = true := by simpa using h7
      have h0b : (folderC l o.path == 0) = true := by rw [h7b] at h4; simpa using h4
      clear h2 h5 h6 h4 hne h7
      go_enter Tryz.func71, Tryz.ntmps71
      go_wp2_with (first
        | (go_at_call 126; refine (FOL _ HB0.out).mono ?_; rintro e w3 ⟨rfl, rfl⟩)
        | (go_at_call 134; refine (specNames12 A c l o.path _ HR0 hl hl11).mono ?_; rintro e w3 ⟨rfl, hb⟩; have HB := Aside0.mk (below_box hb); clear hb))
      go_ret3
      exact ⟨_, by rw [HF.out]; rfl, by rw [HF.out]; exact RdV.below (RdV.mk' hc HR) HB.out, HB.out⟩
    have h7b : (o.kind == 7) = false := by simpa using h7
    have h0b : (folderC l o.path == 0) = false := by rw [h7b] at h4; simpa using h4
    have HX := find_of_folder h2 (by simpa using h0b)
    by_cases hk : o.kind = 4
    · have HF := Lib.hid (show doI l o = (l, 0, (getI l (find l o.path)).data) by simp only [doI, if_neg h2, if_neg h5, if_neg h6, hne, if_neg h7, if_pos hk]; rfl)
      have hkb : (o.kind == 4) = true := by simpa using hk
      clear h2 h5 h6 h4 hne h7 hk
      obtain ⟨ad, rfl, f0, f1, f2⟩ := at_ItemZ HR0.out _ HX.1 HX.2
      go_enter Tryz.func71, Tryz.ntmps71
      go_wp2_with (first
        | (go_at_call 126; refine (FOL _ HB0.out).mono ?_; rintro e w3 ⟨rfl, rfl⟩)
        | (go_at_call 64; refine (specFind _ c l _ _ HR0 hl).mono ?_; rintro e w3 ⟨rfl, rfl⟩)
        | go_quiet (fail))
      go_ret3
      exact ⟨_, by rw [HF.out]; rfl, by rw [HF.out]; exact RdV.below (RdV.mk' hc HR) (below_drewN HB0.out _), below_drewN HB0.out _⟩
    · have hkb : (o.kind == 4) = false := by simpa using hk
      have HF := Lib.hid (show doI l o = (l.set (find l o.path).toNat ⟨(getI l (find l o.path)).path, (getI l (find l o.path)).dir, o.data⟩, 0, []) by simp only [doI, if_neg h2, if_neg h5, if_neg h6, hne, if_neg h7, if_neg hk]; rfl)
      clear h2 h5 h6 h4 hne h7 hk
      go_enter Tryz.func71, Tryz.ntmps71
      go_wp2_with (first
        | (go_at_call 126; refine (FOL _ HB0.out).mono ?_; rintro e w3 ⟨rfl, rfl⟩)
        | (go_at_call 64; refine (specFind _ c l _ _ HR0 hl).mono ?_; rintro e w3 ⟨rfl, rfl⟩)
        | ((with_reducible refine gate_b (b := .append) (xs := #[.tmp 76, .tmp 77]) rfl ?_); at_builtin; refine appIs (w0 := (w.alloc (.cells #[.int .i64 o.kind, sv o.path, sv o.dest, sv o.data] 31))) (base := (w.alloc (.cells #[.int .i64 o.kind, sv o.path, sv o.dest, sv o.data] 31)).heap.size) rfl (s := .tmp 76) (x := .tmp 77) rfl _ [] l A c rfl rfl ⟨own_emptyB _ (by first | rfl | simp) (by simp)⟩ ⟨Kd.C_below HR0.out (by repeat (first | exact Below.refl _ _ | apply below_alloc | apply below_drew))⟩ ⟨by repeat (first | exact Below.refl _ _ | apply below_alloc | apply below_drew)⟩ (by first | omega | (simp; done) | (simp; omega)) (by simp; omega) ?_; intro v1 w2 HO1 HB1 HG1 _; obtain ⟨g1, c1, rfl⟩ := own_form HO1.out (by simp only [List.nil_append]; omega); obtain ⟨⟨a10, a11, a12, a13⟩, b10, b11, b12, b13⟩ := blk4 (blk_below (box1 _ _) HB1.out); clear HG1)
        | ((with_reducible refine gate_store (t := 9) (p := 84) (v := .tmp 82) rfl ?_); refine storeI (w0 := (w.alloc (.cells #[.int .i64 o.kind, sv o.path, sv o.dest, sv o.data] 31))) (o' := (find l o.path).toNat * 3 + 2) rfl rfl rfl (find l o.path) 2 ([] ++ l) ⟨(getI l (find l o.path)).path, (getI l (find l o.path)).dir, o.data⟩ (sv o.data) (by decide) rfl rfl rfl rfl sizeS rfl HO1 HX.1 (by simpa using HX.2) rfl HB1 ?_; intro w3 HO2 HB2 HG2))
      go_ret3
      exact ⟨_, by rw [HF.out]; rfl, by rw [HF.out]; exact RdV.of_own HO2.out, below_box HB2.out⟩
  · have hne : ((folderC l o.path == 0) != (o.kind == 7)) = true := by
      simp only [bne]
      simpa using h4
    have hq : ((folderC l o.path == 0) == (o.kind == 7)) = false := by simpa using h4
    have HF := Lib.hid (show doI l o = (l, 4, []) by simp only [doI, if_neg h2, if_neg h5, if_neg h6, hne, if_true])
    clear h2 h5 h6 h4 hne
    go_enter Tryz.func71, Tryz.ntmps71
    go_wp2_with (go_at_call 126; refine (FOL _ HB0.out).mono ?_; rintro e w3 ⟨rfl, rfl⟩)
    go_ret3
    exact ⟨_, by rw [HF.out]; rfl, by rw [HF.out]; exact RdV.below (RdV.mk' hc HR) HB0.out, HB0.out⟩
def plainI (l : List Item) (o : OpR) : List Item × Int × Str :=
  if itemsOk l = false then (l, 1, [])
  else if opOk o = false then (l, 1, [])
  else if (o.kind == 1 || o.kind == 2) = true then ((newI l o).1, (newI l o).2, []) else doI l o

set_option maxHeartbeats 4000000 in
theorem specPlain (A : Option Addr) (c : Nat) (l : List Item) (o : OpR) (w : World) (HR : Aside0 (Kd.C kItem w A l.length l)) (hc : l.length ≤ c) (hl : smallI l) (ho : smallO o) :
    Calls Tryz.prog 13 #[.slice A l.length c, opv o] w fun e w' => ∃ v, e = .returned (.tuple #[v, .int .i64 (plainI l o).2.1, sv (plainI l o).2.2]) ∧ RdV kItem w' v (plainI l o).1 ∧ Below w.heap.size w w' := by
  have HO' := Lib.hid ho
  have hlen := hl.1
  rcases Bool.eq_false_or_eq_true (itemsOk l) with h1 | h1
  · rcases Bool.eq_false_or_eq_true (opOk o) with h2 | h2
    · have h11 : l.length ≤ 11 := by
        have := h1
        simp only [itemsOk, Bool.and_eq_true, decide_eq_true_eq] at this
        omega
      by_cases h3 : o.kind = 1
      · have HF := Lib.hid (show plainI l o = ((newI l o).1, (newI l o).2, []) by simp [plainI, h1, h2, h3])
        have h3b : (o.kind == 1) = true := by simpa using h3
        clear h3
        go_enter Tryz.func13, Tryz.ntmps13
        go_wp2_with (first
          | ((with_reducible refine gate_b (b := .append) (xs := #[.tmp 13, .tmp 14]) rfl ?_); at_builtin; refine appIs (w0 := (w.alloc (.cells #[.int .i64 o.kind, sv o.path, sv o.dest, sv o.data] 31))) (base := (w.alloc (.cells #[.int .i64 o.kind, sv o.path, sv o.dest, sv o.data] 31)).heap.size) rfl (s := .tmp 13) (x := .tmp 14) rfl _ [] l A c rfl rfl ⟨own_emptyB _ (by first | rfl | simp) (by simp)⟩ ⟨Kd.C_below HR.out (by repeat (first | exact Below.refl _ _ | apply below_alloc | apply below_drew))⟩ ⟨by repeat (first | exact Below.refl _ _ | apply below_alloc | apply below_drew)⟩ (by first | omega | (simp; done) | (simp; omega)) (by simp; omega) ?_; intro v1 w2 HO1 HB1 HG1 _; obtain ⟨A1, c1, rfl, hc1, hr1⟩ := RdV.of_own HO1.out; simp only [List.nil_append] at HO1 hr1 hc1 ⊢; have HR1 := Aside0.mk hr1; obtain ⟨⟨a10, a11, a12, a13⟩, b10, b11, b12, b13⟩ := blk4 (blk_below (box1 _ _) HB1.out); clear HG1 hr1; have HB := Aside0.mk (below_box HB1.out); have HR0 := Aside0.mk (Kd.C_below HR.out HB.out))
          | (go_at_call 62; refine (specItemsOk A c l _ HR0 hl).mono ?_; rintro e w3 ⟨rfl, hb⟩; obtain ⟨⟨a20, a21, a22, a23⟩, b20, b21, b22, b23⟩ := blk4 (blk_below (blk_below (box1 _ _) HB1.out) hb); have HB2 := Aside0.mk (below_then HB.out HB.out.size hb); have HR2 := Aside0.mk (Kd.C_below HR1.out hb); have hb2 := Aside0.mk hb; clear hb)
          | (go_at_call 69; refine (specOk o _ HO'.out).mono ?_; rintro e w4 ⟨rfl, hb⟩; obtain ⟨⟨a30, a31, a32, a33⟩, b30, b31, b32, b33⟩ := blk4 (blk_below (blk_below (blk_below (box1 _ _) HB1.out) hb2.out) hb); have HB3 := Aside0.mk (below_then HB2.out HB2.out.size hb); have HR3 := Aside0.mk (Kd.C_below HR2.out hb); clear hb)
          | (go_at_call 70; refine (specNew A1 c1 l o _ HR3 hc1 hl HO'.out).mono ?_; rintro e w5 ⟨v, rfl, hr, hb⟩; obtain ⟨A2, c2, rfl, hc2, hr⟩ := hr; have HR4 := Aside0.mk hr; have HB4 := Aside0.mk (below_then HB3.out HB3.out.size hb); clear hb hr))
        go_ret3
        exact ⟨_, by rw [HF.out]; rfl, by rw [HF.out]; exact RdV.mk' hc2 HR4, HB4.out⟩
      · have h3b : (o.kind == 1) = false := by simpa using h3
        by_cases h4 : o.kind = 2
        · have HF := Lib.hid (show plainI l o = ((newI l o).1, (newI l o).2, []) by simp [plainI, h1, h2, h4])
          have h4b : (o.kind == 2) = true := by simpa using h4
          clear h3 h4
          go_enter Tryz.func13, Tryz.ntmps13
          go_wp2_with (first
            | ((with_reducible refine gate_b (b := .append) (xs := #[.tmp 13, .tmp 14]) rfl ?_); at_builtin; refine appIs (w0 := (w.alloc (.cells #[.int .i64 o.kind, sv o.path, sv o.dest, sv o.data] 31))) (base := (w.alloc (.cells #[.int .i64 o.kind, sv o.path, sv o.dest, sv o.data] 31)).heap.size) rfl (s := .tmp 13) (x := .tmp 14) rfl _ [] l A c rfl rfl ⟨own_emptyB _ (by first | rfl | simp) (by simp)⟩ ⟨Kd.C_below HR.out (by repeat (first | exact Below.refl _ _ | apply below_alloc | apply below_drew))⟩ ⟨by repeat (first | exact Below.refl _ _ | apply below_alloc | apply below_drew)⟩ (by first | omega | (simp; done) | (simp; omega)) (by simp; omega) ?_; intro v1 w2 HO1 HB1 HG1 _; obtain ⟨A1, c1, rfl, hc1, hr1⟩ := RdV.of_own HO1.out; simp only [List.nil_append] at HO1 hr1 hc1 ⊢; have HR1 := Aside0.mk hr1; obtain ⟨⟨a10, a11, a12, a13⟩, b10, b11, b12, b13⟩ := blk4 (blk_below (box1 _ _) HB1.out); clear HG1 hr1; have HB := Aside0.mk (below_box HB1.out); have HR0 := Aside0.mk (Kd.C_below HR.out HB.out))
            | (go_at_call 62; refine (specItemsOk A c l _ HR0 hl).mono ?_; rintro e w3 ⟨rfl, hb⟩; obtain ⟨⟨a20, a21, a22, a23⟩, b20, b21, b22, b23⟩ := blk4 (blk_below (blk_below (box1 _ _) HB1.out) hb); have HB2 := Aside0.mk (below_then HB.out HB.out.size hb); have HR2 := Aside0.mk (Kd.C_below HR1.out hb); have hb2 := Aside0.mk hb; clear hb)
            | (go_at_call 69; refine (specOk o _ HO'.out).mono ?_; rintro e w4 ⟨rfl, hb⟩; obtain ⟨⟨a30, a31, a32, a33⟩, b30, b31, b32, b33⟩ := blk4 (blk_below (blk_below (blk_below (box1 _ _) HB1.out) hb2.out) hb); have HB3 := Aside0.mk (below_then HB2.out HB2.out.size hb); have HR3 := Aside0.mk (Kd.C_below HR2.out hb); clear hb)
            | (go_at_call 70; refine (specNew A1 c1 l o _ HR3 hc1 hl HO'.out).mono ?_; rintro e w5 ⟨v, rfl, hr, hb⟩; obtain ⟨A2, c2, rfl, hc2, hr⟩ := hr; have HR4 := Aside0.mk hr; have HB4 := Aside0.mk (below_then HB3.out HB3.out.size hb); clear hb hr))
          go_ret3
          exact ⟨_, by rw [HF.out]; rfl, by rw [HF.out]; exact RdV.mk' hc2 HR4, HB4.out⟩
        · have h4b : (o.kind == 2) = false := by simpa using h4
          have HF := Lib.hid (show plainI l o = doI l o by simp [plainI, h1, h2, h3, h4])
          clear h3 h4
          go_enter Tryz.func13, Tryz.ntmps13
          go_wp2_with (first
            | ((with_reducible refine gate_b (b := .append) (xs := #[.tmp 13, .tmp 14]) rfl ?_); at_builtin; refine appIs (w0 := (w.alloc (.cells #[.int .i64 o.kind, sv o.path, sv o.dest, sv o.data] 31))) (base := (w.alloc (.cells #[.int .i64 o.kind, sv o.path, sv o.dest, sv o.data] 31)).heap.size) rfl (s := .tmp 13) (x := .tmp 14) rfl _ [] l A c rfl rfl ⟨own_emptyB _ (by first | rfl | simp) (by simp)⟩ ⟨Kd.C_below HR.out (by repeat (first | exact Below.refl _ _ | apply below_alloc | apply below_drew))⟩ ⟨by repeat (first | exact Below.refl _ _ | apply below_alloc | apply below_drew)⟩ (by first | omega | (simp; done) | (simp; omega)) (by simp; omega) ?_; intro v1 w2 HO1 HB1 HG1 _; obtain ⟨A1, c1, rfl, hc1, hr1⟩ := RdV.of_own HO1.out; simp only [List.nil_append] at HO1 hr1 hc1 ⊢; have HR1 := Aside0.mk hr1; obtain ⟨⟨a10, a11, a12, a13⟩, b10, b11, b12, b13⟩ := blk4 (blk_below (box1 _ _) HB1.out); clear HG1 hr1; have HB := Aside0.mk (below_box HB1.out); have HR0 := Aside0.mk (Kd.C_below HR.out HB.out))
            | (go_at_call 62; refine (specItemsOk A c l _ HR0 hl).mono ?_; rintro e w3 ⟨rfl, hb⟩; obtain ⟨⟨a20, a21, a22, a23⟩, b20, b21, b22, b23⟩ := blk4 (blk_below (blk_below (box1 _ _) HB1.out) hb); have HB2 := Aside0.mk (below_then HB.out HB.out.size hb); have HR2 := Aside0.mk (Kd.C_below HR1.out hb); have hb2 := Aside0.mk hb; clear hb)
            | (go_at_call 69; refine (specOk o _ HO'.out).mono ?_; rintro e w4 ⟨rfl, hb⟩; obtain ⟨⟨a30, a31, a32, a33⟩, b30, b31, b32, b33⟩ := blk4 (blk_below (blk_below (blk_below (box1 _ _) HB1.out) hb2.out) hb); have HB3 := Aside0.mk (below_then HB2.out HB2.out.size hb); have HR3 := Aside0.mk (Kd.C_below HR2.out hb); clear hb)
            | (go_at_call 71; refine (specDo A1 c1 l o _ HR3 hc1 hl h11 HO'.out).mono ?_; rintro e w5 ⟨v, rfl, hr, hb⟩; obtain ⟨A2, c2, rfl, hc2, hr⟩ := hr; have HR4 := Aside0.mk hr; have HB4 := Aside0.mk (below_then HB3.out HB3.out.size hb); clear hb hr))
          go_ret3
          exact ⟨_, by rw [HF.out]; rfl, by rw [HF.out]; exact RdV.mk' hc2 HR4, HB4.out⟩
    · have HF := Lib.hid (show plainI l o = (l, 1, []) by simp [plainI, h1, h2])
      go_enter Tryz.func13, Tryz.ntmps13
      go_wp2_with (first
        | ((with_reducible refine gate_b (b := .append) (xs := #[.tmp 13, .tmp 14]) rfl ?_); at_builtin; refine appIs (w0 := (w.alloc (.cells #[.int .i64 o.kind, sv o.path, sv o.dest, sv o.data] 31))) (base := (w.alloc (.cells #[.int .i64 o.kind, sv o.path, sv o.dest, sv o.data] 31)).heap.size) rfl (s := .tmp 13) (x := .tmp 14) rfl _ [] l A c rfl rfl ⟨own_emptyB _ (by first | rfl | simp) (by simp)⟩ ⟨Kd.C_below HR.out (by repeat (first | exact Below.refl _ _ | apply below_alloc | apply below_drew))⟩ ⟨by repeat (first | exact Below.refl _ _ | apply below_alloc | apply below_drew)⟩ (by first | omega | (simp; done) | (simp; omega)) (by simp; omega) ?_; intro v1 w2 HO1 HB1 HG1 _; obtain ⟨A1, c1, rfl, hc1, hr1⟩ := RdV.of_own HO1.out; simp only [List.nil_append] at HO1 hr1 hc1 ⊢; have HR1 := Aside0.mk hr1; obtain ⟨⟨a10, a11, a12, a13⟩, b10, b11, b12, b13⟩ := blk4 (blk_below (box1 _ _) HB1.out); clear HG1 hr1; have HB := Aside0.mk (below_box HB1.out); have HR0 := Aside0.mk (Kd.C_below HR.out HB.out))
        | (go_at_call 62; refine (specItemsOk A c l _ HR0 hl).mono ?_; rintro e w3 ⟨rfl, hb⟩; obtain ⟨⟨a20, a21, a22, a23⟩, b20, b21, b22, b23⟩ := blk4 (blk_below (blk_below (box1 _ _) HB1.out) hb); have HB2 := Aside0.mk (below_then HB.out HB.out.size hb); have HR2 := Aside0.mk (Kd.C_below HR1.out hb); have hb2 := Aside0.mk hb; clear hb)
        | (go_at_call 69; refine (specOk o _ HO'.out).mono ?_; rintro e w4 ⟨rfl, hb⟩; obtain ⟨⟨a30, a31, a32, a33⟩, b30, b31, b32, b33⟩ := blk4 (blk_below (blk_below (blk_below (box1 _ _) HB1.out) hb2.out) hb); have HB3 := Aside0.mk (below_then HB2.out HB2.out.size hb); have HR3 := Aside0.mk (Kd.C_below HR2.out hb); clear hb))
      go_ret3
      exact ⟨_, by rw [HF.out]; rfl, by rw [HF.out]; exact RdV.mk' hc1 HR3, HB3.out⟩
  · have HF := Lib.hid (show plainI l o = (l, 1, []) by simp [plainI, h1])
    go_enter Tryz.func13, Tryz.ntmps13
    go_wp2_with (first
      | ((with_reducible refine gate_b (b := .append) (xs := #[.tmp 13, .tmp 14]) rfl ?_); at_builtin; refine appIs (w0 := (w.alloc (.cells #[.int .i64 o.kind, sv o.path, sv o.dest, sv o.data] 31))) (base := (w.alloc (.cells #[.int .i64 o.kind, sv o.path, sv o.dest, sv o.data] 31)).heap.size) rfl (s := .tmp 13) (x := .tmp 14) rfl _ [] l A c rfl rfl ⟨own_emptyB _ (by first | rfl | simp) (by simp)⟩ ⟨Kd.C_below HR.out (by repeat (first | exact Below.refl _ _ | apply below_alloc | apply below_drew))⟩ ⟨by repeat (first | exact Below.refl _ _ | apply below_alloc | apply below_drew)⟩ (by first | omega | (simp; done) | (simp; omega)) (by simp; omega) ?_; intro v1 w2 HO1 HB1 HG1 _; obtain ⟨A1, c1, rfl, hc1, hr1⟩ := RdV.of_own HO1.out; simp only [List.nil_append] at HO1 hr1 hc1 ⊢; have HR1 := Aside0.mk hr1; obtain ⟨⟨a10, a11, a12, a13⟩, b10, b11, b12, b13⟩ := blk4 (blk_below (box1 _ _) HB1.out); clear HG1 hr1; have HB := Aside0.mk (below_box HB1.out); have HR0 := Aside0.mk (Kd.C_below HR.out HB.out))
      | (go_at_call 62; refine (specItemsOk A c l _ HR0 hl).mono ?_; rintro e w3 ⟨rfl, hb⟩; obtain ⟨⟨a20, a21, a22, a23⟩, b20, b21, b22, b23⟩ := blk4 (blk_below (blk_below (box1 _ _) HB1.out) hb); have HB2 := Aside0.mk (below_then HB.out HB.out.size hb); have HR2 := Aside0.mk (Kd.C_below HR1.out hb); have hb2 := Aside0.mk hb; clear hb)
      | (go_at_call 69; refine (specOk o _ HO'.out).mono ?_; rintro e w4 ⟨rfl, hb⟩; obtain ⟨⟨a30, a31, a32, a33⟩, b30, b31, b32, b33⟩ := blk4 (blk_below (blk_below (blk_below (box1 _ _) HB1.out) hb2.out) hb); have HB3 := Aside0.mk (below_then HB2.out HB2.out.size hb); have HR3 := Aside0.mk (Kd.C_below HR2.out hb); clear hb))
    go_ret3
    exact ⟨_, by rw [HF.out]; rfl, by rw [HF.out]; exact RdV.mk' hc1 HR2, HB2.out⟩
end Go.Proofs.YtijeoadfgjpefaaGreatDoor
