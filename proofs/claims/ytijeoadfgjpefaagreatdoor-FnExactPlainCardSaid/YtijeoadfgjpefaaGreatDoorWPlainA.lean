/- The walks of the reference's l12New and l12Drop. Conditions: lengths below 16777216. The walks of the reference's l12Drop and l12Names. Conditions: lengths below 16777216. -/
import Derived.Test.YtijeoadfgjpefaaGreatDoorBase
import Derived.Test.YtijeoadfgjpefaaGreatDoorWList
import Derived.RegionTactic
import Derived.Deep.RegionLaw
import Derived.Test.YtijeoadfgjpefaaGreatDoorWNode
namespace Go.Proofs.YtijeoadfgjpefaaGreatDoor
open Go.RowKit Go.Proofs.YtijeoadfgjpefaaGreatDoorW.PrintWords
set_option linter.unusedSimpArgs false
set_option linter.unusedVariables false

def newI (l : List Item) (o : OpR) : List Item × Int :=
  if o.path = [] then (l, 3) else if 0 ≤ find l o.path then (l, 3)
  else if folderC l (split o.path).1 != 0 then (l, folderC l (split o.path).1)
  else if l.length = 11 then (l, 5) else (l ++ [⟨o.path, o.kind == 2, []⟩], 0)

set_option maxHeartbeats 4000000 in
theorem specNew (A : Option Addr) (c : Nat) (l : List Item) (o : OpR) (w : World) (HR : Aside0 (Kd.C kItem w A l.length l)) (hc : l.length ≤ c) (hl : smallI l) (ho : smallO o) :
    Calls Tryz.prog 70 #[.slice A l.length c, opv o] w fun e w' => ∃ v, e = .returned (.tuple #[v, .int .i64 (newI l o).2]) ∧ RdV kItem w' v (newI l o).1 ∧ Below w.heap.size w w' := by
  have hlen := hl.1
  have ho1 := ho.1
  by_cases h1 : o.path = []
  · have HF := Lib.hid (show newI l o = (l, 3) by simp [newI, h1])
    have he : o.path.isEmpty = true := by simpa using h1
    clear h1
    go_enter Tryz.func70, Tryz.ntmps70
    go_wp2
    go_ret2
    exact ⟨_, by rw [HF.out]; rfl, by rw [HF.out]; exact RdV.below (RdV.mk' hc HR) ((Below.refl _ _).alloc (Nat.le_refl _) _), (Below.refl _ _).alloc (Nat.le_refl _) _⟩
  have he : o.path.isEmpty = false := by simpa using h1
  by_cases h2 : 0 ≤ find l o.path
  · have HF := Lib.hid (show newI l o = (l, 3) by simp [newI, h1, h2])
    clear h1
    go_enter Tryz.func70, Tryz.ntmps70
    go_wp2_with (go_at_call 64; refine (specFind _ c l _ _ ⟨Kd.C_below HR.out ((Below.refl _ _).alloc (Nat.le_refl _) _)⟩ hl).mono ?_; rintro e w1 ⟨rfl, rfl⟩)
    go_ret2
    exact ⟨_, by rw [HF.out]; rfl, by rw [HF.out]; exact RdV.below (RdV.mk' hc HR) ((Below.refl _ _).alloc (Nat.le_refl _) _), (Below.refl _ _).alloc (Nat.le_refl _) _⟩
  have hS := (split_le o.path).1
  rcases Bool.eq_false_or_eq_true (folderC l (split o.path).1 != 0) with h3 | h3
  · have HF := Lib.hid (show newI l o = (l, folderC l (split o.path).1) by simp only [newI, if_neg h1, if_neg h2, h3, if_true])
    clear h1
    go_enter Tryz.func70, Tryz.ntmps70
    go_wp2_with (first
      | (go_at_call 64; refine (specFind _ c l _ _ ⟨Kd.C_below HR.out ((Below.refl _ _).alloc (Nat.le_refl _) _)⟩ hl).mono ?_; rintro e w1 ⟨rfl, rfl⟩)
      | (go_at_call 125; refine (specSplit _ _ (by omega)).mono ?_; rintro e w1 ⟨rfl, hb⟩; obtain ⟨hc1, hf1⟩ := bcell hb; have HB1 := Aside0.mk (below_box hb); clear hb)
      | (go_at_call 126; refine (specFolder _ c l _ _ ⟨Kd.C_below HR.out HB1.out⟩ hl).mono ?_; rintro e w1 ⟨rfl, rfl⟩))
    go_ret2
    exact ⟨_, by rw [HF.out]; rfl, by rw [HF.out]; exact RdV.below (RdV.mk' hc HR) HB1.out, HB1.out⟩
  by_cases h4 : l.length = 11
  · have HF := Lib.hid (show newI l o = (l, 5) by simp only [newI, if_neg h1, if_neg h2, h3, if_pos h4]; rfl)
    have h4b : ((l.length : Int) == 11) = true := by simp; omega
    clear h1 h4
    go_enter Tryz.func70, Tryz.ntmps70
    go_wp2_with (first
      | (go_at_call 64; refine (specFind _ c l _ _ ⟨Kd.C_below HR.out ((Below.refl _ _).alloc (Nat.le_refl _) _)⟩ hl).mono ?_; rintro e w1 ⟨rfl, rfl⟩)
      | (go_at_call 125; refine (specSplit _ _ (by omega)).mono ?_; rintro e w1 ⟨rfl, hb⟩; obtain ⟨hc1, hf1⟩ := bcell hb; have HB1 := Aside0.mk (below_box hb); clear hb)
      | (go_at_call 126; refine (specFolder _ c l _ _ ⟨Kd.C_below HR.out HB1.out⟩ hl).mono ?_; rintro e w1 ⟨rfl, rfl⟩))
    go_ret2
    exact ⟨_, by rw [HF.out]; rfl, by rw [HF.out]; exact RdV.below (RdV.mk' hc HR) HB1.out, HB1.out⟩
  · have HF := Lib.hid (show newI l o = (l ++ [⟨o.path, o.kind == 2, []⟩], 0) by simp only [newI, if_neg h1, if_neg h2, h3, if_neg h4]; rfl)
    have h4b : ((l.length : Int) == 11) = false := by simp; omega
    clear h1 h4
    go_enter Tryz.func70, Tryz.ntmps70
    go_wp2_with (first
      | (go_at_call 64; refine (specFind _ c l _ _ ⟨Kd.C_below HR.out ((Below.refl _ _).alloc (Nat.le_refl _) _)⟩ hl).mono ?_; rintro e w1 ⟨rfl, rfl⟩)
      | (go_at_call 125; refine (specSplit _ _ (by omega)).mono ?_; rintro e w1 ⟨rfl, hb⟩; have hz1 : w.heap.size < w1.heap.size := by { have := hb.size; simp at this; omega }; obtain ⟨hc1, hf1⟩ := bcell hb; have HB1 := Aside0.mk (below_box hb); clear hb)
      | (go_at_call 126; refine (specFolder _ c l _ _ ⟨Kd.C_below HR.out HB1.out⟩ hl).mono ?_; rintro e w1 ⟨rfl, rfl⟩))
    have HR1 := Aside0.mk (Kd.C_below HR.out HB1.out)
    have hp : ∀ W : World, kItem.M W w.heap.size (fun _ => False) ⟨o.path, o.kind == 2, []⟩ [sv o.path, .bool (o.kind == 2), sv []] := fun _ => ⟨[sv o.path], [.bool (o.kind == 2), sv []], rfl, rfl, [.bool (o.kind == 2)], [sv []], rfl, rfl, rfl⟩
    have hsz := HB1.out.size
    go_region_law (first
      | (refine appIs_step (w0 := w) (base := w.heap.size) (s := .tmp 39) (x := .tmp 40) rfl rfl _ [] l A c rfl rfl ?_ ⟨Kd.C_below HR1.out (by repeat (first | exact Below.refl _ _ | apply below_alloc | apply below_drew))⟩ ⟨by repeat (first | exact HB1.out | apply below_alloc | apply below_drew)⟩ (by first | omega | (simp; omega)) (by simp; omega) ?_
         · first | exact ⟨own_emptyB _ (by simp) (by first | omega | (simp; omega))⟩ | exact own_alloc ⟨own_emptyB _ (by simp) (by first | omega | (simp; omega))⟩ _
         intro v1 w2 HO2 HB2 HG2 _
         have hcx := grown_cell HG2.out (b := w.heap.size) (by simp; omega) (by intro e_; have e2 : _ = (Value.slice (some ⟨_, 0, none⟩) 0 0).ownBlock := e_; simp [Value.ownBlock] at e2; omega))
      | (refine appI_step (w0 := w) (base := w.heap.size) (s := .tmp 41) (x := .tmp 48) rfl rfl v1 ([] ++ l) ⟨o.path, o.kind == 2, []⟩ rfl rfl HO2 HB2 HB2.out.size (by simp; omega) ?_
         intro v2 w3 HO3 HB3 _ _)
      | (refine appIs_step (w0 := w) (base := w.heap.size) (s := .tmp 41) (x := .tmp 48) rfl rfl v1 ([] ++ l) [⟨o.path, o.kind == 2, []⟩] (some ⟨_, 0, none⟩) 1 rfl rfl HO2 ?_ HB2 HB2.out.size (by simp; omega) ?_
         · exact ⟨C_grown (fun h => h) (by first | exact C_oneI _ ⟨o.path, o.kind == 2, []⟩ (by first | rfl | simp) | exact Kd.C_below (C_oneI _ ⟨o.path, o.kind == 2, []⟩ (by first | rfl | simp)) (by repeat (first | exact Below.refl _ _ | apply below_alloc | apply below_drew))) HG2.out (by intro e_; have e2 : _ = (Value.slice (some ⟨_, 0, none⟩) 0 0).ownBlock := e_; simp [Value.ownBlock] at e2) (by first | (simp; done) | (simp; omega))⟩
         intro v2 w3 HO3 HB3 _ _))
    all_goals
      go_wp2
      go_ret2
      exact ⟨_, by rw [HF.out]; rfl, by rw [HF.out]; exact RdV.of_own HO3.out, HB3.out⟩
end Go.Proofs.YtijeoadfgjpefaaGreatDoor
namespace Go.Proofs.YtijeoadfgjpefaaGreatDoor
open Go.RowKit Go.Proofs.YtijeoadfgjpefaaGreatDoorW.PrintWords
set_option linter.unusedSimpArgs false
set_option linter.unusedVariables false

def dropI (l : List Item) (o : OpR) : List Item × Int :=
  if o.path = [] then (l, 6) else if kidsF l o.path then (l, 6) else (l.filter (fun x => x.path != o.path), 0)

set_option maxHeartbeats 1000000 in
theorem specDrop (A : Option Addr) (c : Nat) (l : List Item) (o : OpR) (w : World) (HR : Aside0 (Kd.C kItem w A l.length l)) (hc : l.length ≤ c) (hl : smallI l) (ho : smallO o) :
    Calls Tryz.prog 132 #[.slice A l.length c, opv o] w fun e w' => ∃ v, e = .returned (.tuple #[v, .int .i64 (dropI l o).2]) ∧ RdV kItem w' v (dropI l o).1 ∧ Below w.heap.size w w' := by
  have hlen := hl.1
  have ho1 := ho.1
  by_cases h1 : o.path = []
  · have HF := Lib.hid (show dropI l o = (l, 6) by simp [dropI, h1])
    have he : o.path.isEmpty = true := by simpa using h1
    clear h1
    go_enter Tryz.func132, Tryz.ntmps132
    go_wp2
    go_ret2
    exact ⟨_, by rw [HF.out]; rfl, by rw [HF.out]; exact RdV.below (RdV.mk' hc HR) ((Below.refl _ _).alloc (Nat.le_refl _) _), (Below.refl _ _).alloc (Nat.le_refl _) _⟩
  have he : o.path.isEmpty = false := by simpa using h1
  rcases Bool.eq_false_or_eq_true (kidsF l o.path) with h2 | h2
  · have HF := Lib.hid (show dropI l o = (l, 6) by simp [dropI, h1, h2])
    clear h1
    go_enter Tryz.func132, Tryz.ntmps132
    go_wp2_with (go_at_call 178; refine (specKids _ c l _ _ ⟨Kd.C_below HR.out ((Below.refl _ _).alloc (Nat.le_refl _) _)⟩ hl (by omega)).mono ?_; rintro e w1 ⟨rfl, hb⟩; have HB := Aside0.mk (below_box hb); clear hb)
    go_ret2
    exact ⟨_, by rw [HF.out]; rfl, by rw [HF.out]; exact RdV.below (RdV.mk' hc HR) HB.out, HB.out⟩
  · have HF := Lib.hid (show dropI l o = (l.filter (fun x => x.path != o.path), 0) by simp [dropI, h1, h2])
    clear h1
    go_enter Tryz.func132, Tryz.ntmps132
    go_wp2_with (go_at_call 178; refine (specKids _ c l _ _ ⟨Kd.C_below HR.out ((Below.refl _ _).alloc (Nat.le_refl _) _)⟩ hl (by omega)).mono ?_; rintro e w1 ⟨rfl, hb⟩; have BK := Aside0.mk (blk_below (box1 _ _) hb); have HB := Aside0.mk (below_box hb); clear hb)
    go_loopw [6, 7] (fun v i wr => ∃ (k : Nat) (xs : List Item), k ≤ l.length ∧ i = .int .i64 k ∧ xs.length ≤ k ∧ Aside0 (xs ++ (l.drop k).filter (fun x => x.path != o.path) = l.filter (fun x => x.path != o.path)) ∧
        Aside0 (Own kItem 83 wr w1.heap.size v xs) ∧ Aside0 (Below w1.heap.size w1 wr)) (fun _ i _ => l.length - (intOf i).toNat)
    case atStart => exact ⟨0, [], Nat.zero_le _, rfl, Nat.le_refl _, ⟨rfl⟩, ⟨own_empty w1 (Nat.le_refl _)⟩, ⟨(Below.refl _ _).alloc (Nat.le_refl _) _⟩⟩
    case round =>
      obtain ⟨k, xs, hk, rfl, hx, ha, HO, HB1⟩ := hrel
      have BKx := Aside0.mk (blk_below BK.out HB1.out)
      obtain ⟨⟨a0, a1, a2, a3⟩, b0, b1, b2, b3⟩ := blk4 BKx.out
      have hz := blk_lt BKx.out
      by_cases hlt : k < l.length
      · obtain ⟨ad, rfl, h0, hd1, hd2⟩ := at_Item (Kd.C_below HR.out (below_then HB.out HB.out.size HB1.out)) k hlt
        rcases Bool.eq_false_or_eq_true (l[k].path == o.path) with hp | hp
        · have HA := Aside0.mk (show xs ++ (l.drop (k + 1)).filter (fun x => x.path != o.path) = l.filter (fun x => x.path != o.path) by
            rw [← ha.out, List.drop_eq_getElem_cons hlt, List.filter_cons_of_neg (by simp only [bne, hp]; decide)])
          clear ha
          go_wp2
          go_quiet (fail)
          go_wp2
          go_roundw
          case rel => exact ⟨k + 1, xs, by omega, by go_num, by omega, HA, ⟨Kd.R_below HO.out (by repeat (first | exact Below.refl _ _ | apply pw_below_drewN))⟩, ⟨pw_below_drewN HB1.out _⟩⟩
          case measure => simp [intOf] <;> omega
        · have HA := Aside0.mk (show (xs ++ [l[k]]) ++ (l.drop (k + 1)).filter (fun x => x.path != o.path) = l.filter (fun x => x.path != o.path) by
            rw [← ha.out, List.drop_eq_getElem_cons hlt, List.filter_cons_of_pos (by simp only [bne, hp]; rfl)]; simp)
          clear ha
          go_wp2
          go_quiet (fail)
          go_wp2_with ((with_reducible refine gate_b (b := .append) (xs := #[.tmp 33, .tmp 38]) rfl ?_); at_builtin; refine appI rfl (s := .tmp 33) (x := .tmp 38) rfl u6 xs l[k] rfl rfl ⟨Kd.R_below HO.out (by repeat (first | exact Below.refl _ _ | apply pw_below_drewN))⟩ ⟨pw_below_drewN HB1.out _⟩ HB1.out.size (by omega) ?_; intro v1 w2 HO1 HB2 _ _)
          go_roundw
          case rel => exact ⟨k + 1, xs ++ [l[k]], by omega, by go_num, by simp; omega, HA, HO1, HB2⟩
          case measure => simp [intOf] <;> omega
      · have HA := Lib.hid (show xs = l.filter (fun x => x.path != o.path) by rw [← ha.out, List.drop_eq_nil_of_le (by omega)]; simp)
        clear ha
        go_wp2
        go_ret2
        exact ⟨_, by rw [HF.out]; rfl, by rw [HF.out, ← HA.out]; exact RdV.of_own HO.out, below_then HB.out HB.out.size HB1.out⟩
end Go.Proofs.YtijeoadfgjpefaaGreatDoor
