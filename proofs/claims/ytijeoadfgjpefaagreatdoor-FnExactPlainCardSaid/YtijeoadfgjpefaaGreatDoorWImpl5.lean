/- The walks of impl's within and plainDrop. Conditions: lengths below 8388608; bytealg.MaxLen holds some int. -/
import Derived.Test.YtijeoadfgjpefaaGreatDoorWDel
namespace Go.Proofs.YtijeoadfgjpefaaGreatDoor
open Go.RowKit Go.Proofs.YtijeoadfgjpefaaGreatDoorW.PrintWords
set_option linter.unusedSimpArgs false
set_option linter.unusedVariables false

theorem implWithin (m : Int) (p q : Str) (w : World) (hp : p.length ≤ 16777216) (hq : q.length ≤ 16777216) (HM : Aside0 (MX m w)) :
    Calls Tryz.prog 138 #[sv p, sv q] w fun e w' => e = .returned (.bool ((p != q) && under p q)) ∧ Below w.heap.size w w' := by
  rcases Bool.eq_false_or_eq_true (p == q) with h | h
  · have HF := Lib.hid (show ((p != q) && under p q) = false by simp only [bne, h]; rfl)
    go_enter Tryz.func138, Tryz.ntmps138
    go_wp2
    go_ret
    exact ⟨by rw [HF.out]; rfl, Below.refl _ _⟩
  · have HF := Lib.hid (show ((p != q) && under p q) = under p q by simp only [bne, h]; rfl)
    go_enter Tryz.func138, Tryz.ntmps138
    go_wp2_with (go_at_call 140; refine (implUnder m p q _ hp hq HM).mono ?_; rintro e w1 ⟨rfl, hb⟩; have HB := Aside0.mk hb; clear hb)
    go_ret
    exact ⟨by rw [HF.out]; rfl, HB.out⟩
theorem implDrop1 (m : Int) (x : Item) (o : OpR) (b : Nat) (w : World) (hx : x.path.length ≤ 16777216) (ho : o.path.length ≤ 16777216) (hb : w.heap[b]? = some (.cells #[.int .i64 o.kind, sv o.path, sv o.dest, sv o.data] 31 (0, 0))) (HM : Aside0 (MX m w)) :
    Calls Tryz.prog 137 #[itv x, .pointer (some ⟨b, 0, none⟩)] w fun e w' => e = .returned (.bool ((x.path != o.path) && under x.path o.path)) ∧ Below w.heap.size w w' := by
  have hlt := blk_lt hb
  obtain ⟨⟨a10, a11, a12, a13⟩, b10, b11, b12, b13⟩ := blk4 hb
  have HM1 := Aside0.mk (HM.out.below (Nat.le_refl _) ((Below.refl w.heap.size w).alloc (Nat.le_refl _) (.cells #[sv x.path, .bool x.dir, sv x.data] 83)))
  go_enter Tryz.func137, Tryz.ntmps137
  go_wp2_with (go_at_call 138; refine (implWithin m x.path o.path _ hx ho HM1).mono ?_; rintro e w1 ⟨rfl, hb⟩; have HB := Aside0.mk (below_box hb); clear hb)
  go_ret
  exact ⟨rfl, HB.out⟩

/-- What impl's plainDrop computes. -/
def dropM (l : List Item) (o : OpR) : List Item × Int :=
  if folderC l o.path = 2 then (l, 2)
  else if o.path.isEmpty = true then (l, 6)
  else if kidsF l o.path = true then (l, 6) else (l.eraseIdx (find l o.path).toNat, 0)
set_option maxHeartbeats 4000000 in
theorem implDrop (m : Int) (base : Nat) (v : Value) (l : List Item) (o : OpR) (w : World) (HO : Aside0 (Own kItem 83 w base v l)) (hbase : base ≤ w.heap.size) (hl : smallI l) (ho : smallO o) (HM : Aside0 (MX m w)) :
    Calls Tryz.prog 76 #[v, opv o] w fun e w' => ∃ v', e = .returned (.tuple #[v', .int .i64 (dropM l o).2]) ∧ Own kItem 83 w' base v' (dropM l o).1 ∧ Below base w w' := by
  obtain ⟨A, c, rfl, hc, hr⟩ := RdV.of_own HO.out
  have HR := Aside0.mk hr
  clear hr
  have HL := Lib.hid hl
  have hlen := hl.1
  have ho1 := ho.1
  have hmf : ∀ (fn : Fn) (first cap : Array Value) (w : World), (Instr.makeFunc fn first cap).run Tryz.prog w = .ok (.func fn first cap) w := fun _ _ _ _ => rfl
  have EG : ∀ args w, (callFunc 137 args).run Tryz.prog w = .ok (.enter 137 args) w := enters_of Tryz.func137 (by kernel_rfl) rfl
  have HB0 := Aside0.mk ((Below.refl w.heap.size w).alloc (Nat.le_refl _) (.cells #[.int .i64 o.kind, sv o.path, sv o.dest, sv o.data] 31))
  have BK0 := Aside0.mk (box1 w (.cells #[.int .i64 o.kind, sv o.path, sv o.dest, sv o.data] 31))
  by_cases h1 : folderC l o.path = 2
  · have HF := Lib.hid (show dropM l o = (l, 2) by simp only [dropM, if_pos h1])
    have h1b : (folderC l o.path == 2) = true := by simpa using h1
    clear h1
    go_enter Tryz.func76, Tryz.ntmps76
    go_wp2_with (first
      | (go_at_call 63; refine (implFind A c l _ _ ⟨Kd.C_below HR.out HB0.out⟩ hl).mono ?_; rintro e w1 ⟨rfl, hb⟩; have BK1 := Aside0.mk (blk_below BK0.out hb); obtain ⟨⟨a10, a11, a12, a13⟩, b10, b11, b12, b13⟩ := blk4 BK1.out; have HB1 := Aside0.mk (below_box hb); clear hb)
      | (go_at_call 135; refine (implThere A c l _ _ ⟨Kd.C_below HR.out HB1.out⟩ hl).mono ?_; rintro e w2 ⟨rfl, hb⟩; have HB2 := Aside0.mk (below_then HB1.out HB1.out.size hb); clear hb))
    go_ret2
    exact ⟨_, by rw [HF.out]; rfl, by rw [HF.out]; exact Kd.R_below HO.out HB2.out, HB2.out.mono hbase⟩
  have h1b : (folderC l o.path == 2) = false := by simpa using h1
  rcases Bool.eq_false_or_eq_true o.path.isEmpty with h2 | h2
  · have HF := Lib.hid (show dropM l o = (l, 6) by simp only [dropM, if_neg h1, if_pos h2])
    clear h1
    go_enter Tryz.func76, Tryz.ntmps76
    go_wp2_with (first
      | (go_at_call 63; refine (implFind A c l _ _ ⟨Kd.C_below HR.out HB0.out⟩ hl).mono ?_; rintro e w1 ⟨rfl, hb⟩; have BK1 := Aside0.mk (blk_below BK0.out hb); obtain ⟨⟨a10, a11, a12, a13⟩, b10, b11, b12, b13⟩ := blk4 BK1.out; have HB1 := Aside0.mk (below_box hb); clear hb)
      | (go_at_call 135; refine (implThere A c l _ _ ⟨Kd.C_below HR.out HB1.out⟩ hl).mono ?_; rintro e w2 ⟨rfl, hb⟩; obtain ⟨⟨a20, a21, a22, a23⟩, b20, b21, b22, b23⟩ := blk4 (blk_below BK1.out hb); have HB2 := Aside0.mk (below_then HB1.out HB1.out.size hb); clear hb))
    go_ret2
    exact ⟨_, by rw [HF.out]; rfl, by rw [HF.out]; exact Kd.R_below HO.out HB2.out, HB2.out.mono hbase⟩
  rcases Bool.eq_false_or_eq_true (kidsF l o.path) with h3 | h3
  · have HF := Lib.hid (show dropM l o = (l, 6) by simp [dropM, h1, h2, h3])
    have HK := Lib.hid (show (l.any fun x => (x.path != o.path) && under x.path o.path) = true from h3)
    clear h1
    go_enter Tryz.func76, Tryz.ntmps76
    go_wp2_with (first
      | (go_at_call 63; refine (implFind A c l _ _ ⟨Kd.C_below HR.out HB0.out⟩ hl).mono ?_; rintro e w1 ⟨rfl, hb⟩; have BK1 := Aside0.mk (blk_below BK0.out hb); obtain ⟨⟨a10, a11, a12, a13⟩, b10, b11, b12, b13⟩ := blk4 BK1.out; have HB1 := Aside0.mk (below_box hb); clear hb)
      | (go_at_call 135; refine (implThere A c l _ _ ⟨Kd.C_below HR.out HB1.out⟩ hl).mono ?_; rintro e w2 ⟨rfl, hb⟩; have BK2 := Aside0.mk (blk_below BK1.out hb); obtain ⟨⟨a20, a21, a22, a23⟩, b20, b21, b22, b23⟩ := blk4 BK2.out; have HB2 := Aside0.mk (below_then HB1.out HB1.out.size hb); clear hb)
      | (go_at_call 102; refine (implContainsFuncI 137 #[.pointer (some ⟨w.heap.size, 0, none⟩)] (fun x => (x.path != o.path) && under x.path o.path) A c l _ ⟨Kd.C_below HR.out HB2.out⟩ (by omega) EG ⟨fun x hx w3 hb => implDrop1 m x o w.heap.size w3 (by have := (HL.out.2 x hx).1; omega) (by omega) (blk_below BK2.out hb) ⟨(HM.out.below (Nat.le_refl _) HB2.out).below (Nat.le_refl _) hb⟩⟩).mono ?_; rintro e w3 ⟨rfl, hb⟩; rw [HK.out]; have HB3 := Aside0.mk (below_then HB2.out HB2.out.size hb); clear hb))
    go_ret2
    exact ⟨_, by rw [HF.out]; rfl, by rw [HF.out]; exact Kd.R_below HO.out HB3.out, HB3.out.mono hbase⟩
  · have HF := Lib.hid (show dropM l o = (l.eraseIdx (find l o.path).toNat, 0) by simp [dropM, h1, h2, h3])
    have HK := Lib.hid (show (l.any fun x => (x.path != o.path) && under x.path o.path) = false from h3)
    have h0 : folderC l o.path ≠ 2 ∧ o.path ≠ [] := ⟨h1, by intro e; rw [e] at h2; simp at h2⟩
    have HX : 0 ≤ find l o.path ∧ find l o.path < l.length := by
      obtain ⟨h4, h5⟩ := h0
      unfold folderC at h4
      rw [if_neg h5] at h4
      by_cases hf : find l o.path < 0
      · rw [if_pos hf] at h4; exact absurd rfl h4
      · rcases findF_range o.path l 0 with h | h
        · exact absurd (show find l o.path < 0 by rw [find, h]; decide) hf
        · exact ⟨by omega, by simpa using h.2⟩
    obtain ⟨k, hk⟩ : ∃ k : Nat, find l o.path = (k : Int) := ⟨(find l o.path).toNat, by omega⟩
    have HkF := Lib.hid hk
    rw [hk] at HX HF
    have hkl : k < l.length := by omega
    have FIN := fun w1 HR1 => hk ▸ implFind A c l o.path w1 HR1 hl
    clear h1 h0 hk HX
    go_enter Tryz.func76, Tryz.ntmps76
    go_wp2_with (first
      | (go_at_call 63; refine (FIN _ ⟨Kd.C_below HR.out HB0.out⟩).mono ?_; rintro e w1 ⟨rfl, hb⟩; have BK1 := Aside0.mk (blk_below BK0.out hb); obtain ⟨⟨a10, a11, a12, a13⟩, b10, b11, b12, b13⟩ := blk4 BK1.out; have HB1 := Aside0.mk (below_box hb); clear hb)
      | (go_at_call 135; refine (implThere A c l _ _ ⟨Kd.C_below HR.out HB1.out⟩ hl).mono ?_; rintro e w2 ⟨rfl, hb⟩; have BK2 := Aside0.mk (blk_below BK1.out hb); obtain ⟨⟨a20, a21, a22, a23⟩, b20, b21, b22, b23⟩ := blk4 BK2.out; have HB2 := Aside0.mk (below_then HB1.out HB1.out.size hb); clear hb)
      | (go_at_call 102; refine (implContainsFuncI 137 #[.pointer (some ⟨w.heap.size, 0, none⟩)] (fun x => (x.path != o.path) && under x.path o.path) A c l _ ⟨Kd.C_below HR.out HB2.out⟩ (by omega) EG ⟨fun x hx w3 hb => implDrop1 m x o w.heap.size w3 (by have := (HL.out.2 x hx).1; omega) (by omega) (blk_below BK2.out hb) ⟨(HM.out.below (Nat.le_refl _) HB2.out).below (Nat.le_refl _) hb⟩⟩).mono ?_; rintro e w3 ⟨rfl, hb⟩; rw [HK.out]; have HB3 := Aside0.mk (below_then HB2.out HB2.out.size hb); clear hb)
      | (go_at_call 139; refine (implDelete base _ l k _ hkl ⟨Kd.R_below HO.out HB3.out⟩ (Nat.le_trans hbase HB3.out.size) hlen).mono ?_; rintro e w4 ⟨v4, rfl, ho4, hb⟩; have HO4 := Aside0.mk ho4; have HB4 := Aside0.mk ((HB3.out.mono hbase).trans hb); clear hb ho4))
    go_ret2
    exact ⟨_, by rw [HF.out]; rfl, by rw [HF.out]; exact HO4.out, HB4.out⟩
end Go.Proofs.YtijeoadfgjpefaaGreatDoor
