/- The walks of impl's Find, isFolder, there, folderCode, ItemsOk, opOk. Conditions: lengths below 8388608; bytealg.MaxLen holds some int. The walks of impl's Clone and plainMake. Conditions: lengths below 8388608; bytealg.MaxLen holds some int. -/
import Derived.Test.YtijeoadfgjpefaaGreatDoorWImplA
import Derived.Test.YtijeoadfgjpefaaGreatDoorWList
import Derived.RegionTactic
import Derived.Deep.RegionLaw
namespace Go.Proofs.YtijeoadfgjpefaaGreatDoor
open Go.RowKit Go.Proofs.YtijeoadfgjpefaaGreatDoorW.PrintWords
set_option linter.unusedSimpArgs false
set_option linter.unusedVariables false

theorem implFind (A : Option Addr) (c : Nat) (l : List Item) (s : Str) (w : World) (HR : Aside0 (Kd.C kItem w A l.length l)) (hl : smallI l) :
    Calls Tryz.prog 63 #[.slice A l.length c, sv s] w fun e w' => e = .returned (.int .i64 (find l s)) ∧ Below w.heap.size w w' := by
  have EG : ∀ args w, (callFunc 128 args).run Tryz.prog w = .ok (.enter 128 args) w := enters_of Tryz.func128 (by kernel_rfl) rfl
  have hmf : ∀ (fn : Fn) (first cap : Array Value) (w : World), (Instr.makeFunc fn first cap).run Tryz.prog w = .ok (.func fn first cap) w := fun _ _ _ _ => rfl
  have HF := Lib.hid (show idxF (fun x => x.path == s) l 0 = find l s from idxF_find s l 0)
  have hln := hl.1
  go_enter Tryz.func63, Tryz.ntmps63
  go_wp2_with (go_at_call 127; refine (implIndexFuncI 128 #[.pointer (some ⟨w.heap.size, 0, none⟩)] (fun x => x.path == s) A c l _ ⟨Kd.C_below HR.out ((Below.refl _ _).alloc (Nat.le_refl _) _)⟩ (by omega) EG ⟨fun x _ w1 hb => implFind1 x s w.heap.size w1 ((blk_cell (blk_below (box1 _ _) hb) 0).trans rfl) (by have := hb.size; simp at this; omega)⟩).mono ?_; rintro e w1 ⟨rfl, hb⟩; have HB := Aside0.mk (below_box hb); clear hb)
  go_ret
  exact ⟨by rw [← HF.out]; rfl, HB.out⟩

def thereI (l : List Item) (p : Str) : Bool := p.isEmpty || decide (0 ≤ find l p)
def isFolI (l : List Item) (p : Str) : Bool := p.isEmpty || (decide (0 ≤ find l p) && (getI l (find l p)).dir)
theorem there_folder (l : List Item) (p : Str) : thereI l p = !(folderC l p == 2) := by
  unfold thereI folderC
  by_cases h : p = []
  · simp [h]
  · have he : p.isEmpty = false := by simpa using h
    rw [if_neg h, he]
    by_cases h2 : find l p < 0
    · rw [if_pos h2]; simp; omega
    · rw [if_neg h2]; split <;> simp <;> omega
theorem isFol_folder (l : List Item) (p : Str) : isFolI l p = (folderC l p == 0) := by
  unfold isFolI folderC
  by_cases h : p = []
  · simp [h]
  · have he : p.isEmpty = false := by simpa using h
    rw [if_neg h, he]
    by_cases h2 : find l p < 0
    · rw [if_pos h2]
      have : ¬ 0 ≤ find l p := by omega
      simp [this]
    · have h3 : 0 ≤ find l p := by omega
      rw [if_neg h2]; split <;> simp [*]
theorem MX.drewN {m : Int} {w : World} (h : MX m w) (n : Nat) : MX m (w.drewN n) := h
theorem folder_vals (l : List Item) (p : Str) : folderC l p = 0 ∨ folderC l p = 2 ∨ folderC l p = 4 := by
  unfold folderC
  split
  · exact .inl rfl
  · split
    · exact .inr (.inl rfl)
    · split
      · exact .inl rfl
      · exact .inr (.inr rfl)
theorem implThere (A : Option Addr) (c : Nat) (l : List Item) (p : Str) (w : World) (HR : Aside0 (Kd.C kItem w A l.length l)) (hl : smallI l) :
    Calls Tryz.prog 135 #[.slice A l.length c, sv p] w fun e w' => e = .returned (.bool (!(folderC l p == 2))) ∧ Below w.heap.size w w' := by
  have HF := Lib.hid (there_folder l p)
  rcases Bool.eq_false_or_eq_true p.isEmpty with h | h
  · have HG := Lib.hid (show thereI l p = true by simp [thereI, h])
    go_enter Tryz.func135, Tryz.ntmps135
    go_wp2
    go_ret
    exact ⟨by rw [← HF.out, HG.out]; rfl, Below.refl _ _⟩
  · have HG := Lib.hid (show thereI l p = decide (0 ≤ find l p) by simp [thereI, h])
    go_enter Tryz.func135, Tryz.ntmps135
    go_wp2_with (go_at_call 63; refine (implFind A c l p _ HR hl).mono ?_; rintro e w1 ⟨rfl, hb⟩; have HB := Aside0.mk hb; clear hb)
    go_ret
    exact ⟨by rw [← HF.out, HG.out]; simp, HB.out⟩
theorem implIsFolder (A : Option Addr) (c : Nat) (l : List Item) (p : Str) (w : World) (HR : Aside0 (Kd.C kItem w A l.length l)) (hl : smallI l) :
    Calls Tryz.prog 124 #[.slice A l.length c, sv p] w fun e w' => e = .returned (.bool (folderC l p == 0)) ∧ Below w.heap.size w w' := by
  have HF := Lib.hid (isFol_folder l p)
  have hr := findF_range p l 0
  rcases Bool.eq_false_or_eq_true p.isEmpty with h | h
  · have HG := Lib.hid (show isFolI l p = true by simp [isFolI, h])
    go_enter Tryz.func124, Tryz.ntmps124
    go_wp2_with (go_at_call 63; refine (implFind A c l p _ HR hl).mono ?_; rintro e w1 ⟨rfl, hb⟩; have HB := Aside0.mk hb; clear hb)
    all_goals
      go_ret
      exact ⟨by rw [← HF.out, HG.out]; rfl, HB.out⟩
  by_cases h2 : 0 ≤ find l p
  · have HG := Lib.hid (show isFolI l p = (getI l (find l p)).dir by simp [isFolI, h, h2])
    have h3 : find l p < l.length := by
      rcases hr with hr | hr
      · rw [show find l p = -1 from hr] at h2; omega
      · have := hr.2; show findF p l 0 < _; omega
    obtain ⟨ad, rfl, f0, f1, f2⟩ := at_ItemZ HR.out _ h2 h3
    clear hr
    go_enter Tryz.func124, Tryz.ntmps124
    go_wp2_with (go_at_call 63; refine (implFind _ c l p _ HR hl).mono ?_; rintro e w1 ⟨rfl, hb⟩; have HB := Aside0.mk hb; obtain ⟨ad', e', f0', f1', f2'⟩ := at_ItemZ (Kd.C_below HR.out hb) _ h2 h3; cases e'; clear hb f0 f1 f2)
    go_ret
    exact ⟨by rw [← HF.out, HG.out]; rfl, HB.out⟩
  · have HG := Lib.hid (show isFolI l p = false by simp [isFolI, h, h2])
    clear hr
    go_enter Tryz.func124, Tryz.ntmps124
    go_wp2_with (go_at_call 63; refine (implFind A c l p _ HR hl).mono ?_; rintro e w1 ⟨rfl, hb⟩; have HB := Aside0.mk hb; clear hb)
    go_ret
    exact ⟨by rw [← HF.out, HG.out]; rfl, HB.out⟩
theorem implFolderCode (m : Int) (A : Option Addr) (c : Nat) (l : List Item) (s : Str) (w : World) (hs : s.length ≤ 16777216) (HM : Aside0 (MX m w)) (HR : Aside0 (Kd.C kItem w A l.length l)) (hl : smallI l) :
    Calls Tryz.prog 136 #[.slice A l.length c, sv s] w fun e w' => e = .returned (.int .i64 (folderC l (split s).1)) ∧ Below w.heap.size w w' := by
  by_cases h2 : folderC l (split s).1 = 2
  · have HF := Lib.hid h2
    have hb2 : (folderC l (split s).1 == 2) = true := by simpa using h2
    clear h2
    go_enter Tryz.func136, Tryz.ntmps136
    go_wp2_with (first
      | (go_at_call 123; refine (implSplit m s _ hs HM).mono ?_; rintro e w1 ⟨rfl, hb⟩; have HB := Aside0.mk hb; have HR1 := Aside0.mk (Kd.C_below HR.out hb); clear hb)
      | (go_at_call 135; refine (implThere A c l _ _ HR1 hl).mono ?_; rintro e w1 ⟨rfl, hb⟩; have HB1 := Aside0.mk (below_then HB.out HB.out.size hb); clear hb))
    go_ret
    exact ⟨by rw [HF.out]; rfl, HB1.out⟩
  have hb2 : (folderC l (split s).1 == 2) = false := by simpa using h2
  by_cases h0 : folderC l (split s).1 = 0
  · have HF := Lib.hid h0
    have hb0 : (folderC l (split s).1 == 0) = true := by simpa using h0
    clear h2 h0
    go_enter Tryz.func136, Tryz.ntmps136
    go_wp2_with (first
      | (go_at_call 123; refine (implSplit m s _ hs HM).mono ?_; rintro e w1 ⟨rfl, hb⟩; have HB := Aside0.mk hb; have HR1 := Aside0.mk (Kd.C_below HR.out hb); clear hb)
      | (go_at_call 135; refine (implThere A c l _ _ HR1 hl).mono ?_; rintro e w1 ⟨rfl, hb⟩; have HB1 := Aside0.mk (below_then HB.out HB.out.size hb); have HR2 := Aside0.mk (Kd.C_below HR1.out hb); clear hb)
      | (go_at_call 124; refine (implIsFolder A c l _ _ HR2 hl).mono ?_; rintro e w1 ⟨rfl, hb⟩; have HB2 := Aside0.mk (below_then HB1.out HB1.out.size hb); clear hb))
    go_ret
    exact ⟨by rw [HF.out]; rfl, HB2.out⟩
  · have HF := Lib.hid (show folderC l (split s).1 = 4 by
      rcases folder_vals l (split s).1 with h | h | h
      · exact absurd h h0
      · exact absurd h h2
      · exact h)
    have hb0 : (folderC l (split s).1 == 0) = false := by simpa using h0
    clear h2 h0
    go_enter Tryz.func136, Tryz.ntmps136
    go_wp2_with (first
      | (go_at_call 123; refine (implSplit m s _ hs HM).mono ?_; rintro e w1 ⟨rfl, hb⟩; have HB := Aside0.mk hb; have HR1 := Aside0.mk (Kd.C_below HR.out hb); clear hb)
      | (go_at_call 135; refine (implThere A c l _ _ HR1 hl).mono ?_; rintro e w1 ⟨rfl, hb⟩; have HB1 := Aside0.mk (below_then HB.out HB.out.size hb); have HR2 := Aside0.mk (Kd.C_below HR1.out hb); clear hb)
      | (go_at_call 124; refine (implIsFolder A c l _ _ HR2 hl).mono ?_; rintro e w1 ⟨rfl, hb⟩; have HB2 := Aside0.mk (below_then HB1.out HB1.out.size hb); clear hb))
    go_ret
    exact ⟨by rw [HF.out]; rfl, HB2.out⟩

set_option maxHeartbeats 2000000 in
theorem implOpOk (m : Int) (o : OpR) (w : World) (ho : smallO o) (HM : Aside0 (MX m w)) :
    Calls Tryz.prog 74 #[opv o] w fun e w' => e = .returned (.bool (opOk o)) ∧ Below w.heap.size w w' := by
  obtain ⟨ho1, ho2, ho3⟩ := ho
  have HM0 := Aside0.mk (HM.out.below (Nat.le_refl _) ((Below.refl w.heap.size w).alloc (Nat.le_refl _) (.cells #[.int .i64 o.kind, sv o.path, sv o.dest, sv o.data] 31)))
  have HIN := Lib.hid (show PFnExactPlain.impl_in.f o.kind 1 7 = some (decide (1 ≤ o.kind) && decide (o.kind ≤ 7)) by
    rw [PFnExactPlain.impl_in.f]
    split
    · rename_i h; have : 1 ≤ o.kind := by omega
      simp [this]
    · rename_i h; have : ¬ 1 ≤ o.kind := by omega
      simp [this])
  have HF := Lib.hid (show opOk o = ((decide (1 ≤ o.kind) && decide (o.kind ≤ 7)) && pathOk o.path && decide ((o.data.length : Int) ≤ 60) && ((o.kind != 6) || pathOk o.dest)) from rfl)
  have h3n : (o.kind != 6) = !(o.kind == 6) := rfl
  rw [h3n] at HF
  clear h3n
  generalize hin : (decide (1 ≤ o.kind) && decide (o.kind ≤ 7)) = bin at HIN HF
  clear hin
  have h3 : ((o.kind = 6) = True ∧ (o.kind == 6) = true) ∨ ((o.kind = 6) = False ∧ (o.kind == 6) = false) := by
    by_cases h : o.kind = 6
    · exact .inl ⟨eq_true h, by simpa using h⟩
    · exact .inr ⟨eq_false h, by simpa using h⟩
  rcases Bool.eq_false_or_eq_true (pathOk o.path) with h1 | h1
  all_goals rcases Bool.eq_false_or_eq_true (pathOk o.dest) with h2 | h2
  all_goals rcases h3 with ⟨h3p, h3⟩ | ⟨h3p, h3⟩
  all_goals cases bin
  all_goals
    go_enter Tryz.func74, Tryz.ntmps74
    go_wp2_with (first
      | (go_at_call 98; refine (PFnExactPlain.impl_in.calls _ _ _ _ _ HIN.out).mono ?_; rintro e w0 ⟨rfl, ⟨⟨q, rfl⟩⟩⟩)
      | (go_at_call_of 55 (sv o.path); refine (implPathOk m _ _ (by omega) ⟨HM0.out.drewN _⟩).mono ?_; rintro e w1 ⟨rfl, hb⟩; have BK1 := Aside0.mk (blk_below (show ((w.alloc (.cells #[.int .i64 o.kind, sv o.path, sv o.dest, sv o.data] 31)).drewN q).heap[w.heap.size]? = some (.cells #[.int .i64 o.kind, sv o.path, sv o.dest, sv o.data] 31) from box1 _ _) hb); obtain ⟨⟨a10, a11, a12, a13⟩, b10, b11, b12, b13⟩ := blk4 BK1.out; have HB1 := Aside0.mk (below_then (below_drewN ((Below.refl w.heap.size w).alloc (Nat.le_refl _) (.cells #[.int .i64 o.kind, sv o.path, sv o.dest, sv o.data] 31)) q) (by simp) hb); clear hb)
      | (go_at_call_of 55 (sv o.dest); refine (implPathOk m _ _ (by omega) ⟨HM.out.below (Nat.le_refl _) HB1.out⟩).mono ?_; rintro e w2 ⟨rfl, hb⟩; obtain ⟨⟨a20, a21, a22, a23⟩, b20, b21, b22, b23⟩ := blk4 (blk_below BK1.out hb); have HB2 := Aside0.mk hb; clear hb))
    all_goals
      go_ret
      refine ⟨?_, ?_⟩
      · congr 2; rw [HF.out, h1, h2, h3]; (try clear a10 a11 a12 a13 b10 b11 b12 b13); (try clear a20 a21 a22 a23 b20 b21 b22 b23); (try simp [*]) <;> (try omega)
      · first | exact below_then HB1.out HB1.out.size HB2.out | exact HB1.out | exact below_drewN ((Below.refl _ _).alloc (Nat.le_refl _) _) _

set_option maxHeartbeats 2000000 in
theorem implItemsOk (m : Int) (A : Option Addr) (c : Nat) (l : List Item) (w : World) (HR : Aside0 (Kd.C kItem w A l.length l)) (hl : smallI l) (HM : Aside0 (MX m w)) :
    Calls Tryz.prog 61 #[.slice A l.length c] w fun e w' => e = .returned (.bool (itemsOk l)) ∧ Below w.heap.size w w' := by
  have hlen := hl.1
  go_enter Tryz.func61, Tryz.ntmps61
  go_wp2
  go_loopw [10] (fun i wr => ∃ k : Nat, k ≤ l.length ∧ i = .int .i64 k ∧ Aside0 (itemsOkF l (l.drop k) k = itemsOkF l l 0) ∧ Aside0 (Below w.heap.size w wr)) (fun i _ => l.length - (intOf i).toNat)
  case atStart => exact ⟨0, Nat.zero_le _, rfl, ⟨rfl⟩, ⟨Below.refl _ _⟩⟩
  case round =>
    obtain ⟨k, hk, rfl, ha, HB⟩ := hrel
    have HR := Aside0.mk (Kd.C_below HR.out HB.out)
    have HMr := Aside0.mk (HM.out.below (Nat.le_refl _) HB.out)
    by_cases hlt : k < l.length
    · obtain ⟨ad, rfl, h0, h1, h2⟩ := at_Item HR.out k hlt
      have hx := hl.2 _ (List.getElem_mem hlt)
      have hx1 := hx.1
      have hx2 := hx.2
      have HS := Lib.hid (split_le l[k].path)
      have HA := Lib.hid (show (itemOk l k l[k] && itemsOkF l (l.drop (k + 1)) (k + 1)) = itemsOkF l l 0 by rw [← ha.out, List.drop_eq_getElem_cons hlt, itemsOkF])
      clear ha hx
      go_wp2_with (first
        | (go_at_call 123; refine (implSplit m _ _ (by omega) ⟨HMr.out.below (Nat.le_refl _) ((Below.refl _ _).alloc (Nat.le_refl _) _)⟩).mono ?_; rintro e w1 ⟨rfl, hb⟩; obtain ⟨hc1, hf1⟩ := bcell hb; have HB1 := Aside0.mk (below_box hb); clear hb)
        | (go_at_call 63; refine (implFind _ c l _ _ ⟨Kd.C_below HR.out HB1.out⟩ hl).mono ?_; rintro e w2 ⟨rfl, hb⟩; have HB2 := Aside0.mk (below_then HB1.out HB1.out.size hb); clear hb)
        | (go_at_call 124; refine (implIsFolder _ c l _ _ ⟨Kd.C_below HR.out HB2.out⟩ hl).mono ?_; rintro e w3 ⟨rfl, hb⟩; have HB3 := Aside0.mk (below_then HB2.out HB2.out.size hb); clear hb))
      all_goals first
        | (go_ret
           have hF : itemOk l k l[k] = false := by
             try clear hc1 hf1
             try clear HB1
             try clear HB2
             try clear HB3
             clear HB HR HA h0 h1 h2 HMr HM
             first | (simp [itemOk, *]; done) | (simp_all [itemOk]; done) | (simp_all [itemOk]; omega)
           exact ⟨by rw [itemsOk, ← HA.out, hF]; rfl, by first | exact HB.out.trans (HB3.out.mono HB.out.size) | exact HB.out.trans (HB2.out.mono HB.out.size) | exact HB.out.trans (HB1.out.mono HB.out.size)⟩)
        | (have hT : itemOk l k l[k] = true := by
             try clear hc1 hf1
             clear HB1 HB2 HB3
             clear HB HR HA h0 h1 h2 HMr HM
             first | (simp [itemOk, *]; done) | (simp_all [itemOk]; done) | (simp_all [itemOk]; omega)
           exact ⟨⟨k + 1, by omega, by go_num, ⟨by rw [← HA.out, hT, Bool.true_and]⟩, ⟨HB.out.trans (HB3.out.mono HB.out.size)⟩⟩, by simp [intOf]; omega⟩)
    · have HA := Lib.hid (show itemsOk l = decide ((l.length : Int) < 12) by rw [itemsOk, ← ha.out, List.drop_eq_nil_of_le (by omega), itemsOkF, Bool.true_and])
      clear ha
      go_wp2
      go_ret
      exact ⟨by rw [HA.out, show decide ((l.length : Int) < 12) = decide ((l.length : Int) ≤ 11) from by rw [decide_eq_decide]; omega]; rfl, HB.out⟩
end Go.Proofs.YtijeoadfgjpefaaGreatDoor
namespace Go.Proofs.YtijeoadfgjpefaaGreatDoor
open Go.RowKit Go.Proofs.YtijeoadfgjpefaaGreatDoorW.PrintWords
set_option linter.unusedSimpArgs false
set_option linter.unusedVariables false

set_option maxRecDepth 20000 in
theorem implClone (A : Option Addr) (c : Nat) (l : List Item) (w : World) (HR : Aside0 (Kd.C kItem w A l.length l)) (hl : l.length ≤ 16777216) :
    Calls Tryz.prog 73 #[.slice A l.length c] w fun e w' => ∃ v, e = .returned v ∧ Own kItem 83 w' w.heap.size v l ∧ Below w.heap.size w w' := by
  have q22 : ∀ (w : World) (a : Option Addr) (n c n' c' : Nat), (binOp .eql 27 (.slice a n c) (.slice none n' c')).run Tryz.prog w = .ok (.bool a.isNone) w := fun w a n c n' c' => Lib.run_eql_slice_nil w _ _ a n c n' c' Tryz.underlying27
  cases A with
  | none =>
    have h0 : l = [] := by
      by_cases h : 0 < l.length
      · obtain ⟨ad, e, _⟩ := HR.out.2.2 h
        cases e
      · exact List.length_eq_zero_iff.1 (by omega)
    subst h0
    go_enter Tryz.func73, Tryz.ntmps73
    go_wp2
    go_ret
    exact ⟨_, rfl, Kd.R_nil _ _ _ _ _, Below.refl _ _⟩
  | some a =>
    go_enter Tryz.func73, Tryz.ntmps73
    go_wp2_with ((with_reducible refine gate_b (b := .append) (xs := #[.tmp 5, .tmp 6]) rfl ?_); at_builtin; refine appIs (w0 := w) (base := w.heap.size) rfl (s := .tmp 5) (x := .tmp 6) rfl _ [] l (some a) c rfl rfl ⟨own_emptyB _ (by first | rfl | simp) (by omega)⟩ ⟨Kd.C_below HR.out (by repeat (first | exact Below.refl _ _ | apply below_alloc | apply below_drew))⟩ ⟨by repeat (first | exact Below.refl _ _ | apply below_alloc | apply below_drew)⟩ (by first | omega | (simp; done) | (simp; omega)) (by simp; omega) ?_; intro v1 w2 HO1 HB1 HG1 _)
    go_ret
    exact ⟨_, rfl, HO1.out, HB1.out⟩

/-- What impl's plainMake computes. -/
def makeM (l : List Item) (o : OpR) : List Item × Int :=
  if folderC l o.path ≠ 2 then (l, 3)
  else if folderC l (split o.path).1 ≠ 0 then (l, folderC l (split o.path).1)
  else if l.length ≥ 11 then (l, 5) else (l ++ [⟨o.path, o.kind == 2, []⟩], 0)
set_option maxHeartbeats 4000000 in
theorem implMake (m : Int) (base : Nat) (v : Value) (l : List Item) (o : OpR) (w : World) (HO : Aside0 (Own kItem 83 w base v l)) (hbase : base ≤ w.heap.size) (hl : smallI l) (ho : smallO o) (HM : Aside0 (MX m w)) :
    Calls Tryz.prog 75 #[v, opv o] w fun e w' => ∃ v', e = .returned (.tuple #[v', .int .i64 (makeM l o).2]) ∧ Own kItem 83 w' base v' (makeM l o).1 ∧ Below base w w' := by
  obtain ⟨A, c, rfl, hc, hr⟩ := RdV.of_own HO.out
  have HR := Aside0.mk hr
  clear hr
  have hlen := hl.1
  have ho1 := ho.1
  have HB0 := Aside0.mk ((Below.refl w.heap.size w).alloc (Nat.le_refl _) (.cells #[.int .i64 o.kind, sv o.path, sv o.dest, sv o.data] 31))
  have BK0 := Aside0.mk (box1 w (.cells #[.int .i64 o.kind, sv o.path, sv o.dest, sv o.data] 31))
  by_cases h1 : folderC l o.path ≠ 2
  · have HF := Lib.hid (show makeM l o = (l, 3) by simp only [makeM, if_pos h1])
    have h1b : (folderC l o.path == 2) = false := by simpa using h1
    clear h1
    go_enter Tryz.func75, Tryz.ntmps75
    go_wp2_with (go_at_call 135; refine (implThere A c l _ _ ⟨Kd.C_below HR.out HB0.out⟩ hl).mono ?_; rintro e w1 ⟨rfl, hb⟩; have HB1 := Aside0.mk (below_box hb); clear hb)
    go_ret2
    exact ⟨_, by rw [HF.out]; rfl, by rw [HF.out]; exact Kd.R_below HO.out HB1.out, HB1.out.mono hbase⟩
  have h1 : folderC l o.path = 2 := by simpa using h1
  have h1b : (folderC l o.path == 2) = true := by simpa using h1
  by_cases h2 : folderC l (split o.path).1 = 0
  · by_cases h3 : l.length ≥ 11
    · have HF := Lib.hid (show makeM l o = (l, 5) by simp [makeM, h1, h2, h3])
      clear h1
      go_enter Tryz.func75, Tryz.ntmps75
      go_wp2_with (first
        | (go_at_call 135; refine (implThere A c l _ _ ⟨Kd.C_below HR.out HB0.out⟩ hl).mono ?_; rintro e w1 ⟨rfl, hb⟩; have HB1 := Aside0.mk (below_box hb); obtain ⟨⟨a10, a11, a12, a13⟩, b10, b11, b12, b13⟩ := blk4 (blk_below BK0.out hb); clear hb)
        | (go_at_call 136; refine (implFolderCode m A c l _ _ (by omega) ⟨HM.out.below (Nat.le_refl _) HB1.out⟩ ⟨Kd.C_below HR.out HB1.out⟩ hl).mono ?_; rintro e w2 ⟨rfl, hb⟩; have HB2 := Aside0.mk (below_then HB1.out HB1.out.size hb); clear hb))
      go_ret2
      exact ⟨_, by rw [HF.out]; rfl, by rw [HF.out]; exact Kd.R_below HO.out HB2.out, HB2.out.mono hbase⟩
    · have HF := Lib.hid (show makeM l o = (l ++ [⟨o.path, o.kind == 2, []⟩], 0) by simp [makeM, h1, h2, h3])
      clear h1
      go_enter Tryz.func75, Tryz.ntmps75
      go_wp2_with (first
        | (go_at_call 135; refine (implThere A c l _ _ ⟨Kd.C_below HR.out HB0.out⟩ hl).mono ?_; rintro e w1 ⟨rfl, hb⟩; have HB1 := Aside0.mk (below_box hb); have BK1 := Aside0.mk (blk_below BK0.out hb); obtain ⟨⟨a10, a11, a12, a13⟩, b10, b11, b12, b13⟩ := blk4 BK1.out; clear hb)
        | (go_at_call 136; refine (implFolderCode m A c l _ _ (by omega) ⟨HM.out.below (Nat.le_refl _) HB1.out⟩ ⟨Kd.C_below HR.out HB1.out⟩ hl).mono ?_; rintro e w2 ⟨rfl, hb⟩; obtain ⟨⟨a20, a21, a22, a23⟩, b20, b21, b22, b23⟩ := blk4 (blk_below BK1.out hb); have HB2 := Aside0.mk (below_then HB1.out HB1.out.size hb); clear hb)
        | ((with_reducible refine gate_b (b := .append) (xs := #[.tmp 24, .tmp 31]) rfl ?_); at_builtin; refine appI rfl (s := .tmp 24) (x := .tmp 31) rfl _ l ⟨o.path, o.kind == 2, []⟩ rfl rfl ⟨Kd.R_below HO.out HB2.out⟩ ⟨HB2.out.mono hbase⟩ (Nat.le_trans hbase HB2.out.size) (by omega) ?_; intro v1 w3 HO1 HB3 HG1 _))
      go_ret2
      exact ⟨_, by rw [HF.out]; rfl, by rw [HF.out]; exact HO1.out, HB3.out⟩
  · have HF := Lib.hid (show makeM l o = (l, folderC l (split o.path).1) by simp [makeM, h1, h2])
    have h2b : (folderC l (split o.path).1 == 0) = false := by simpa using h2
    clear h1
    go_enter Tryz.func75, Tryz.ntmps75
    go_wp2_with (first
      | (go_at_call 135; refine (implThere A c l _ _ ⟨Kd.C_below HR.out HB0.out⟩ hl).mono ?_; rintro e w1 ⟨rfl, hb⟩; have HB1 := Aside0.mk (below_box hb); obtain ⟨⟨a10, a11, a12, a13⟩, b10, b11, b12, b13⟩ := blk4 (blk_below BK0.out hb); clear hb)
      | (go_at_call 136; refine (implFolderCode m A c l _ _ (by omega) ⟨HM.out.below (Nat.le_refl _) HB1.out⟩ ⟨Kd.C_below HR.out HB1.out⟩ hl).mono ?_; rintro e w2 ⟨rfl, hb⟩; have HB2 := Aside0.mk (below_then HB1.out HB1.out.size hb); clear hb))
    go_ret2
    exact ⟨_, by rw [HF.out]; rfl, by rw [HF.out]; exact Kd.R_below HO.out HB2.out, HB2.out.mono hbase⟩
end Go.Proofs.YtijeoadfgjpefaaGreatDoor
