/- The walk of the reference's l12Names. Conditions: at most eleven items, lengths below 16777216. The walk of the reference's l12Move. Conditions: lengths below 16777216. -/
import Derived.Test.YtijeoadfgjpefaaGreatDoorBase
import Derived.Test.YtijeoadfgjpefaaGreatDoorWList
import Derived.Test.YtijeoadfgjpefaaGreatDoorWNode
import Derived.RegionTactic
import Derived.Deep.RegionLaw
namespace Go.Proofs.YtijeoadfgjpefaaGreatDoor
open Go.RowKit Go.Proofs.YtijeoadfgjpefaaGreatDoorW.PrintWords
set_option linter.unusedSimpArgs false
set_option linter.unusedVariables false

theorem zip_maps : ∀ ps : List (Str × Int), (ps.map (·.1)).zip (ps.map (·.2)) = ps
  | [] => rfl
  | p :: r => by simp [zip_maps r]
def kidPutP (ps : List (Str × Int)) (name : Str) (kd : Int) : List (Str × Int) := putF name kd (dropF (atF name ps 0) ps 0) false
theorem specKidPutP (dir : Bool) (ps : List (Str × Int)) (data : Str) (An Ak : Option Addr) (cn ck : Nat) (name : Str) (kd : Int) (w : World) (HN : Aside0 (Kd.C kStr w An ps.length (ps.map (·.1)))) (HK : Aside0 (Kd.C kInt w Ak ps.length (ps.map (·.2)))) (hcn : ps.length ≤ cn) (hck : ps.length ≤ ck) (hs : ps.length ≤ 16777216) :
    Calls Tryz.prog 146 #[.agg #[.bool dir, .slice An ps.length cn, .slice Ak ps.length ck, sv data], sv name, .int .i64 kd] w fun e w' => ∃ vn vk, e = .returned (.agg #[.bool dir, vn, vk, sv data]) ∧ Own kStr 9 w' w.heap.size vn ((kidPutP ps name kd).map (·.1)) ∧ Own kInt 3 w' w.heap.size vk ((kidPutP ps name kd).map (·.2)) ∧ Below w.heap.size w w' := by
  have h := specKidPut ⟨dir, ps.map (·.1), ps.map (·.2), data⟩ An Ak cn ck name kd w (by simpa using HN) (by simpa using HK) (by simpa using hcn) (by simpa using hck) ⟨by simpa using hs, by simpa using hs⟩
  have e : kidPut ⟨dir, ps.map (·.1), ps.map (·.2), data⟩ name kd = kidPutP ps name kd := by simp only [kidPut, kidDrop, kidPutP, prs, zip_maps]
  rw [e] at h
  simpa using h
theorem putF_len (name : Str) (kd : Int) : ∀ (l : List (Str × Int)) (put : Bool), (putF name kd l put).length ≤ l.length + 1 ∧ (put = true → (putF name kd l put).length ≤ l.length)
  | [], put => by cases put <;> simp [putF]
  | p :: r, put => by
    have h := putF_len name kd r
    rw [putF]
    split
    · have h2 := (h true).2 rfl
      refine ⟨by simp; omega, fun e => ?_⟩
      simp_all
    · have h1 := (h put).1
      refine ⟨by simp; omega, fun e => ?_⟩
      have := (h put).2 e
      simp; omega
theorem kidPutP_len (ps : List (Str × Int)) (name : Str) (kd : Int) : (kidPutP ps name kd).length ≤ ps.length + 1 := by
  have h1 := (putF_len name kd (dropF (atF name ps 0) ps 0) false).1
  have h2 := dropF_len (atF name ps 0) ps 0
  exact Nat.le_trans h1 (by omega)
theorem dropF_mem (a : Int) (q : Str × Int) : ∀ (l : List (Str × Int)) (i : Nat), q ∈ dropF a l i → q ∈ l
  | [], _, h => by simp [dropF] at h
  | p :: r, i, h => by
    rw [dropF] at h
    split at h
    · rcases List.mem_cons.1 h with h | h
      · simp [h]
      · exact List.mem_cons_of_mem _ (dropF_mem a q r _ h)
    · exact List.mem_cons_of_mem _ (dropF_mem a q r _ h)
theorem putF_mem (name : Str) (kd : Int) (q : Str × Int) : ∀ (l : List (Str × Int)) (put : Bool), q ∈ putF name kd l put → q = (name, kd) ∨ q ∈ l
  | [], put, h => by cases put <;> simp [putF] at h; exact .inl h
  | p :: r, put, h => by
    rw [putF] at h
    split at h
    · rcases List.mem_cons.1 h with h | h
      · exact .inl h
      · rcases List.mem_cons.1 h with h | h
        · simp [h]
        · rcases putF_mem name kd q r _ h with h | h
          · exact .inl h
          · exact .inr (List.mem_cons_of_mem _ h)
    · rcases List.mem_cons.1 h with h | h
      · simp [h]
      · rcases putF_mem name kd q r _ h with h | h
        · exact .inl h
        · exact .inr (List.mem_cons_of_mem _ h)
theorem kidPutP_mem {ps : List (Str × Int)} {name : Str} {kd : Int} {q : Str × Int} (h : q ∈ kidPutP ps name kd) : q = (name, kd) ∨ q ∈ ps := by
  rcases putF_mem _ _ _ _ _ h with h | h
  · exact .inl h
  · exact .inr (dropF_mem _ _ _ _ h)

def gatherF (path : Str) : List Item → Nat → List (Str × Int) → List (Str × Int)
  | [], _, ps => ps
  | x :: r, i, ps => if (split x.path).1 == path then gatherF path r (i + 1) (kidPutP ps (split x.path).2.1 i) else gatherF path r (i + 1) ps
def showF (l : List Item) : List (Str × Int) → Bool → Str → Str
  | [], _, out => out
  | p :: r, first, out => showF l r false ((if first then out else out ++ [32]) ++ p.1 ++ (if (getI l p.2).dir then [47] else []))
def namesText (l : List Item) (path : Str) : Str := showF l (gatherF path l 0 []) true []

set_option maxHeartbeats 2000000 in
theorem specNames12 (A : Option Addr) (c : Nat) (l : List Item) (path : Str) (w : World) (HR : Aside0 (Kd.C kItem w A l.length l)) (hl : smallI l) (hl11 : l.length ≤ 11) :
    Calls Tryz.prog 134 #[.slice A l.length c, sv path] w fun e w' => e = .returned (.string ⟨(namesText l path).toArray⟩) ∧ Below w.heap.size w w' := by
  go_enter Tryz.func134, Tryz.ntmps134
  go_wp2
  go_loopw [6] (fun i wr => ∃ (k : Nat) (ps : List (Str × Int)) (An Ak : Option Addr) (cn ck : Nat), k ≤ l.length ∧ i = .int .i64 k ∧ ps.length ≤ k ∧ 
      Aside0 (∀ p ∈ ps, p.1.length ≤ 8388608 ∧ 0 ≤ p.2 ∧ p.2 < l.length) ∧ Aside0 (gatherF path (l.drop k) k ps = gatherF path l 0 []) ∧
      Aside0 (Own kStr 9 wr w.heap.size (.slice An ps.length cn) (ps.map (·.1))) ∧ Aside0 (Own kInt 3 wr w.heap.size (.slice Ak ps.length ck) (ps.map (·.2))) ∧
      Aside0 (wr.heap[w.heap.size]? = some (.cells #[.bool true, .slice An ps.length cn, .slice Ak ps.length ck, sv []] 96 (0, 0))) ∧ Aside0 (Below w.heap.size w wr)) (fun i _ => l.length - (intOf i).toNat)
  case atStart => exact ⟨0, [], none, none, 0, 0, Nat.zero_le _, rfl, Nat.le_refl _, ⟨by simp⟩, ⟨rfl⟩, ⟨Kd.R_nil _ _ _ _ _⟩, ⟨Kd.R_nil _ _ _ _ _⟩, ⟨box1 _ _⟩, ⟨(Below.refl _ _).alloc (Nat.le_refl _) _⟩⟩
  case round =>
    obtain ⟨k, ps, An, Ak, cn, ck, hk, rfl, hps, hpr, ha, HOn, HOk, BK, HB⟩ := hrel
    obtain ⟨hcn, HN⟩ := own_sl HOn.out
    obtain ⟨hck, HK⟩ := own_sl HOk.out
    rw [List.length_map] at HN hcn HK hck
    have HN := Aside0.mk HN
    have HK := Aside0.mk HK
    obtain ⟨⟨a0, a1, a2, a3⟩, b0, b1, b2, b3⟩ := blk4 BK.out
    have hz := blk_lt BK.out
    by_cases hlt : k < l.length
    · obtain ⟨ad, rfl, h0, hd1, hd2⟩ := at_Item (Kd.C_below HR.out HB.out) k hlt
      have hx1 := (hl.2 _ (List.getElem_mem hlt)).1
      have hs2 := (split_le l[k].path).2
      have HA := Lib.hid (show (if (split l[k].path).1 == path then gatherF path (l.drop (k + 1)) (k + 1) (kidPutP ps (split l[k].path).2.1 k) else gatherF path (l.drop (k + 1)) (k + 1) ps) = gatherF path l 0 [] by
        rw [← ha.out, List.drop_eq_getElem_cons hlt, gatherF])
      clear ha
      go_wp2_with (first
        | (go_at_call 125; refine (specSplit _ _ (by omega)).mono ?_; rintro e w1 ⟨rfl, hb⟩; have HB1 := Aside0.mk hb; have BK1 := Aside0.mk (blk_below BK.out hb); have HN1 := Aside0.mk (Kd.C_below HN.out hb); have HK1 := Aside0.mk (Kd.C_below HK.out hb); clear hb; obtain ⟨⟨c0, c1, c2, c3⟩, d0, d1, d2, d3⟩ := blk4 BK1.out)
        | (go_at_call 146; refine (specKidPutP true ps [] An Ak cn ck _ _ _ HN1 HK1 hcn hck (by omega)).mono ?_; rintro e w2 ⟨vn, vk, rfl, hn, hkk, hb⟩; have HOn2 := Aside0.mk (own_lower (Nat.le_trans HB.out.size HB1.out.size) hn); have HOk2 := Aside0.mk (own_lower (Nat.le_trans HB.out.size HB1.out.size) hkk); have HB2 := Aside0.mk hb; have BK2 := Aside0.mk (blk_below BK1.out hb); clear hb hn hkk; obtain ⟨A1, c1', ev1⟩ := Kd.R_slice HOn2.out; obtain ⟨A2, c2', ev2⟩ := Kd.R_slice HOk2.out; rw [List.length_map] at ev1 ev2; subst ev1 ev2; obtain ⟨⟨e0, e1, e2, e3⟩, f0, f1, f2, f3⟩ := blk4 BK2.out))
      · have hl1 := kidPutP_len ps (split l[k].path).2.1 k
        go_roundw
        case rel => exact ⟨k + 1, kidPutP ps (split l[k].path).2.1 k, _, _, _, _, by omega, by go_num, by omega, ⟨fun p hp => by rcases kidPutP_mem hp with rfl | hp; exact ⟨by simp; omega, by simp, by simp; omega⟩; exact hpr.out p hp⟩, ⟨by rw [← HA.out, if_pos (by assumption)]⟩,
            ⟨own_far4 HOn2.out rfl (by decide) BK2.out _ _ _ _⟩, ⟨own_far4 HOk2.out rfl (by decide) BK2.out _ _ _ _⟩, ⟨blk_set (blk_set (blk_set (blk_set BK2.out 0 _) 1 _) 2 _) 3 _⟩, ⟨by repeat (first | exact HB.out.trans ((HB1.out.trans (HB2.out.mono HB1.out.size)).mono HB.out.size) | refine Below.setCell ?_ (show w.heap.size ≤ w.heap.size from Nat.le_refl _) _)⟩⟩
        case measure => simp [intOf] <;> omega
      · go_roundw
        case rel => exact ⟨k + 1, ps, _, _, _, _, by omega, by go_num, by omega, hpr, ⟨by rw [← HA.out, if_neg (by simp [*])]⟩, ⟨Kd.R_below HOn.out HB1.out⟩, ⟨Kd.R_below HOk.out HB1.out⟩, BK1, ⟨HB.out.trans (HB1.out.mono HB.out.size)⟩⟩
        case measure => simp [intOf] <;> omega
    · have HA := Lib.hid (show ps = gatherF path l 0 [] by rw [← ha.out, List.drop_eq_nil_of_le (by omega), gatherF])
      clear ha
      have HT := Lib.hid (show namesText l path = showF l ps true [] by rw [namesText, ← HA.out])
      clear HA
      go_wp2
      go_loop [10, 11] (fun ov i => ∃ (j : Nat) (out : Str), j ≤ ps.length ∧ i = .int .i64 j ∧ ov = .string ⟨out.toArray⟩ ∧ out.length ≤ 8388610 * j ∧ Aside0 (showF l (ps.drop j) (decide (j = 0)) out = showF l ps true [])) (fun _ i => ps.length - (intOf i).toNat)
      case atStart => exact ⟨0, [], Nat.zero_le _, rfl, rfl, by simp, ⟨rfl⟩⟩
      case round =>
        obtain ⟨j, out, hj, rfl, rfl, hol, hs⟩ := hrel
        by_cases hjl : j < ps.length
        · obtain ⟨ad, rfl, hq0⟩ := at_Str (w := wr) (xs := ps.map (·.1)) (A := An) (by simpa using HN.out) j (by simpa using hjl)
          obtain ⟨ad2, rfl, hq1⟩ := at_Int (w := wr) (xs := ps.map (·.2)) (A := Ak) (by simpa using HK.out) j (by simpa using hjl)
          simp only [List.getElem_map] at hq0 hq1
          obtain ⟨hp1, hp2, hp3⟩ := hpr.out _ (List.getElem_mem hjl)
          obtain ⟨ad3, rfl, hi0, hi1, hi2⟩ := at_ItemZ (Kd.C_below HR.out HB.out) ps[j].2 hp2 hp3
          have HS := Lib.hid (show showF l (ps.drop (j + 1)) false ((if decide (j = 0) then out else out ++ [32]) ++ ps[j].1 ++ (if (getI l ps[j].2).dir then [47] else [])) = showF l ps true [] by
            rw [← hs.out, List.drop_eq_getElem_cons hjl, showF])
          clear hs
          by_cases hj0 : 0 < j
          · go_wp2
            · refine ⟨⟨j + 1, out ++ [32] ++ ps[j].1 ++ [47], by omega, by go_num, ?_, by simp; omega, ⟨?_⟩⟩, by simp [intOf]; omega⟩
              · rw [show (#[32] : Array UInt8) = List.toArray [32] from rfl, show (#[47] : Array UInt8) = List.toArray [47] from rfl, catS, catS, catS]
              · rw [← HS.out]; simp [*]; rw [if_neg (by omega)]; simp
            · refine ⟨⟨j + 1, out ++ [32] ++ ps[j].1, by omega, by go_num, ?_, by simp; omega, ⟨?_⟩⟩, by simp [intOf]; omega⟩
              · rw [show (#[32] : Array UInt8) = List.toArray [32] from rfl, catS, catS]
              · rw [← HS.out]; simp [*]; rw [if_neg (by omega)]; simp
          · obtain rfl : j = 0 := by omega
            have e1 : ad.add 0 = ad := by simp [Addr.add]
            have e2 : ad2.add 0 = ad2 := by simp [Addr.add]
            rw [e1] at hq0
            rw [e2] at hq1
            clear e1 e2
            go_wp2
            · refine ⟨⟨0 + 1, out ++ ps[0].1 ++ [47], by omega, by go_num, ?_, by simp; omega, ⟨?_⟩⟩, by simp [intOf]; omega⟩
              · rw [show (#[47] : Array UInt8) = List.toArray [47] from rfl, catS, catS]
              · rw [← HS.out]; simp [*]
            · refine ⟨⟨0 + 1, out ++ ps[0].1, by omega, by go_num, ?_, by simp; omega, ⟨?_⟩⟩, by simp [intOf]; omega⟩
              · rw [catS]
              · rw [← HS.out]; simp [*]
        · have HS := Lib.hid (show showF l ps true [] = out by rw [← hs.out, List.drop_eq_nil_of_le (by omega), showF])
          clear hs
          go_wp2
          go_ret
          exact ⟨by rw [HT.out, HS.out]; rfl, HB.out⟩
end Go.Proofs.YtijeoadfgjpefaaGreatDoor
namespace Go.Proofs.YtijeoadfgjpefaaGreatDoor
open Go.RowKit Go.Proofs.YtijeoadfgjpefaaGreatDoorW.PrintWords
set_option linter.unusedSimpArgs false
set_option linter.unusedVariables false

def moved (o : OpR) (x : Item) : Item := if under x.path o.path then ⟨o.dest ++ x.path.drop o.path.length, x.dir, x.data⟩ else x
def moveF (o : OpR) : List Item → Option (List Item)
  | [] => some []
  | x :: r => if pathOk (moved o x).path then (moveF o r).map ((moved o x) :: ·) else none
def moveI (l : List Item) (o : OpR) : List Item × Int :=
  if o.path = [] then (l, 6) else if under o.dest o.path then (l, 6) else if o.dest = [] then (l, 3) else if 0 ≤ find l o.dest then (l, 3)
  else if folderC l (split o.dest).1 != 0 then (l, folderC l (split o.dest).1)
  else match moveF o l with
    | none => (l, 5)
    | some out => (out, 0)
theorem under_len {p q : Str} (h : under p q = true) : q.length ≤ p.length := by
  unfold under at h
  simp only [Bool.and_eq_true, Bool.or_eq_true, List.isEmpty_iff, beq_iff_eq, decide_eq_true_eq] at h
  rcases h.2 with (rfl | rfl) | h
  · simp
  · omega
  · omega

set_option maxHeartbeats 2000000 in
theorem specMove (A : Option Addr) (c : Nat) (l : List Item) (o : OpR) (w : World) (HR : Aside0 (Kd.C kItem w A l.length l)) (hc : l.length ≤ c) (hl : smallI l) (ho : smallO o) :
    Calls Tryz.prog 133 #[.slice A l.length c, opv o] w fun e w' => ∃ v, e = .returned (.tuple #[v, .int .i64 (moveI l o).2]) ∧ RdV kItem w' v (moveI l o).1 ∧ Below w.heap.size w w' := by
  have hlen := hl.1
  obtain ⟨ho1, ho2, ho3⟩ := ho
  by_cases h1 : o.path = []
  · have HF := Lib.hid (show moveI l o = (l, 6) by simp [moveI, h1])
    have he : o.path.isEmpty = true := by simpa using h1
    clear h1
    go_enter Tryz.func133, Tryz.ntmps133
    go_wp2
    go_ret2
    exact ⟨_, by rw [HF.out]; rfl, by rw [HF.out]; exact RdV.below (RdV.mk' hc HR) ((Below.refl _ _).alloc (Nat.le_refl _) _), (Below.refl _ _).alloc (Nat.le_refl _) _⟩
  have he : o.path.isEmpty = false := by simpa using h1
  rcases Bool.eq_false_or_eq_true (under o.dest o.path) with h2 | h2
  · have HF := Lib.hid (show moveI l o = (l, 6) by simp [moveI, h1, h2])
    clear h1
    go_enter Tryz.func133, Tryz.ntmps133
    go_wp2_with (go_at_call 151; refine (specUnder _ _ _ (by omega) (by omega)).mono ?_; rintro e w1 ⟨rfl, hb⟩; have HB := Aside0.mk (below_box hb); clear hb)
    go_ret2
    exact ⟨_, by rw [HF.out]; rfl, by rw [HF.out]; exact RdV.below (RdV.mk' hc HR) HB.out, HB.out⟩
  by_cases h3 : o.dest = []
  · have HF := Lib.hid (show moveI l o = (l, 3) by simp only [moveI, if_neg h1, h2, if_pos h3]; rfl)
    have he3 : o.dest.isEmpty = true := by simpa using h3
    clear h1 h3
    go_enter Tryz.func133, Tryz.ntmps133
    go_wp2_with (go_at_call 151; refine (specUnder _ _ _ (by omega) (by omega)).mono ?_; rintro e w1 ⟨rfl, hb⟩; have BKo := Aside0.mk (blk_below (box1 _ _) hb); have HB := Aside0.mk (below_box hb); clear hb; obtain ⟨⟨a0, a1, a2, a3⟩, b0, b1, b2, b3⟩ := blk4 BKo.out)
    go_ret2
    exact ⟨_, by rw [HF.out]; rfl, by rw [HF.out]; exact RdV.below (RdV.mk' hc HR) HB.out, HB.out⟩
  have he3 : o.dest.isEmpty = false := by simpa using h3
  by_cases h4 : 0 ≤ find l o.dest
  · have HF := Lib.hid (show moveI l o = (l, 3) by simp [moveI, h1, h2, h3, h4])
    clear h1 h3
    go_enter Tryz.func133, Tryz.ntmps133
    go_wp2_with (first
      | (go_at_call 151; refine (specUnder _ _ _ (by omega) (by omega)).mono ?_; rintro e w1 ⟨rfl, hb⟩; have BKo := Aside0.mk (blk_below (box1 _ _) hb); have HB := Aside0.mk (below_box hb); clear hb; obtain ⟨⟨a0, a1, a2, a3⟩, b0, b1, b2, b3⟩ := blk4 BKo.out)
      | (go_at_call 64; refine (specFind _ c l _ _ ⟨Kd.C_below HR.out HB.out⟩ hl).mono ?_; rintro e w2 ⟨rfl, rfl⟩))
    go_ret2
    exact ⟨_, by rw [HF.out]; rfl, by rw [HF.out]; exact RdV.below (RdV.mk' hc HR) HB.out, HB.out⟩
  have hS := (split_le o.dest).1
  rcases Bool.eq_false_or_eq_true (folderC l (split o.dest).1 != 0) with h5 | h5
  · have HF := Lib.hid (show moveI l o = (l, folderC l (split o.dest).1) by simp only [moveI, if_neg h1, h2, if_neg h3, if_neg h4, h5, if_true]; rfl)
    clear h1 h3
    go_enter Tryz.func133, Tryz.ntmps133
    go_wp2_with (first
      | (go_at_call 151; refine (specUnder _ _ _ (by omega) (by omega)).mono ?_; rintro e w1 ⟨rfl, hb⟩; have BKo := Aside0.mk (blk_below (box1 _ _) hb); have HB := Aside0.mk (below_box hb); clear hb; obtain ⟨⟨a0, a1, a2, a3⟩, b0, b1, b2, b3⟩ := blk4 BKo.out)
      | (go_at_call 64; refine (specFind _ c l _ _ ⟨Kd.C_below HR.out HB.out⟩ hl).mono ?_; rintro e w2 ⟨rfl, rfl⟩)
      | (go_at_call 125; refine (specSplit _ _ (by omega)).mono ?_; rintro e w2 ⟨rfl, hb⟩; have HB1 := Aside0.mk (HB.out.trans (hb.mono HB.out.size)); clear hb)
      | (go_at_call 126; refine (specFolder _ c l _ _ ⟨Kd.C_below HR.out HB1.out⟩ hl).mono ?_; rintro e w3 ⟨rfl, rfl⟩))
    go_ret2
    exact ⟨_, by rw [HF.out]; rfl, by rw [HF.out]; exact RdV.below (RdV.mk' hc HR) HB1.out, HB1.out⟩
  · have HF := Lib.hid (show moveI l o = match moveF o l with | none => (l, 5) | some out => (out, 0) by simp only [moveI, if_neg h1, h2, if_neg h3, if_neg h4, h5, if_true]; rfl)
    clear h1 h3
    go_enter Tryz.func133, Tryz.ntmps133
    go_wp2_with (first
      | (go_at_call 151; refine (specUnder _ _ _ (by omega) (by omega)).mono ?_; rintro e w1 ⟨rfl, hb⟩; have BKo := Aside0.mk (blk_below (box1 _ _) hb); have HB := Aside0.mk (below_box hb); clear hb; obtain ⟨⟨a0, a1, a2, a3⟩, b0, b1, b2, b3⟩ := blk4 BKo.out)
      | (go_at_call 64; refine (specFind _ c l _ _ ⟨Kd.C_below HR.out HB.out⟩ hl).mono ?_; rintro e w2 ⟨rfl, rfl⟩)
      | (go_at_call 125; refine (specSplit _ _ (by omega)).mono ?_; rintro e w2 ⟨rfl, hb⟩; have BKo1 := Aside0.mk (blk_below BKo.out hb); have HB1 := Aside0.mk (HB.out.trans (hb.mono HB.out.size)); clear hb)
      | (go_at_call 126; refine (specFolder _ c l _ _ ⟨Kd.C_below HR.out HB1.out⟩ hl).mono ?_; rintro e w3 ⟨rfl, rfl⟩))
    clear a0 a1 a2 a3 b0 b1 b2 b3
    go_loopw [10, 11] (fun v i wr => ∃ (k : Nat) (xs : List Item), k ≤ l.length ∧ i = .int .i64 k ∧ xs.length ≤ k ∧ Aside0 ((moveF o (l.drop k)).map (xs ++ ·) = moveF o l) ∧
        Aside0 (Own kItem 83 wr w2.heap.size v xs) ∧ Aside0 (Below w2.heap.size w2 wr)) (fun _ i _ => l.length - (intOf i).toNat)
    case atStart => exact ⟨0, [], Nat.zero_le _, rfl, Nat.le_refl _, ⟨by simp⟩, ⟨own_empty w2 (Nat.le_refl _)⟩, ⟨(Below.refl _ _).alloc (Nat.le_refl _) _⟩⟩
    case round =>
      obtain ⟨k, xs, hk, rfl, hx, ha, HO, HB2⟩ := hrel
      have BKx := Aside0.mk (blk_below BKo1.out HB2.out)
      obtain ⟨⟨a0, a1, a2, a3⟩, b0, b1, b2, b3⟩ := blk4 BKx.out
      have hz := blk_lt BKx.out
      by_cases hlt : k < l.length
      · obtain ⟨ad, rfl, h0, hd1, hd2⟩ := at_Item (Kd.C_below HR.out (below_then HB1.out HB1.out.size HB2.out)) k hlt
        have hx1 := (hl.2 _ (List.getElem_mem hlt)).1
        have HA := Aside0.mk (show (if pathOk (moved o l[k]).path then ((moveF o (l.drop (k + 1))).map ((moved o l[k]) :: ·)) else none).map (xs ++ ·) = moveF o l by
          rw [← ha.out, List.drop_eq_getElem_cons hlt, moveF])
        clear ha
        rcases Bool.eq_false_or_eq_true (under l[k].path o.path) with hu | hu
        · have hul := under_len hu
          have hcut := cutS l[k].path o.path.length l[k].path.length
          rw [List.take_length] at hcut
          have hcat := catS o.dest (l[k].path.drop o.path.length)
          go_wp2_with (go_at_call 151; refine (specUnder _ _ _ (by omega) (by omega)).mono ?_; rintro e w3 ⟨rfl, hb⟩; have BKi := Aside0.mk (blk_below (box1 _ _) hb); have BKy := Aside0.mk (blk_below (blk_alloc BKx.out _) hb); have HB3 := Aside0.mk (below_box hb); clear hb; obtain ⟨⟨c0, c1, c2, c3⟩, d0, d1, d2, d3⟩ := blk4 BKy.out; obtain ⟨⟨e0, e1, e2⟩, f0, f1, f2⟩ := blk3 BKi.out; have hz3 := blk_lt BKi.out; have hz4 := blk_lt BKy.out)
          have HM := Lib.hid (show (if pathOk (o.dest ++ l[k].path.drop o.path.length) then ((moveF o (l.drop (k + 1))).map ((⟨o.dest ++ l[k].path.drop o.path.length, l[k].dir, l[k].data⟩ : Item) :: ·)) else none).map (xs ++ ·) = moveF o l by
            have h := HA.out
            simp only [moved, hu, if_true] at h
            exact h)
          clear HA
          have hnl : (o.dest ++ l[k].path.drop o.path.length).length ≤ 16777216 := by simp; omega
          go_region
          go_wp2_with (first
            | (go_at_call 131; refine (specPathOk _ _ hnl).mono ?_; rintro e w4 ⟨rfl, hb⟩; have BKi4 := Aside0.mk (blk_below (blk_set (show w3.drew.heap[wr.heap.size]? = _ from BKi.out) 0 _) hb); have HB4 := Aside0.mk ((HB3.out.drew.setCell (show wr.heap.size ≤ wr.heap.size from Nat.le_refl _) _).trans (hb.mono (by simp; exact HB3.out.size))); clear hb; obtain ⟨⟨g0, g1, g2⟩, i0, i1, i2⟩ := blk3 BKi4.out)
            | ((with_reducible refine gate_b (b := .append) (xs := #[.tmp 80, .tmp 82]) rfl ?_); at_builtin; refine appI rfl (s := .tmp 80) (x := .tmp 82) rfl u10 xs ⟨o.dest ++ l[k].path.drop o.path.length, l[k].dir, l[k].data⟩ rfl rfl ⟨Kd.R_below HO.out HB4.out⟩ ⟨below_then HB2.out HB2.out.size HB4.out⟩ (Nat.le_trans HB2.out.size HB4.out.size) (by omega) ?_; intro v1 w5 HO5 HB5 _ _))
          · have HN := Lib.hid (show moveF o l = none by have h := HM.out; rw [if_neg (by simp_all)] at h; rw [← h]; rfl)
            go_ret2
            exact ⟨_, by rw [HF.out, HN.out]; rfl, by rw [HF.out, HN.out]; exact RdV.below (RdV.mk' hc HR) (below_then HB1.out HB1.out.size (below_then HB2.out HB2.out.size HB4.out)), below_then HB1.out HB1.out.size (below_then HB2.out HB2.out.size HB4.out)⟩
          · go_roundw
            case rel => exact ⟨k + 1, xs ++ [⟨o.dest ++ l[k].path.drop o.path.length, l[k].dir, l[k].data⟩], by omega, by go_num, by simp; omega, ⟨by have h := HM.out; rw [if_pos (by simp_all)] at h; rw [← h, Option.map_map]; congr 1; funext r; simp⟩, HO5, HB5⟩
            case measure => simp [intOf] <;> omega
        · have HM := Lib.hid (show (if pathOk l[k].path then ((moveF o (l.drop (k + 1))).map (l[k] :: ·)) else none).map (xs ++ ·) = moveF o l by
            have h := HA.out
            simp only [moved, hu] at h
            exact h)
          clear HA
          go_wp2_with (first
            | (go_at_call 151; refine (specUnder _ _ _ (by omega) (by omega)).mono ?_; rintro e w3 ⟨rfl, hb⟩; have BKi := Aside0.mk (blk_below (box1 _ _) hb); have HB3 := Aside0.mk (below_box hb); clear hb; obtain ⟨⟨e0, e1, e2⟩, f0, f1, f2⟩ := blk3 BKi.out)
            | (go_at_call 131; refine (specPathOk _ _ (by omega)).mono ?_; rintro e w4 ⟨rfl, hb⟩; have BKi4 := Aside0.mk (blk_below BKi.out hb); have HB4 := Aside0.mk (HB3.out.trans (hb.mono HB3.out.size)); clear hb; obtain ⟨⟨g0, g1, g2⟩, i0, i1, i2⟩ := blk3 BKi4.out)
            | ((with_reducible refine gate_b (b := .append) (xs := #[.tmp 80, .tmp 82]) rfl ?_); at_builtin; refine appI rfl (s := .tmp 80) (x := .tmp 82) rfl u10 xs l[k] rfl rfl ⟨Kd.R_below HO.out HB4.out⟩ ⟨below_then HB2.out HB2.out.size HB4.out⟩ (Nat.le_trans HB2.out.size HB4.out.size) (by omega) ?_; intro v1 w5 HO5 HB5 _ _))
          · have HN := Lib.hid (show moveF o l = none by have h := HM.out; rw [if_neg (by simp_all)] at h; rw [← h]; rfl)
            go_ret2
            exact ⟨_, by rw [HF.out, HN.out]; rfl, by rw [HF.out, HN.out]; exact RdV.below (RdV.mk' hc HR) (below_then HB1.out HB1.out.size (below_then HB2.out HB2.out.size HB4.out)), below_then HB1.out HB1.out.size (below_then HB2.out HB2.out.size HB4.out)⟩
          · go_roundw
            case rel => exact ⟨k + 1, xs ++ [l[k]], by omega, by go_num, by simp; omega, ⟨by have h := HM.out; rw [if_pos (by simp_all)] at h; rw [← h, Option.map_map]; congr 1; funext r; simp⟩, HO5, HB5⟩
            case measure => simp [intOf] <;> omega
      · have HN := Lib.hid (show moveF o l = some xs by rw [← ha.out, List.drop_eq_nil_of_le (by omega)]; simp [moveF])
        clear ha
        go_wp2
        go_ret2
        exact ⟨_, by rw [HF.out, HN.out]; rfl, by rw [HF.out, HN.out]; exact RdV.of_own HO.out, below_then HB1.out HB1.out.size HB2.out⟩
end Go.Proofs.YtijeoadfgjpefaaGreatDoor
