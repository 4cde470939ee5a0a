/- The walks of the reference's l8At, KidDrop and KidPut. Conditions: lengths below 16777216. The walk of the reference's KidPut. Conditions: lengths below 16777216. -/
import Derived.Test.YtijeoadfgjpefaaGreatDoorBase
import Derived.RegionTactic
import Derived.Deep.RegionLaw
import Derived.WalkLawsBesides
namespace Go.Proofs.YtijeoadfgjpefaaGreatDoor
open Go.RowKit Go.Proofs.YtijeoadfgjpefaaGreatDoorW.PrintWords
set_option linter.unusedSimpArgs false
set_option linter.unusedVariables false

abbrev kInt : Kd Int := Kd.int .i64
theorem at_Int {w : World} {A : Option Addr} {xs : List Int} (h : Kd.C kInt w A xs.length xs) (i : Nat) (h1 : i < xs.length) : ∃ ad , A = some ad ∧ w.cell? (ad.add i) = some (.int .i64 xs[i]) := by
  obtain ⟨ad, c, e, _, hK, hc0⟩ := Kd.C_get h (0 : Int) i (by omega) (by omega)
  have hc : ∀ j u, c[j]? = some u → w.cell? (ad.add (i * 1 + j)) = some u := hc0
  have hx : xs.getD (i : Int).toNat (0 : Int) = xs[i] := by simp [h1]
  rw [hx] at hK
  obtain rfl : c = [.int .i64 xs[i]] := hK
  refine ⟨ad, e, ?_⟩
  have := hc 0 _ rfl
  simpa using this
structure NodeR where
  dir : Bool
  names : List Str
  kids : List Int
  data : Str
  deriving DecidableEq
def prs (n : NodeR) : List (Str × Int) := n.names.zip n.kids
theorem prs_len (n : NodeR) : (prs n).length = min n.names.length n.kids.length := by simp [prs]
theorem prs_at {n : NodeR} {i : Nat} (h1 : i < n.names.length) (h2 : i < n.kids.length) : (prs n)[i]'(by rw [prs_len]; exact Nat.lt_min.2 ⟨h1, h2⟩) = (n.names[i], n.kids[i]) := by simp [prs]
def smallN (n : NodeR) : Prop := n.names.length ≤ 16777216 ∧ n.kids.length ≤ 16777216
def atF (name : Str) : List (Str × Int) → Nat → Int
  | [], _ => -1
  | p :: r, i => if p.1 == name then (i : Int) else atF name r (i + 1)

theorem specAt (n : NodeR) (An Ak : Option Addr) (cn ck : Nat) (name : Str) (w : World) (HN : Aside0 (Kd.C kStr w An n.names.length n.names)) (HK : Aside0 (Kd.C kInt w Ak n.kids.length n.kids)) (hs : smallN n) :
    Calls Tryz.prog 186 #[.agg #[.bool n.dir, .slice An n.names.length cn, .slice Ak n.kids.length ck, sv n.data], sv name] w fun e w' => e = .returned (.int .i64 (atF name (prs n) 0)) ∧ Below w.heap.size w w' := by
  obtain ⟨hs1, hs2⟩ := hs
  have hpl := prs_len n
  have HPL := Lib.hid hpl
  clear hpl
  go_enter Tryz.func186, Tryz.ntmps186
  go_wp2
  go_loop [5] (fun i => ∃ k : Nat, k ≤ n.names.length ∧ k ≤ n.kids.length ∧ i = .int .i64 k ∧ Aside0 (atF name ((prs n).drop k) k = atF name (prs n) 0)) (fun i => n.names.length - (intOf i).toNat)
  case atStart => exact ⟨0, Nat.zero_le _, Nat.zero_le _, rfl, ⟨rfl⟩⟩
  case round =>
    obtain ⟨k, hk, hk2, rfl, ha⟩ := hrel
    by_cases hlt : k < n.names.length
    · by_cases hlt2 : k < n.kids.length
      · obtain ⟨ad, rfl, h0⟩ := at_Str HN.out k hlt
        have h0 := (World.cell?_alloc_lt w (.cells #[.bool n.dir, .slice (some ad) n.names.length cn, .slice Ak n.kids.length ck, sv n.data] 96) _ (World.block_lt_of_cell? w _ h0)).trans h0
        have HA := Lib.hid (show (if n.names[k] == name then (k : Int) else atF name ((prs n).drop (k + 1)) (k + 1)) = atF name (prs n) 0 by
          have hp : k < (prs n).length := by rw [HPL.out]; exact Nat.lt_min.2 ⟨hlt, hlt2⟩
          rw [← ha.out, List.drop_eq_getElem_cons hp, atF, prs_at hlt hlt2])
        clear ha
        go_wp2
        · have HF := Lib.hid (show atF name (prs n) 0 = k by rw [← HA.out, if_pos (by assumption)])
          go_ret
          exact ⟨by rw [HF.out]; rfl, (Below.refl _ _).alloc (Nat.le_refl _) _⟩
        · refine ⟨⟨k + 1, by omega, by omega, by go_num, ⟨?_⟩⟩, by simp [intOf]; omega⟩
          rw [← HA.out, if_neg (by simp [*])]
      · have HF := Lib.hid (show atF name (prs n) 0 = -1 by
          rw [← ha.out, List.drop_eq_nil_of_le (by rw [HPL.out]; exact Nat.le_trans (Nat.min_le_right _ _) (by omega)), atF])
        clear ha
        go_wp2
        go_ret
        exact ⟨by rw [HF.out]; rfl, (Below.refl _ _).alloc (Nat.le_refl _) _⟩
    · have HF := Lib.hid (show atF name (prs n) 0 = -1 by
        rw [← ha.out, List.drop_eq_nil_of_le (by rw [HPL.out]; exact Nat.le_trans (Nat.min_le_left _ _) (by omega)), atF])
      clear ha
      go_wp2
      go_ret
      exact ⟨by rw [HF.out]; rfl, (Below.refl _ _).alloc (Nat.le_refl _) _⟩

def dropF (at_ : Int) : List (Str × Int) → Nat → List (Str × Int)
  | [], _ => []
  | p :: r, i => if (i : Int) != at_ then p :: dropF at_ r (i + 1) else dropF at_ r (i + 1)
def kidDrop (n : NodeR) (name : Str) : List (Str × Int) := dropF (atF name (prs n) 0) (prs n) 0

set_option maxHeartbeats 1000000 in
theorem specKidDrop (n : NodeR) (An Ak : Option Addr) (cn ck : Nat) (name : Str) (w : World) (HN : Aside0 (Kd.C kStr w An n.names.length n.names)) (HK : Aside0 (Kd.C kInt w Ak n.kids.length n.kids)) (hcn : n.names.length ≤ cn) (hck : n.kids.length ≤ ck) (hs : smallN n) :
    Calls Tryz.prog 150 #[.agg #[.bool n.dir, .slice An n.names.length cn, .slice Ak n.kids.length ck, sv n.data], sv name] w fun e w' => ∃ vn vk, e = .returned (.agg #[.bool n.dir, vn, vk, sv n.data]) ∧ RdV kStr w' vn ((kidDrop n name).map (·.1)) ∧ RdV kInt w' vk ((kidDrop n name).map (·.2)) ∧ Below w.heap.size w w' := by
  have HS := Lib.hid hs
  obtain ⟨hs1, hs2⟩ := hs
  have HPL := Lib.hid (prs_len n)
  go_enter Tryz.func150, Tryz.ntmps150
  go_wp2_with (go_at_call 186; refine (specAt n An Ak cn ck name _ ⟨Kd.C_below HN.out (by repeat (first | exact Below.refl _ _ | apply below_alloc | apply below_drew))⟩ ⟨Kd.C_below HK.out (by repeat (first | exact Below.refl _ _ | apply below_alloc | apply below_drew))⟩ HS.out).mono ?_; rintro e w1 ⟨rfl, hb⟩; have BK1 := Aside0.mk (blk_below (box3 _ _ _ _).1 hb); have BK2 := Aside0.mk (blk_below (box3 _ _ _ _).2.1 hb); have BK3 := Aside0.mk (blk_below (box3 _ _ _ _).2.2 hb); have HB := Aside0.mk (below_box3 hb); clear hb)
  go_loopw [7] (fun i wr => ∃ (k : Nat) (ps : List (Str × Int)) (vn vk : Value), k ≤ n.names.length ∧ k ≤ n.kids.length ∧ i = .int .i64 k ∧ ps.length ≤ k ∧
      Aside0 (ps ++ dropF (atF name (prs n) 0) ((prs n).drop k) k = kidDrop n name) ∧ Aside0 (Own kStr 9 wr w.heap.size vn (ps.map (·.1))) ∧ Aside0 (Own kInt 3 wr w.heap.size vk (ps.map (·.2))) ∧
      Aside0 (wr.heap[w.heap.size]? = some (.cells #[.bool n.dir, .slice An n.names.length cn, .slice Ak n.kids.length ck, sv n.data] 96 (0, 0))) ∧
      Aside0 (wr.heap[w.heap.size + 1]? = some (.cells #[.bool false, .slice none 0 0, .slice none 0 0, .string ⟨#[]⟩] 96 (0, 0))) ∧
      Aside0 (wr.heap[w.heap.size + 1 + 1]? = some (.cells #[.bool n.dir, vn, vk, sv n.data] 96 (0, 0))) ∧ Aside0 (Below w.heap.size w wr)) (fun i _ => n.names.length - (intOf i).toNat)
  case atStart => exact ⟨0, [], _, _, Nat.zero_le _, Nat.zero_le _, rfl, Nat.le_refl _, ⟨rfl⟩, ⟨Kd.R_nil _ _ _ _ _⟩, ⟨Kd.R_nil _ _ _ _ _⟩, BK1, BK2, BK3, HB⟩
  case round =>
    clear BK1 BK2 BK3 HB
    obtain ⟨k, ps, vn, vk, hk, hk2, rfl, hps, ha, HOn, HOk, BK1, BK2, BK3, HB⟩ := hrel
    have hz := blk_lt BK3.out
    have hcells := blk4 BK1.out
    have hcells3 := blk4 BK3.out
    obtain ⟨⟨c10, c11, c12, c13⟩, f10, f11, f12, f13⟩ := hcells
    obtain ⟨⟨c30, c31, c32, c33⟩, f30, f31, f32, f33⟩ := hcells3
    by_cases hlt : k < n.names.length
    · by_cases hlt2 : k < n.kids.length
      · obtain ⟨ad, rfl, h0⟩ := at_Str (Kd.C_below HN.out HB.out) k hlt
        obtain ⟨ad2, rfl, h02⟩ := at_Int (Kd.C_below HK.out HB.out) k hlt2
        have hne : (9 : Nat) ≠ 96 := by decide
        have hne2 : (3 : Nat) ≠ 96 := by decide
        go_upto_region 7 with (fail)
        · go_cut [] (fun wc => ∃ vn1, Aside0 (Own kStr 9 wc w.heap.size vn1 ((ps.map (·.1)) ++ [n.names[k]])) ∧ Aside0 (Own kInt 3 wc w.heap.size vk (ps.map (·.2))) ∧
            Aside0 (wc.heap[w.heap.size]? = some (.cells #[.bool n.dir, .slice (some ad) n.names.length cn, .slice (some ad2) n.kids.length ck, sv n.data] 96 (0, 0))) ∧
            Aside0 (wc.heap[w.heap.size + 1]? = some (.cells #[.bool false, .slice none 0 0, .slice none 0 0, .string ⟨#[]⟩] 96 (0, 0))) ∧
            Aside0 (wc.heap[w.heap.size + 1 + 1]? = some (.cells #[.bool n.dir, vn1, vk, sv n.data] 96 (0, 0))) ∧ Aside0 (Below w.heap.size w wc))
          case first =>
            go_region_law (try rw [drew_alloc]; refine appS_step (w0 := w) (base := w.heap.size) (s := .tmp 34) (x := .tmp 40) rfl rfl vn (ps.map (·.1)) n.names[k] rfl rfl ⟨Kd.R_below HOn.out (by repeat (first | exact Below.refl _ _ | apply below_alloc | apply below_drew))⟩ ⟨by repeat (first | exact HB.out | apply below_alloc | apply below_drew)⟩ (by have := HB.out.size; simp; omega) (by simp; omega) ?_; intro v1 w2 HO1 HB1 HG1 _; obtain ⟨A1, c1, ev1⟩ := Kd.R_slice HO1.out; rw [show (ps.map (·.1) ++ [n.names[k]]).length = ps.length + 1 from by simp] at ev1; subst ev1; have BKx := Aside0.mk (blk_grown (show wr.drew.heap[_]? = _ from BK3.out) HG1.out (Kd.R_ne HOn.out BK3.out hne)); obtain ⟨⟨d0, d1, d2, d3⟩, e0, e1, e2, e3⟩ := blk4 BKx.out)
            all_goals
              have HN1 := Kd.R_ne HOn.out BK1.out hne
              have HN2 := Kd.R_ne HOn.out BK2.out hne
              go_wp2
              go_meet
              exact ⟨_, ⟨Kd.R_set HO1.out BKx.out (fun q hq => by rw [List.mem_singleton.1 hq]; exact hne) 1 _⟩,
                ⟨Kd.R_set (own_keep (Kd.R_below HOk.out (Below.refl _ _).drew) (Kd.R_below HOn.out (Below.refl _ _).drew) (by decide) rfl HG1.out) BKx.out (fun q hq => by rw [List.mem_singleton.1 hq]; exact hne2) 1 _⟩,
                ⟨blk_far (blk_grown (show wr.drew.heap[_]? = _ from BK1.out) HG1.out HN1) (show w.heap.size ≠ w.heap.size + 1 + 1 by omega) _⟩,
                ⟨blk_far (blk_grown (show wr.drew.heap[_]? = _ from BK2.out) HG1.out HN2) (show w.heap.size + 1 ≠ w.heap.size + 1 + 1 by omega) _⟩,
                ⟨blk_set BKx.out 1 _⟩, ⟨HB1.out.setCell (show w.heap.size ≤ w.heap.size + 1 + 1 by omega) _⟩⟩
          case rest =>
            clear HOn HOk BK1 BK2 BK3 c10 c11 c12 c13 f10 f11 f12 f13 c30 c31 c32 c33 f30 f31 f32 f33 h0 h02
            obtain ⟨vn1, HOn, HOk, BK1, BK2, BK3, HB1⟩ := hcut
            clear HB
            have HB := HB1
            clear HB1
            have hz := blk_lt BK3.out
            have hcells := blk4 BK1.out
            have hcells3 := blk4 BK3.out
            obtain ⟨⟨c10, c11, c12, c13⟩, f10, f11, f12, f13⟩ := hcells
            obtain ⟨⟨c30, c31, c32, c33⟩, f30, f31, f32, f33⟩ := hcells3
            have h02 : wc.cell? (ad2.add k) = some (.int .i64 n.kids[k]) := by
              obtain ⟨ad3, e3, h⟩ := at_Int (Kd.C_below HK.out HB.out) k hlt2
              cases e3
              exact h
            go_upto_region 8 with (fail)
            have HA := Lib.hid (show (ps ++ [(n.names[k], n.kids[k])]) ++ dropF (atF name (prs n) 0) ((prs n).drop (k + 1)) (k + 1) = kidDrop n name by
              have hp : k < (prs n).length := by rw [HPL.out]; exact Nat.lt_min.2 ⟨hlt, hlt2⟩
              rw [← ha.out, List.drop_eq_getElem_cons hp, dropF, prs_at hlt hlt2, if_pos (by assumption)]; simp)
            go_region_law (try rw [drew_alloc]; refine appZ_step (w0 := w) (base := w.heap.size) (s := .tmp 44) (x := .tmp 50) rfl rfl vk (ps.map (·.2)) n.kids[k] rfl rfl ⟨Kd.R_below HOk.out (by repeat (first | exact Below.refl _ _ | apply below_alloc | apply below_drew))⟩ ⟨by repeat (first | exact HB.out | apply below_alloc | apply below_drew)⟩ (by have := HB.out.size; simp; omega) (by simp; omega) ?_; intro v1 w2 HO1 HB1 HG1 _; obtain ⟨A1, c1, ev1⟩ := Kd.R_slice HO1.out; rw [show (ps.map (·.2) ++ [n.kids[k]]).length = ps.length + 1 from by simp] at ev1; subst ev1; have BKx := Aside0.mk (blk_grown (show wc.drew.heap[_]? = _ from BK3.out) HG1.out (Kd.R_ne HOk.out BK3.out hne2)); obtain ⟨⟨d0, d1, d2, d3⟩, e0, e1, e2, e3⟩ := blk4 BKx.out)
            all_goals
              have HN1 := Kd.R_ne HOk.out BK1.out hne2
              have HN2 := Kd.R_ne HOk.out BK2.out hne2
              go_wp2
              go_roundw
              case rel => exact ⟨k + 1, ps ++ [(n.names[k], n.kids[k])], vn1, .slice A1 (ps.length + 1) c1, by omega, by omega, by go_num, by simp; omega, ⟨HA.out⟩,
                  ⟨by rw [List.map_append]; exact Kd.R_set (own_keep (Kd.R_below HOn.out (Below.refl _ _).drew) (Kd.R_below HOk.out (Below.refl _ _).drew) (by decide) rfl HG1.out) BKx.out (fun q hq => by rw [List.mem_singleton.1 hq]; exact hne) 2 _⟩,
                  ⟨by rw [List.map_append]; exact Kd.R_set HO1.out BKx.out (fun q hq => by rw [List.mem_singleton.1 hq]; exact hne2) 2 _⟩,
                  ⟨blk_far (blk_grown (show wc.drew.heap[_]? = _ from BK1.out) HG1.out HN1) (show w.heap.size ≠ w.heap.size + 1 + 1 by omega) _⟩,
                  ⟨blk_far (blk_grown (show wc.drew.heap[_]? = _ from BK2.out) HG1.out HN2) (show w.heap.size + 1 ≠ w.heap.size + 1 + 1 by omega) _⟩,
                  ⟨blk_set BKx.out 2 _⟩, ⟨HB1.out.setCell (show w.heap.size ≤ w.heap.size + 1 + 1 by omega) _⟩⟩
              case measure => simp [intOf] <;> omega
        · have HA := Lib.hid (show ps ++ dropF (atF name (prs n) 0) ((prs n).drop (k + 1)) (k + 1) = kidDrop n name by
            have hp : k < (prs n).length := by rw [HPL.out]; exact Nat.lt_min.2 ⟨hlt, hlt2⟩
            rw [← ha.out, List.drop_eq_getElem_cons hp, dropF, if_neg (by simp [*])])
          go_roundw
          case rel => exact ⟨k + 1, ps, vn, vk, by omega, by omega, by go_num, by omega, ⟨HA.out⟩, HOn, HOk, BK1, BK2, BK3, HB⟩
          case measure => simp [intOf] <;> omega
      · have HA := Lib.hid (show ps = kidDrop n name by
          rw [← ha.out, List.drop_eq_nil_of_le (by rw [HPL.out]; exact Nat.le_trans (Nat.min_le_right _ _) (by omega)), dropF, List.append_nil])
        clear ha
        obtain ⟨A1, c1, ev1⟩ := Kd.R_slice HOn.out
        obtain ⟨A2, c2, ev2⟩ := Kd.R_slice HOk.out
        rw [List.length_map] at ev1 ev2
        subst ev1 ev2
        have hcells2 := blk4 BK2.out
        obtain ⟨⟨c20, c21, c22, c23⟩, f20, f21, f22, f23⟩ := hcells2
        go_wp2
        refine bodyPost_ret (v := .agg #[.bool n.dir, .slice A1 ps.length c1, .slice A2 ps.length c2, sv n.data]) (by simp [results, Tryz.results150, go_sem, c20, c21, c22, c23, f20, f21, f22, f23]) rfl ⟨_, _, rfl, ?_, ?_, ?_⟩
        · rw [← HA.out]; exact Kd.R_reads (Kd.R_far (Kd.R_far (Kd.R_far (Kd.R_far (Kd.R_types HOn.out BK2.out (fun q hq => by rw [List.mem_singleton.1 hq]; decide)) (fun _ hk => hk.2) _) (fun _ hk => hk.2) _) (fun _ hk => hk.2) _) (fun _ hk => hk.2) _)
        · rw [← HA.out]; exact Kd.R_reads (Kd.R_far (Kd.R_far (Kd.R_far (Kd.R_far (Kd.R_types HOk.out BK2.out (fun q hq => by rw [List.mem_singleton.1 hq]; decide)) (fun _ hk => hk.2) _) (fun _ hk => hk.2) _) (fun _ hk => hk.2) _) (fun _ hk => hk.2) _)
        · repeat (first | exact HB.out | refine Below.setCell ?_ (show w.heap.size ≤ w.heap.size + 1 by omega) _)
    · have HA := Lib.hid (show ps = kidDrop n name by
        rw [← ha.out, List.drop_eq_nil_of_le (by rw [HPL.out]; exact Nat.le_trans (Nat.min_le_left _ _) (by omega)), dropF, List.append_nil])
      clear ha
      obtain ⟨A1, c1, ev1⟩ := Kd.R_slice HOn.out
      obtain ⟨A2, c2, ev2⟩ := Kd.R_slice HOk.out
      rw [List.length_map] at ev1 ev2
      subst ev1 ev2
      have hcells2 := blk4 BK2.out
      obtain ⟨⟨c20, c21, c22, c23⟩, f20, f21, f22, f23⟩ := hcells2
      go_wp2
      refine bodyPost_ret (v := .agg #[.bool n.dir, .slice A1 ps.length c1, .slice A2 ps.length c2, sv n.data]) (by simp [results, Tryz.results150, go_sem, c20, c21, c22, c23, f20, f21, f22, f23]) rfl ⟨_, _, rfl, ?_, ?_, ?_⟩
      · rw [← HA.out]; exact Kd.R_reads (Kd.R_far (Kd.R_far (Kd.R_far (Kd.R_far (Kd.R_types HOn.out BK2.out (fun q hq => by rw [List.mem_singleton.1 hq]; decide)) (fun _ hk => hk.2) _) (fun _ hk => hk.2) _) (fun _ hk => hk.2) _) (fun _ hk => hk.2) _)
      · rw [← HA.out]; exact Kd.R_reads (Kd.R_far (Kd.R_far (Kd.R_far (Kd.R_far (Kd.R_types HOk.out BK2.out (fun q hq => by rw [List.mem_singleton.1 hq]; decide)) (fun _ hk => hk.2) _) (fun _ hk => hk.2) _) (fun _ hk => hk.2) _) (fun _ hk => hk.2) _)
      · repeat (first | exact HB.out | refine Below.setCell ?_ (show w.heap.size ≤ w.heap.size + 1 by omega) _)
end Go.Proofs.YtijeoadfgjpefaaGreatDoor
namespace Go.Proofs.YtijeoadfgjpefaaGreatDoor
open Go.RowKit Go.Proofs.YtijeoadfgjpefaaGreatDoorW.PrintWords
set_option linter.unusedSimpArgs false
set_option linter.unusedVariables false

/-- A node in a box of the call's own, its rows the call's own. -/
structure NB (w0 w : World) (base g : Nat) (dir : Bool) (data : Str) (vn vk : Value) (ps : List (Str × Int)) : Prop where
  n : Own kStr 9 w base vn (ps.map (·.1))
  k : Own kInt 3 w base vk (ps.map (·.2))
  b : w.heap[g]? = some (.cells #[.bool dir, vn, vk, sv data] 96 (0, 0))
  below : Below base w0 w
  le : base ≤ g

theorem NB.step {w0 w w1 : World} {base g : Nat} {dir : Bool} {data : Str} {vn vk : Value} {ps : List (Str × Int)} (h : NB w0 w base g dir data vn vk ps) (hb : Below w.heap.size w w1) : NB w0 w1 base g dir data vn vk ps :=
  ⟨Kd.R_below h.n hb, Kd.R_below h.k hb, blk_below h.b hb, below_then h.below (Nat.le_trans h.le (Nat.le_of_lt (blk_lt h.b))) hb, h.le⟩
/-- Half way: the name is put, its number not yet. -/
structure NBh (w0 w : World) (base g : Nat) (dir : Bool) (data : Str) (vn vk : Value) (ps : List (Str × Int)) (nm : Str) : Prop where
  n : Own kStr 9 w base vn (ps.map (·.1) ++ [nm])
  k : Own kInt 3 w base vk (ps.map (·.2))
  b : w.heap[g]? = some (.cells #[.bool dir, vn, vk, sv data] 96 (0, 0))
  below : Below base w0 w
  le : base ≤ g
theorem NB.name {w0 w w2 : World} {base g : Nat} {dir : Bool} {data : Str} {vn vk v1 : Value} {ps : List (Str × Int)} {nm : Str} (h : NB w0 w base g dir data vn vk ps)
    (HO : Own kStr 9 w2 base v1 (ps.map (·.1) ++ [nm])) (HB : Below base w0 w2) (HG : w.grownBy w2 vn.ownBlock) :
    NBh w0 (w2.setCell ⟨g, 1, none⟩ v1) base g dir data v1 vk ps nm ∧ ∀ b cs t, w.heap[b]? = some (.cells cs t (0, 0)) → 9 ≠ t → b ≠ g → (w2.setCell ⟨g, 1, none⟩ v1).heap[b]? = some (.cells cs t (0, 0)) := by
  have hne : (9 : Nat) ≠ 96 := by decide
  have hne2 : (3 : Nat) ≠ 96 := by decide
  have BKx := blk_grown h.b HG (Kd.R_ne h.n h.b hne)
  refine ⟨⟨Kd.R_set HO BKx (fun q hq => by rw [List.mem_singleton.1 hq]; exact hne) 1 _, Kd.R_set (own_keep h.k h.n (by decide) rfl HG) BKx (fun q hq => by rw [List.mem_singleton.1 hq]; exact hne2) 1 _, blk_set BKx 1 _, HB.setCell h.le _, h.le⟩, fun b cs t hb ht hg => ?_⟩
  exact blk_far (blk_grown hb HG (Kd.R_ne h.n hb ht)) hg _
theorem NBh.kid {w0 w w2 : World} {base g : Nat} {dir : Bool} {data : Str} {vn vk v1 : Value} {ps : List (Str × Int)} {nm : Str} {kd : Int} (h : NBh w0 w base g dir data vn vk ps nm)
    (HO : Own kInt 3 w2 base v1 (ps.map (·.2) ++ [kd])) (HB : Below base w0 w2) (HG : w.grownBy w2 vk.ownBlock) :
    NB w0 (w2.setCell ⟨g, 2, none⟩ v1) base g dir data vn v1 (ps ++ [(nm, kd)]) ∧ ∀ b cs t, w.heap[b]? = some (.cells cs t (0, 0)) → 3 ≠ t → b ≠ g → (w2.setCell ⟨g, 2, none⟩ v1).heap[b]? = some (.cells cs t (0, 0)) := by
  have hne : (9 : Nat) ≠ 96 := by decide
  have hne2 : (3 : Nat) ≠ 96 := by decide
  have BKx := blk_grown h.b HG (Kd.R_ne h.k h.b hne2)
  refine ⟨⟨?_, ?_, blk_set BKx 2 _, HB.setCell h.le _, h.le⟩, fun b cs t hb ht hg => ?_⟩
  · rw [List.map_append]; exact Kd.R_set (own_keep h.n h.k (by decide) rfl HG) BKx (fun q hq => by rw [List.mem_singleton.1 hq]; exact hne) 2 _
  · rw [List.map_append]; exact Kd.R_set HO BKx (fun q hq => by rw [List.mem_singleton.1 hq]; exact hne2) 2 _
  · exact blk_far (blk_grown hb HG (Kd.R_ne h.k hb ht)) hg _
theorem NBh.drew {w0 w : World} {base g : Nat} {dir : Bool} {data : Str} {vn vk : Value} {ps : List (Str × Int)} {nm : Str} (h : NBh w0 w base g dir data vn vk ps nm) : NBh w0 w.drew base g dir data vn vk ps nm :=
  ⟨Kd.R_below h.n (Below.refl _ _).drew, Kd.R_below h.k (Below.refl _ _).drew, h.b, h.below.drew, h.le⟩
theorem NB.drew {w0 w : World} {base g : Nat} {dir : Bool} {data : Str} {vn vk : Value} {ps : List (Str × Int)} (h : NB w0 w base g dir data vn vk ps) : NB w0 w.drew base g dir data vn vk ps :=
  ⟨Kd.R_below h.n (Below.refl _ _).drew, Kd.R_below h.k (Below.refl _ _).drew, h.b, h.below.drew, h.le⟩

def putF (name : Str) (kd : Int) : List (Str × Int) → Bool → List (Str × Int)
  | [], put => if put then [] else [(name, kd)]
  | p :: r, put => if !put && (!Op.bytesLess p.1 name && !p.1 == name) then (name, kd) :: p :: putF name kd r true else p :: putF name kd r put
def kidPut (n : NodeR) (name : Str) (kd : Int) : List (Str × Int) := putF name kd (kidDrop n name) false

theorem dropF_len (a : Int) : ∀ (l : List (Str × Int)) (i : Nat), (dropF a l i).length ≤ l.length
  | [], _ => by simp [dropF]
  | p :: r, i => by
    rw [dropF]; split
    · have := dropF_len a r (i + 1); simp; omega
    · have := dropF_len a r (i + 1); simp; omega
theorem kidDrop_len (n : NodeR) (name : Str) : (kidDrop n name).length ≤ n.names.length := by
  have h := dropF_len (atF name (prs n) 0) (prs n) 0
  rw [prs_len] at h
  exact Nat.le_trans h (Nat.min_le_left _ _)
set_option maxHeartbeats 2000000 in
theorem specKidPut (n : NodeR) (An Ak : Option Addr) (cn ck : Nat) (name : Str) (kd : Int) (w : World) (HN : Aside0 (Kd.C kStr w An n.names.length n.names)) (HK : Aside0 (Kd.C kInt w Ak n.kids.length n.kids)) (hcn : n.names.length ≤ cn) (hck : n.kids.length ≤ ck) (hs : smallN n) :
    Calls Tryz.prog 146 #[.agg #[.bool n.dir, .slice An n.names.length cn, .slice Ak n.kids.length ck, sv n.data], sv name, .int .i64 kd] w fun e w' => ∃ vn vk, e = .returned (.agg #[.bool n.dir, vn, vk, sv n.data]) ∧ Own kStr 9 w' w.heap.size vn ((kidPut n name kd).map (·.1)) ∧ Own kInt 3 w' w.heap.size vk ((kidPut n name kd).map (·.2)) ∧ Below w.heap.size w w' := by
  have HS := Lib.hid hs
  obtain ⟨hs1, hs2⟩ := hs
  go_enter Tryz.func146, Tryz.ntmps146
  go_wp2_with (go_at_call 150; refine (specKidDrop n An Ak cn ck name _ ⟨Kd.C_below HN.out (by repeat (first | exact Below.refl _ _ | apply below_alloc | apply below_drew))⟩ ⟨Kd.C_below HK.out (by repeat (first | exact Below.refl _ _ | apply below_alloc | apply below_drew))⟩ hcn hck HS.out).mono ?_; rintro e w1 ⟨vn, vk, rfl, hn, hk, hb⟩; obtain ⟨A1, c1, rfl, hc1, hn⟩ := hn; obtain ⟨A2, c2, rfl, hc2, hk⟩ := hk; have HLn := Aside0.mk hn; have HLk := Aside0.mk hk; clear hn hk; have BK1 := Aside0.mk (blk_below (box2 _ _ _).1 hb); have BK2 := Aside0.mk (blk_below (box2 _ _ _).2 hb); have HB := Aside0.mk (below_box2 hb); clear hb; have hz := blk_lt BK2.out; have hz' := blk_lt BK1.out; obtain ⟨⟨a10, a11, a12, a13⟩, b10, b11, b12, b13⟩ := blk4 BK1.out)
  clear a10 a11 a12 a13 b10 b11 b12 b13 hz'
  have hD1 : (kidDrop n name).length ≤ 16777216 := by have := kidDrop_len n name; omega
  go_loopw [9, 10] (fun pv i wr => ∃ (k : Nat) (put : Bool) (ps : List (Str × Int)) (vn vk : Value), k ≤ (kidDrop n name).length ∧ pv = .bool put ∧ i = .int .i64 k ∧ ps.length ≤ 2 * k ∧
      Aside0 (ps ++ putF name kd ((kidDrop n name).drop k) put = kidPut n name kd) ∧ Aside0 (NB w1 wr w1.heap.size (w1.heap.size + 1) n.dir n.data vn vk ps) ∧
      Aside0 (wr.heap[w1.heap.size]? = some (.cells #[.bool n.dir, .slice A1 (kidDrop n name).length c1, .slice A2 (kidDrop n name).length c2, sv n.data] 96 (0, 0)))) (fun _ i _ => (kidDrop n name).length - (intOf i).toNat)
  case atStart => exact ⟨0, false, [], _, _, Nat.zero_le _, rfl, rfl, Nat.le_refl _, ⟨rfl⟩, ⟨⟨Kd.R_nil _ _ _ _ _, Kd.R_nil _ _ _ _ _, (box2 _ _ _).2, ((Below.refl _ _).alloc (Nat.le_refl _) _).alloc (by simp) _, by omega⟩⟩, ⟨(box2 _ _ _).1⟩⟩
  case round =>
    obtain ⟨k, put, ps, vn, vk, hk, rfl, rfl, hps, ha, NBx, BK7⟩ := hrel
    have hza := blk_lt NBx.out.b
    have hzb := blk_lt BK7.out
    obtain ⟨⟨a70, a71, a72, a73⟩, b70, b71, b72, b73⟩ := blk4 BK7.out
    obtain ⟨⟨a80, a81, a82, a83⟩, b80, b81, b82, b83⟩ := blk4 NBx.out.b
    by_cases hlt : k < (kidDrop n name).length
    · obtain ⟨ad, rfl, h0⟩ := at_Str (Kd.C_below HLn.out NBx.out.below) k (by simpa using hlt)
      obtain ⟨ad2, rfl, h02⟩ := at_Int (Kd.C_below HLk.out NBx.out.below) k (by simpa using hlt)
      simp only [List.getElem_map] at h0 h02
      have HA := Lib.hid (show ps ++ (if !put && (!Op.bytesLess (kidDrop n name)[k].1 name && !(kidDrop n name)[k].1 == name) then (name, kd) :: (kidDrop n name)[k] :: putF name kd ((kidDrop n name).drop (k + 1)) true else (kidDrop n name)[k] :: putF name kd ((kidDrop n name).drop (k + 1)) put) = kidPut n name kd by
        rw [← ha.out, List.drop_eq_getElem_cons hlt, putF])
      clear ha
      go_upto_region 7 with (fail)
      go_cut [36] (fun v36 wc => v36 = .bool (!put && (!Op.bytesLess (kidDrop n name)[k].1 name && !(kidDrop n name)[k].1 == name)) ∧ wc = wr)
      case first =>
        cases put
        all_goals
          go_wp2
          go_meet
          exact ⟨by simp, rfl⟩
      case rest =>
        obtain ⟨rfl, rfl⟩ := hcut
        generalize (!put && (!Op.bytesLess (kidDrop n name)[k].1 name && !(kidDrop n name)[k].1 == name)) = bb at HA ⊢
        go_upto_if 36 with (fail)
        go_cut [9] (fun v9 wc => ∃ (put1 : Bool) (ps1 : List (Str × Int)) (vn1 vk1 : Value), v9 = .bool put1 ∧ ps1.length ≤ 2 * k + 1 ∧
          Aside0 (ps1 ++ (kidDrop n name)[k] :: putF name kd ((kidDrop n name).drop (k + 1)) put1 = kidPut n name kd) ∧ Aside0 (NB w1 wc w1.heap.size (w1.heap.size + 1) n.dir n.data vn1 vk1 ps1) ∧
          Aside0 (wc.heap[w1.heap.size]? = some (.cells #[.bool n.dir, .slice (some ad) (kidDrop n name).length c1, .slice (some ad2) (kidDrop n name).length c2, sv n.data] 96 (0, 0))))
        case first =>
          cases bb with
          | false =>
            go_wp2
            go_meet
            exact ⟨put, ps, vn, vk, rfl, by omega, ⟨by simpa using HA.out⟩, NBx, BK7⟩
          | true =>
            obtain ⟨B1, e1, ev1⟩ := Kd.R_slice NBx.out.n
            obtain ⟨B2, e2, ev2⟩ := Kd.R_slice NBx.out.k
            rw [List.length_map] at ev1 ev2
            subst ev1 ev2
            go_wp2_with (first
              | ((with_reducible refine gate_b (b := .append) (xs := #[.tmp 38, .tmp 40]) rfl ?_); at_builtin; refine appS rfl (s := .tmp 38) (x := .tmp 40) rfl _ (ps.map (·.1)) name rfl rfl ⟨NBx.out.n⟩ ⟨NBx.out.below⟩ NBx.out.below.size (by simp; omega) ?_; intro v1 w2 HO1 HB1 HG1 _; obtain ⟨C1, f1, ev1⟩ := Kd.R_slice HO1.out; rw [show (ps.map (·.1) ++ [name]).length = ps.length + 1 from by simp] at ev1; subst ev1; obtain ⟨NBy, hoth⟩ := NBx.out.name HO1.out HB1.out HG1.out; have BK7' := Aside0.mk (hoth _ _ _ BK7.out (by decide) (by omega)); have NBy := Aside0.mk NBy; clear hoth; have BKx := blk_grown NBx.out.b HG1.out (Kd.R_ne NBx.out.n NBx.out.b (by decide)); obtain ⟨⟨d0, d1, d2, d3⟩, g0, g1, g2, g3⟩ := blk4 BKx; clear BKx)
              | ((with_reducible refine gate_b (b := .append) (xs := #[.tmp 44, .tmp 46]) rfl ?_); at_builtin; refine appZ rfl (s := .tmp 44) (x := .tmp 46) rfl _ (ps.map (·.2)) kd rfl (by show Value.slice (some ⟨w2.heap.size, 0, none⟩) 1 1 = _; simp) ⟨NBy.out.k⟩ ⟨NBy.out.below⟩ NBy.out.below.size (by simp; omega) ?_; intro v2 w3 HO2 HB2 HG2 _; obtain ⟨C2, f2, ev2⟩ := Kd.R_slice HO2.out; rw [show (ps.map (·.2) ++ [kd]).length = ps.length + 1 from by simp] at ev2; subst ev2; obtain ⟨NBz, hoth⟩ := NBy.out.kid HO2.out HB2.out HG2.out; have BK7'' := Aside0.mk (hoth _ _ _ BK7'.out (by decide) (by omega)); have NBz := Aside0.mk NBz; clear hoth; have BKx := blk_grown NBy.out.b HG2.out (Kd.R_ne NBy.out.k NBy.out.b (by decide)); obtain ⟨⟨k0, k1, k2, k3⟩, l0, l1, l2, l3⟩ := blk4 BKx; clear BKx))
            go_meet
            exact ⟨true, ps ++ [(name, kd)], _, _, rfl, by simp; omega, ⟨by have h := HA.out; simp only [if_true] at h; rw [← h]; simp⟩, NBz, BK7''⟩
        case rest =>
          clear NBx BK7 a70 a71 a72 a73 b70 b71 b72 b73 a80 a81 a82 a83 b80 b81 b82 b83 HA hza hzb h0 h02
          obtain ⟨put1, ps1, vn1, vk1, rfl, hps1, ha, NBx, BK7⟩ := hcut
          have hza := blk_lt NBx.out.b
          have hzb := blk_lt BK7.out
          obtain ⟨⟨a70, a71, a72, a73⟩, b70, b71, b72, b73⟩ := blk4 BK7.out
          obtain ⟨⟨a80, a81, a82, a83⟩, b80, b81, b82, b83⟩ := blk4 NBx.out.b
          have h0 : wc.cell? (ad.add k) = some (sv (kidDrop n name)[k].1) := by
            obtain ⟨ad3, e3, h⟩ := at_Str (Kd.C_below HLn.out NBx.out.below) k (by simpa using hlt)
            cases e3
            simpa using h
          go_upto_region 11 with (fail)
          go_cut [] (fun wd => ∃ vn2, Aside0 (NBh w1 wd w1.heap.size (w1.heap.size + 1) n.dir n.data vn2 vk1 ps1 (kidDrop n name)[k].1) ∧
            Aside0 (wd.heap[w1.heap.size]? = some (.cells #[.bool n.dir, .slice (some ad) (kidDrop n name).length c1, .slice (some ad2) (kidDrop n name).length c2, sv n.data] 96 (0, 0))))
          case first =>
            go_region_law (try rw [drew_alloc]; refine appS_step (w0 := w1) (base := w1.heap.size) (s := .tmp 50) (x := .tmp 56) rfl rfl vn1 (ps1.map (·.1)) (kidDrop n name)[k].1 rfl rfl ⟨NBx.out.drew.n⟩ ⟨NBx.out.drew.below⟩ NBx.out.drew.below.size (by simp; omega) ?_; intro v1 w2 HO1 HB1 HG1 _; obtain ⟨C1, f1, ev1⟩ := Kd.R_slice HO1.out; rw [show (ps1.map (·.1) ++ [(kidDrop n name)[k].1]).length = ps1.length + 1 from by simp] at ev1; subst ev1; obtain ⟨NBy, hoth⟩ := NBx.out.drew.name HO1.out HB1.out HG1.out; have BK7' := Aside0.mk (hoth _ _ _ BK7.out (by decide) (by omega)); have NBy := Aside0.mk NBy; clear hoth; have BKx := blk_grown NBx.out.drew.b HG1.out (Kd.R_ne NBx.out.drew.n NBx.out.drew.b (by decide)); obtain ⟨⟨d0, d1, d2, d3⟩, g0, g1, g2, g3⟩ := blk4 BKx; clear BKx)
            all_goals
              go_wp2
              go_meet
              exact ⟨_, NBy, BK7'⟩
          case rest =>
            obtain ⟨vn2, NBy, BK7'⟩ := hcut
            clear NBx BK7 a70 a71 a72 a73 b70 b71 b72 b73 a80 a81 a82 a83 b80 b81 b82 b83 h0 hza hzb
            have hza := blk_lt NBy.out.b
            have hzb := blk_lt BK7'.out
            obtain ⟨⟨a70, a71, a72, a73⟩, b70, b71, b72, b73⟩ := blk4 BK7'.out
            obtain ⟨⟨a80, a81, a82, a83⟩, b80, b81, b82, b83⟩ := blk4 NBy.out.b
            have h02 : wc.cell? (ad2.add k) = some (.int .i64 (kidDrop n name)[k].2) := by
              obtain ⟨ad3, e3, h⟩ := at_Int (Kd.C_below HLk.out NBy.out.below) k (by simpa using hlt)
              cases e3
              simpa using h
            go_upto_region 12 with (fail)
            go_region_law (try rw [drew_alloc]; refine appZ_step (w0 := w1) (base := w1.heap.size) (s := .tmp 60) (x := .tmp 66) rfl rfl vk1 (ps1.map (·.2)) (kidDrop n name)[k].2 rfl rfl ⟨NBy.out.drew.k⟩ ⟨NBy.out.drew.below⟩ NBy.out.drew.below.size (by simp; omega) ?_; intro v1 w2 HO1 HB1 HG1 _; obtain ⟨C1, f1, ev1⟩ := Kd.R_slice HO1.out; rw [show (ps1.map (·.2) ++ [(kidDrop n name)[k].2]).length = ps1.length + 1 from by simp] at ev1; subst ev1; obtain ⟨NBz, hoth⟩ := NBy.out.drew.kid HO1.out HB1.out HG1.out; have BK7'' := Aside0.mk (hoth _ _ _ BK7'.out (by decide) (by omega)); have NBz := Aside0.mk NBz; clear hoth; have BKx := blk_grown NBy.out.drew.b HG1.out (Kd.R_ne NBy.out.drew.k NBy.out.drew.b (by decide)); obtain ⟨⟨d0, d1, d2, d3⟩, g0, g1, g2, g3⟩ := blk4 BKx; clear BKx)
            all_goals
              go_wp2
              go_roundw
              case rel => exact ⟨k + 1, put1, ps1 ++ [(kidDrop n name)[k]], vn2, _, by omega, rfl, by go_num, by simp; omega, ⟨by rw [← ha.out]; simp⟩, NBz, BK7''⟩
              case measure => simp [intOf] <;> omega
    · have HA := Lib.hid (show ps ++ (if put then [] else [(name, kd)]) = kidPut n name kd by
        rw [← ha.out, List.drop_eq_nil_of_le (by omega), putF])
      clear ha
      have BKr := Aside0.mk (blk_below BK2.out NBx.out.below)
      go_upto_if 70 with (fail)
      go_cut [] (fun wc => ∃ (vn1 vk1 : Value), Aside0 (NB w1 wc w1.heap.size (w1.heap.size + 1) n.dir n.data vn1 vk1 (kidPut n name kd)))
      case first =>
        cases put with
        | true =>
          go_wp2
          go_meet
          exact ⟨vn, vk, ⟨by have h := HA.out; simp only [if_true, List.append_nil] at h; rw [← h]; exact NBx.out⟩⟩
        | false =>
          have h := HA.out
          simp only [Bool.false_eq_true, if_false] at h
          have HA' := Lib.hid h
          clear h HA
          obtain ⟨B1, e1, ev1⟩ := Kd.R_slice NBx.out.n
          obtain ⟨B2, e2, ev2⟩ := Kd.R_slice NBx.out.k
          rw [List.length_map] at ev1 ev2
          subst ev1 ev2
          go_wp2_with (first
            | ((with_reducible refine gate_b (b := .append) (xs := #[.tmp 72, .tmp 74]) rfl ?_); at_builtin; refine appS rfl (s := .tmp 72) (x := .tmp 74) rfl _ (ps.map (·.1)) name rfl rfl ⟨NBx.out.n⟩ ⟨NBx.out.below⟩ NBx.out.below.size (by simp; omega) ?_; intro v1 w2 HO1 HB1 HG1 _; obtain ⟨C1, f1, ev1⟩ := Kd.R_slice HO1.out; rw [show (ps.map (·.1) ++ [name]).length = ps.length + 1 from by simp] at ev1; subst ev1; obtain ⟨NBy, hoth⟩ := NBx.out.name HO1.out HB1.out HG1.out; have NBy := Aside0.mk NBy; clear hoth; have BKx := blk_grown NBx.out.b HG1.out (Kd.R_ne NBx.out.n NBx.out.b (by decide)); obtain ⟨⟨d0, d1, d2, d3⟩, g0, g1, g2, g3⟩ := blk4 BKx; clear BKx)
            | ((with_reducible refine gate_b (b := .append) (xs := #[.tmp 78, .tmp 80]) rfl ?_); at_builtin; refine appZ rfl (s := .tmp 78) (x := .tmp 80) rfl _ (ps.map (·.2)) kd rfl (by show Value.slice (some ⟨w2.heap.size, 0, none⟩) 1 1 = _; simp) ⟨NBy.out.k⟩ ⟨NBy.out.below⟩ NBy.out.below.size (by simp; omega) ?_; intro v2 w3 HO2 HB2 HG2 _; obtain ⟨C2, f2, ev2⟩ := Kd.R_slice HO2.out; rw [show (ps.map (·.2) ++ [kd]).length = ps.length + 1 from by simp] at ev2; subst ev2; obtain ⟨NBz, hoth⟩ := NBy.out.kid HO2.out HB2.out HG2.out; have NBz := Aside0.mk NBz; clear hoth; have BKx := blk_grown NBy.out.b HG2.out (Kd.R_ne NBy.out.k NBy.out.b (by decide)); obtain ⟨⟨k0, k1, k2, k3⟩, l0, l1, l2, l3⟩ := blk4 BKx; clear BKx))
          go_meet
          exact ⟨_, _, ⟨by rw [← HA'.out]; exact NBz.out⟩⟩
      case rest =>
        clear NBx BK7 a70 a71 a72 a73 b70 b71 b72 b73 a80 a81 a82 a83 b80 b81 b82 b83 HA hza hzb BKr
        obtain ⟨vn1, vk1, NBx⟩ := hcut
        have BKr := Aside0.mk (blk_below BK2.out NBx.out.below)
        obtain ⟨B1, e1, ev1⟩ := Kd.R_slice NBx.out.n
        obtain ⟨B2, e2, ev2⟩ := Kd.R_slice NBx.out.k
        rw [List.length_map] at ev1 ev2
        subst ev1 ev2
        obtain ⟨⟨a80, a81, a82, a83⟩, b80, b81, b82, b83⟩ := blk4 NBx.out.b
        obtain ⟨⟨c20, c21, c22, c23⟩, f20, f21, f22, f23⟩ := blk4 BKr.out
        go_wp2
        refine bodyPost_ret (v := .agg #[.bool n.dir, .slice B1 (kidPut n name kd).length e1, .slice B2 (kidPut n name kd).length e2, sv n.data]) (by simp [results, Tryz.results146, go_sem, c20, c21, c22, c23, f20, f21, f22, f23]) rfl ⟨_, _, rfl, ?_, ?_, ?_⟩
        · exact own_lower HB.out.size (Kd.R_far (Kd.R_far (Kd.R_far (Kd.R_far (Kd.R_types NBx.out.n BKr.out (fun q hq => by rw [List.mem_singleton.1 hq]; decide)) (fun _ hk => hk.2) _) (fun _ hk => hk.2) _) (fun _ hk => hk.2) _) (fun _ hk => hk.2) _)
        · exact own_lower HB.out.size (Kd.R_far (Kd.R_far (Kd.R_far (Kd.R_far (Kd.R_types NBx.out.k BKr.out (fun q hq => by rw [List.mem_singleton.1 hq]; decide)) (fun _ hk => hk.2) _) (fun _ hk => hk.2) _) (fun _ hk => hk.2) _) (fun _ hk => hk.2) _)
        · repeat (first | exact below_then HB.out HB.out.size NBx.out.below | refine Below.setCell ?_ (show w.heap.size ≤ w.heap.size + 1 by omega) _)
end Go.Proofs.YtijeoadfgjpefaaGreatDoor
