/- The walks of impl's path functions. Conditions: lengths below 16777216; bytealg.MaxLen holds some int. The walks of impl's Split, Under and Find. Conditions: lengths below 16777216; bytealg.MaxLen holds some int. -/
import Derived.Test.YtijeoadfgjpefaaGreatDoorWPath
import Derived.Test.YtijeoadfgjpefaaGreatDoorLPath
import Derived.Test.YtijeoadfgjpefaaGreatDoorL4
import Derived.Test.YtijeoadfgjpefaaGreatDoorShelf
import Derived.Test.YtijeoadfgjpefaaGreatDoorWList
import Derived.WalkSmall
import Derived.Test.YtijeoadfgjpefaaGreatDoorBase
namespace Go.Proofs.YtijeoadfgjpefaaGreatDoor
open Go.RowKit Go.Proofs.YtijeoadfgjpefaaGreatDoorW.PrintWords
set_option linter.unusedSimpArgs false
set_option linter.unusedVariables false

/-- The variable that strings.Index reads holds an int. -/
def MX (m : Int) (w : World) : Prop := w.cell? ⟨0, 0, none⟩ = some (.int .i64 m)
theorem MX.pos {m : Int} {w : World} (h : MX m w) : 0 < w.heap.size := by
  unfold MX World.cell? at h
  by_cases h0 : 0 < w.heap.size
  · exact h0
  · have : w.heap[0]? = none := Array.getElem?_eq_none (by omega)
    simp [this] at h
theorem MX.below {m : Int} {B : Nat} {w w1 : World} (h : MX m w) (hB : w.heap.size ≤ B) (hb : Below B w w1) : MX m w1 := by
  have := h.pos
  exact (World.cell?_of_block (hb.block 0 (by omega))).trans h

theorem implNameOk (s : Str) (w : World) (hs : s.length ≤ 16777216) :
    Calls Tryz.prog 121 #[sv s] w fun e w' => e = .returned (.bool (nameOk s)) ∧ Below w.heap.size w w' := by
  go_enter Tryz.func121, Tryz.ntmps121
  go_wp2
  go_loop [3, 6] (fun _ i => ∃ k : Nat, k ≤ s.length ∧ i = .int .i64 k ∧ Aside0 ((s.drop k).all lower = s.all lower)) (fun _ i => s.length - (intOf i).toNat)
  case atStart => exact ⟨0, Nat.zero_le _, rfl, ⟨rfl⟩⟩
  case round =>
    obtain ⟨k, hk, rfl, ha⟩ := hrel
    by_cases hlt : k < s.length
    · have hby := byte_ix hlt
      have HA := Lib.hid (show (decide (97 ≤ byte s k) && decide (byte s k ≤ 122) && (s.drop (k + 1)).all lower) = s.all lower by
        rw [← ha.out, List.drop_eq_getElem_cons hlt, List.all_cons, lower, byte_at hlt])
      clear ha
      by_cases h1 : byte s k < 97
      · have HF := Lib.hid (show nameOk s = false by
          have h1' : ¬ 97 ≤ byte s k := by omega
          simp [nameOk, ← HA.out, h1'])
        go_wp2
        go_ret
        exact ⟨by rw [HF.out]; rfl, Below.refl _ _⟩
      · by_cases h2 : byte s k > 122
        · have HF := Lib.hid (show nameOk s = false by
            have h2' : ¬ byte s k ≤ 122 := by omega
            simp [nameOk, ← HA.out, h2'])
          go_wp2
          go_ret
          exact ⟨by rw [HF.out]; rfl, Below.refl _ _⟩
        · go_wp2
          exact ⟨⟨k + 1, by omega, by go_num, ⟨by
            have e1 : 97 ≤ byte s k := by omega
            have e2 : byte s k ≤ 122 := by omega
            have := HA.out; simp only [e1, e2, decide_true, Bool.true_and] at this; exact this⟩⟩, by simp [intOf]; omega⟩
    · have HA := Lib.hid (show s.all lower = true by rw [← ha.out, List.drop_eq_nil_of_le (by omega)]; rfl)
      clear ha
      have HF := Lib.hid (show PFnExactPlain.impl_in.f (s.length : Int) 1 6 = some (nameOk s) by
        have e1 : decide (1 ≤ (s.length : Int)) = decide (1 ≤ s.length) := by rw [decide_eq_decide]; omega
        have e2 : decide ((s.length : Int) ≤ 6) = decide (s.length ≤ 6) := by rw [decide_eq_decide]; omega
        rw [nameOk, HA.out, Bool.true_and, PFnExactPlain.impl_in.f]
        split
        · rename_i h; rw [e2]; have : 1 ≤ s.length := by omega
          simp [this]
        · rename_i h; have : ¬ 1 ≤ s.length := by omega
          simp [this])
      go_wp2_with (go_at_call 98; refine (PFnExactPlain.impl_in.calls _ _ _ _ _ HF.out).mono ?_; rintro e w1 ⟨rfl, hb⟩; have HB := Aside0.mk hb.below; clear hb)
      go_ret
      exact ⟨rfl, HB.out⟩

/-- The first place at which p holds, or -1. -/
def idxF {α : Type} (p : α → Bool) : List α → Nat → Int
  | [], _ => -1
  | x :: r, k => if p x then (k : Int) else idxF p r (k + 1)
theorem idxF_any {α : Type} (p : α → Bool) : ∀ (l : List α) (k : Nat), decide (0 ≤ idxF p l k) = l.any p
  | [], _ => by simp [idxF]
  | x :: r, k => by
    rw [idxF, List.any_cons]
    split
    · rename_i h; simp [h]
    · rename_i h; rw [idxF_any p r (k + 1)]; simp [h]

/-- slices.IndexFunc at strings, at whatever predicate that keeps what lay before. -/
theorem implIndexFuncS (g : Nat) (lb : Array Value) (p : Str → Bool) (A : Option Addr) (c : Nat) (l : List Str) (w : World) (HR : Aside0 (Kd.C kStr w A l.length l)) (hl : l.length ≤ 16777217)
    (eg : ∀ args w, (callFunc g args).run Tryz.prog w = .ok (.enter g args) w)
    (hp : Aside0 (∀ x ∈ l, ∀ w1, Below w.heap.size w w1 → Calls Tryz.prog g (#[sv x] ++ lb) w1 fun e w' => e = .returned (.bool (p x)) ∧ Below w1.heap.size w1 w')) :
    Calls Tryz.prog 174 #[.slice A l.length c, .func (.func g) #[] lb] w fun e w' => e = .returned (.int .i64 (idxF p l 0)) ∧ Below w.heap.size w w' := by
  go_enter Tryz.func174, Tryz.ntmps174
  go_wp2
  go_loopw [5, 8] (fun _ i wr => ∃ k : Nat, k ≤ l.length ∧ i = .int .i64 k ∧ Aside0 (idxF p (l.drop k) k = idxF p l 0) ∧ Aside0 (Below w.heap.size w wr)) (fun _ i _ => l.length - (intOf i).toNat)
  case atStart => exact ⟨0, Nat.zero_le _, rfl, ⟨rfl⟩, ⟨Below.refl _ _⟩⟩
  case round =>
    obtain ⟨k, hk, rfl, ha, HB⟩ := hrel
    by_cases hlt : k < l.length
    · obtain ⟨ad, rfl, h0⟩ := at_Str (Kd.C_below HR.out HB.out) k hlt
      have HA := Lib.hid (show (if p l[k] = true then (k : Int) else idxF p (l.drop (k + 1)) (k + 1)) = idxF p l 0 by rw [← ha.out, List.drop_eq_getElem_cons hlt, idxF])
      clear ha
      have HC := Aside0.mk (hp.out _ (List.getElem_mem hlt) wr HB.out)
      rcases Bool.eq_false_or_eq_true (p l[k]) with h1 | h1
      all_goals
        rw [h1] at HC HA
        go_wp2_with (go_at_fn g; refine HC.out.mono ?_; rintro e w' ⟨rfl, hb⟩; have HB2 := Aside0.mk (below_then HB.out HB.out.size hb); clear hb)
      · go_ret
        exact ⟨by rw [← HA.out]; rfl, HB2.out⟩
      · go_roundw
        case rel => exact ⟨k + 1, by omega, by go_num, ⟨by simpa using HA.out⟩, HB2⟩
        case measure => simp [intOf] <;> omega
    · have HA := Lib.hid (show idxF p l 0 = -1 by rw [← ha.out, List.drop_eq_nil_of_le (by omega), idxF])
      clear ha
      go_wp2
      go_ret
      exact ⟨by rw [HA.out]; rfl, HB.out⟩

/-- slices.ContainsFunc at strings. -/
theorem implContainsFuncS (g : Nat) (lb : Array Value) (p : Str → Bool) (A : Option Addr) (c : Nat) (l : List Str) (w : World) (HR : Aside0 (Kd.C kStr w A l.length l)) (hl : l.length ≤ 16777217)
    (eg : ∀ args w, (callFunc g args).run Tryz.prog w = .ok (.enter g args) w)
    (hp : Aside0 (∀ x ∈ l, ∀ w1, Below w.heap.size w w1 → Calls Tryz.prog g (#[sv x] ++ lb) w1 fun e w' => e = .returned (.bool (p x)) ∧ Below w1.heap.size w1 w')) :
    Calls Tryz.prog 119 #[.slice A l.length c, .func (.func g) #[] lb] w fun e w' => e = .returned (.bool (l.any p)) ∧ Below w.heap.size w w' := by
  have HF := Lib.hid (idxF_any p l 0)
  go_enter Tryz.func119, Tryz.ntmps119
  go_wp2_with (go_at_call 174; refine (implIndexFuncS g lb p A c l _ HR hl eg hp).mono ?_; rintro e w1 ⟨rfl, hb⟩; have HB := Aside0.mk hb; clear hb)
  go_ret
  exact ⟨by rw [← HF.out]; simp, HB.out⟩

/-- PathOk's closure: no name. -/
theorem implPathOk1 (s : Str) (w : World) (hs : s.length ≤ 16777216) :
    Calls Tryz.prog 120 #[sv s] w fun e w' => e = .returned (.bool (!nameOk s)) ∧ Below w.heap.size w w' := by
  go_enter Tryz.func120, Tryz.ntmps120
  go_wp2_with (go_at_call 121; refine (implNameOk s _ hs).mono ?_; rintro e w1 ⟨rfl, hb⟩; have HB := Aside0.mk hb; clear hb)
  go_ret
  exact ⟨rfl, HB.out⟩

/-- A row of strings, just made. -/
theorem C_lits (W : World) (xs : List Str) (t : TypeId) {b : Nat} (hb : W.heap.size = b) (hn : 0 < xs.length) (hm : xs.length ≤ 1000000000) : Kd.C kStr (W.alloc (.cells (xs.map sv).toArray t)) (some ⟨b, 0, none⟩) xs.length xs := by
  subst hb
  refine ⟨rfl, by omega, fun _ => ⟨_, rfl, fun j p hj => ⟨[sv p], rfl, rfl, fun i u hu => ?_⟩⟩⟩
  match i, hu with
  | 0, hu =>
    cases hu
    have h1 : (xs.map sv)[j]? = some (sv p) := by rw [List.getElem?_map, hj]; rfl
    have h2 : (⟨W.heap.size, 0, none⟩ : Addr).add (j * kStr.sz + 0) = ⟨W.heap.size, j, none⟩ := by
      rw [add_plain, show kStr.sz = 1 from rfl]; simp
    rw [h2]
    exact (blk_cell (blk_new W _) j).trans (by simpa using h1)
  | i + 1, hu => simp at hu
theorem implPathOk (m : Int) (s : Str) (w : World) (hs : s.length ≤ 16777216) (HM : Aside0 (MX m w)) :
    Calls Tryz.prog 55 #[sv s] w fun e w' => e = .returned (.bool (pathOk s)) ∧ Below w.heap.size w w' := by
  by_cases h0 : s = []
  · subst h0
    go_enter Tryz.func55, Tryz.ntmps55
    go_wp2
    go_ret
    exact ⟨rfl, Below.refl _ _⟩
  have hne : s.isEmpty = false := by simpa using h0
  have HN := Lib.hid (show pathOk s = (decide (((segs [] s).length : Int) ≤ 4) && !(segs [] s).any (fun x => !nameOk x)) by
    have e : names s = segs [] s := by simp [names, h0]
    have e2 : decide (((segs [] s).length : Int) ≤ 4) = decide ((segs [] s).length ≤ 4) := by rw [decide_eq_decide]; omega
    have e3 : (!(segs [] s).any fun x => !nameOk x) = (segs [] s).all nameOk := by simp [List.any_eq_not_all_not]
    rw [pathOk, e, e2, e3, Bool.and_comm])
  have hlen := segs_len s []
  have hle := segs_le s []
  have HS := Lib.hid (splitB_form s)
  have hct := countB_segs s
  have HZ := Lib.hid (show (⟨s.toArray⟩ : ByteArray).size < 4294967281 by
    have e : (⟨s.toArray⟩ : ByteArray).size = s.length := rfl
    rw [e]; omega)
  have H47 := Lib.hid (show 1 ≤ (⟨#[47]⟩ : ByteArray).size from Nat.le_refl 1)
  clear h0
  have hC : ∀ W : World, W.heap.size = w.heap.size → Kd.C kStr (W.alloc (.cells ((segs [] s).map sv).toArray 9)) (some ⟨w.heap.size, 0, none⟩) (segs [] s).length (segs [] s) := fun W hW => C_lits W _ _ hW (by omega) (by omega)
  have EG : ∀ args w, (callFunc 120 args).run Tryz.prog w = .ok (.enter 120 args) w := enters_of Tryz.func120 (by kernel_rfl) rfl
  by_cases h4 : ((segs [] s).length : Int) ≤ 4
  · have HF := Lib.hid (show pathOk s = !(segs [] s).any (fun x => !nameOk x) by rw [HN.out, decide_eq_true h4, Bool.true_and])
    go_enter Tryz.func55, Tryz.ntmps55
    go_wp2_with (first
      | (go_at_call 118; refine (Go.Proofs.Tryz.strings_Split ⟨s.toArray⟩ ⟨#[47]⟩ m _ HZ.out HM.out H47.out).mono ?_; rintro e w1 ⟨he, hw⟩; rw [HS.out] at hw; rw [hct] at he; subst he hw)
      | (go_at_call 119; go_loud (refine (implContainsFuncS 120 #[] (fun x => !nameOk x) (some ⟨w.heap.size, 0, none⟩) _ (segs [] s) _ ⟨by exact hC w rfl⟩ (by omega) EG ⟨fun x hx w1 _ => implPathOk1 x w1 (by have := hle x hx; simp at this; omega)⟩).mono ?_); rintro e w1 ⟨rfl, hb⟩; have HB := Aside0.mk (below_box hb); clear hb))
    go_ret
    exact ⟨by rw [HF.out]; rfl, HB.out⟩
  · have HF := Lib.hid (show pathOk s = false by rw [HN.out, decide_eq_false h4, Bool.false_and])
    go_enter Tryz.func55, Tryz.ntmps55
    go_wp2_with (go_at_call 118; refine (Go.Proofs.Tryz.strings_Split ⟨s.toArray⟩ ⟨#[47]⟩ m _ HZ.out HM.out H47.out).mono ?_; rintro e w1 ⟨he, hw⟩; rw [HS.out] at hw; rw [hct] at he; subst he hw)
    go_ret
    exact ⟨by rw [HF.out]; rfl, (Below.refl _ _).alloc (Nat.le_refl _) _⟩
end Go.Proofs.YtijeoadfgjpefaaGreatDoor
namespace Go.Proofs.YtijeoadfgjpefaaGreatDoor
open Go.RowKit Go.Proofs.YtijeoadfgjpefaaGreatDoorW.PrintWords
set_option linter.unusedSimpArgs false
set_option linter.unusedVariables false

theorem implSplit (m : Int) (s : Str) (w : World) (hs : s.length ≤ 16777216) (HM : Aside0 (MX m w)) :
    Calls Tryz.prog 123 #[sv s] w fun e w' => e = .returned (.tuple #[sv (split s).1, sv (split s).2.1, .bool (split s).2.2]) ∧ Below w.heap.size w w' := by
  by_cases h0 : s = []
  · subst h0
    go_enter Tryz.func123, Tryz.ntmps123
    go_wp2
    go_ret3
    exact ⟨rfl, Below.refl _ _⟩
  have hne : s.isEmpty = false := by simpa using h0
  by_cases hp : pathOk s = false
  · have HF := Lib.hid (show split s = ([], [], false) by simp [split, h0, hp])
    clear h0
    go_enter Tryz.func123, Tryz.ntmps123
    go_wp2_with (go_at_call 55; refine (implPathOk m s _ hs HM).mono ?_; rintro e w1 ⟨rfl, hb⟩; have HB := Aside0.mk hb; clear hb)
    go_ret3
    exact ⟨by rw [HF.out]; rfl, HB.out⟩
  have hp : pathOk s = true := by simpa using hp
  have HL := Lib.hid (show Lib.lastIndexByte ⟨s.toArray⟩ 47 = (lastAt s s.length : Int) - 1 from lastIdx_lastAt s s.length (Nat.le_refl _))
  have HZ := Lib.hid (show (⟨s.toArray⟩ : ByteArray).size < 4611686018427387904 by
    have e : (⟨s.toArray⟩ : ByteArray).size = s.length := rfl
    rw [e]; omega)
  have hla := lastAt_le s s.length
  by_cases h2 : lastAt s s.length = 0
  · have HF := Lib.hid (show split s = ([], s, true) by simp [split, h0, hp, h2])
    rw [h2] at HL
    clear h0
    go_enter Tryz.func123, Tryz.ntmps123
    go_wp2_with (first
      | (go_at_call 55; refine (implPathOk m s _ hs HM).mono ?_; rintro e w1 ⟨rfl, hb⟩; have HB := Aside0.mk hb; clear hb)
      | (go_at_call 175; refine (Go.Proofs.Tryz.strings_LastIndexByte ⟨s.toArray⟩ 47 HZ.out _).mono ?_; rintro e w2 ⟨he, rfl⟩; rw [HL.out] at he; subst he))
    go_ret3
    exact ⟨by rw [HF.out]; rfl, HB.out⟩
  · have HF := Lib.hid (show split s = (s.take (lastAt s s.length - 1), s.drop (lastAt s s.length), true) by simp [split, h0, hp, h2])
    clear h0
    obtain ⟨i, hi⟩ : ∃ i, lastAt s s.length = i + 1 := ⟨lastAt s s.length - 1, by omega⟩
    rw [hi] at HF HL hla
    have HL := Lib.hid (show Lib.lastIndexByte ⟨s.toArray⟩ 47 = (i : Int) by rw [HL.out]; omega)
    have h3 := cutTo s i
    have h4 := cutFrom s (i + 1)
    clear hi h2
    go_enter Tryz.func123, Tryz.ntmps123
    go_wp2_with (first
      | (go_at_call 55; refine (implPathOk m s _ hs HM).mono ?_; rintro e w1 ⟨rfl, hb⟩; have HB := Aside0.mk hb; clear hb)
      | (go_at_call 175; refine (Go.Proofs.Tryz.strings_LastIndexByte ⟨s.toArray⟩ 47 HZ.out _).mono ?_; rintro e w2 ⟨he, rfl⟩; rw [HL.out] at he; subst he)
      | go_quiet (fail))
    go_ret3
    exact ⟨by rw [HF.out]; rfl, below_drewN HB.out _⟩

theorem prefix_eq (p q : Str) : Lib.hasPrefix p (q ++ [47]) = (decide (q.length < p.length) && (p.take q.length == q) && (byte p q.length == 47)) := by
  unfold Lib.hasPrefix
  induction q generalizing p with
  | nil =>
    cases p with
    | nil => simp
    | cons a l =>
      have e : byte (a :: l) ([] : Str).length = (a.toNat : Int) := by simp [byte]
      rw [e]
      by_cases h : a = 47
      · subst h; simp
      · have h2 : ¬ ((a.toNat : Int) = 47) := fun hh => h (UInt8.toNat_inj.1 (by show a.toNat = 47; omega))
        have h3 : ¬ (47 : UInt8) = a := fun hh => h hh.symm
        have h4 : ((47 : UInt8) == a) = false := by simpa using h3
        have h5 : ((a.toNat : Int) == 47) = false := by simpa using h2
        rw [h5]
        simp [List.isPrefixOf, h4]
  | cons b q ih =>
    cases p with
    | nil => simp
    | cons a l =>
      have e : byte (a :: l) (b :: q).length = byte l q.length := by simp [byte]
      rw [e, List.cons_append, List.isPrefixOf, ih l]
      by_cases h : b = a
      · subst h; simp
      · have h3 : ¬ a = b := fun hh => h hh.symm
        have h4 : (b == a) = false := by simpa using h
        have h6 : ((a :: List.take q.length l) == (b :: q)) = false := by simpa using fun hh : a = b => absurd hh h3
        rw [h4, List.length_cons, List.take_succ_cons, h6]
        simp
theorem hasPrefixC (p q : Str) (w : World) : Calls Tryz.prog 179 #[sv p, .string (({ data := List.toArray q } : ByteArray) ++ ({ data := #[47] } : ByteArray))] w fun e w' => e = .returned (.bool (Lib.hasPrefix p (q ++ [47]))) ∧ w' = w := by
  have h := Go.Proofs.Tryz.strings_HasPrefix ⟨p.toArray⟩ (({ data := List.toArray q } : ByteArray) ++ ({ data := #[47] } : ByteArray)) w
  rw [show (({ data := List.toArray q } : ByteArray) ++ ({ data := #[47] } : ByteArray)) = ⟨(q ++ [47]).toArray⟩ from catS q [47]] at h ⊢
  exact h
theorem implUnder (m : Int) (p q : Str) (w : World) (hp : p.length ≤ 16777216) (hq : q.length ≤ 16777216) (HM : Aside0 (MX m w)) :
    Calls Tryz.prog 140 #[sv p, sv q] w fun e w' => e = .returned (.bool (under p q)) ∧ Below w.heap.size w w' := by
  by_cases h1 : pathOk p = true
  · by_cases h2 : pathOk q = true
    · have HF := Lib.hid (show under p q = (q.isEmpty || p == q || Lib.hasPrefix p (q ++ [47])) by rw [prefix_eq]; simp [under, h1, h2])
      go_enter Tryz.func140, Tryz.ntmps140
      go_wp2_with (first | (go_at_call_of 55 (sv p); refine (implPathOk m p _ hp HM).mono ?_; rintro e w1 ⟨rfl, hb⟩; have HB := Aside0.mk hb; clear hb) | (go_at_call_of 55 (sv q); refine (implPathOk m q _ hq ⟨HM.out.below (Nat.le_refl _) HB.out⟩).mono ?_; rintro e w2 ⟨rfl, hb⟩; have HB2 := Aside0.mk hb; clear hb) | (go_at_call 179; refine (hasPrefixC p q _).mono ?_; rintro e w3 ⟨rfl, rfl⟩))
      all_goals
        go_ret
        exact ⟨by rw [HF.out]; simp [*] <;> (try rfl), below_then HB.out HB.out.size HB2.out⟩
    · have HF := Lib.hid (show under p q = false by simp [under, h2])
      have h2 : pathOk q = false := by simpa using h2
      go_enter Tryz.func140, Tryz.ntmps140
      go_wp2_with (first | (go_at_call_of 55 (sv p); refine (implPathOk m p _ hp HM).mono ?_; rintro e w1 ⟨rfl, hb⟩; have HB := Aside0.mk hb; clear hb) | (go_at_call_of 55 (sv q); refine (implPathOk m q _ hq ⟨HM.out.below (Nat.le_refl _) HB.out⟩).mono ?_; rintro e w2 ⟨rfl, hb⟩; have HB2 := Aside0.mk hb; clear hb) | (go_at_call 179; refine (hasPrefixC p q _).mono ?_; rintro e w3 ⟨rfl, rfl⟩))
      go_ret
      exact ⟨by rw [HF.out]; rfl, below_then HB.out HB.out.size HB2.out⟩
  · have HF := Lib.hid (show under p q = false by simp [under, h1])
    have h1 : pathOk p = false := by simpa using h1
    go_enter Tryz.func140, Tryz.ntmps140
    go_wp2_with (first | (go_at_call_of 55 (sv p); refine (implPathOk m p _ hp HM).mono ?_; rintro e w1 ⟨rfl, hb⟩; have HB := Aside0.mk hb; clear hb) | (go_at_call_of 55 (sv q); refine (implPathOk m q _ hq ⟨HM.out.below (Nat.le_refl _) HB.out⟩).mono ?_; rintro e w2 ⟨rfl, hb⟩; have HB2 := Aside0.mk hb; clear hb) | (go_at_call 179; refine (hasPrefixC p q _).mono ?_; rintro e w3 ⟨rfl, rfl⟩))
    go_ret
    exact ⟨by rw [HF.out]; rfl, HB.out⟩

abbrev itv (x : Item) : Value := .agg #[sv x.path, .bool x.dir, sv x.data]
/-- slices.IndexFunc at items, at whatever predicate that keeps what lay before. -/
theorem implIndexFuncI (g : Nat) (lb : Array Value) (p : Item → Bool) (A : Option Addr) (c : Nat) (l : List Item) (w : World) (HR : Aside0 (Kd.C kItem w A l.length l)) (hl : l.length ≤ 16777217)
    (eg : ∀ args w, (callFunc g args).run Tryz.prog w = .ok (.enter g args) w)
    (hp : Aside0 (∀ x ∈ l, ∀ w1, Below w.heap.size w w1 → Calls Tryz.prog g (#[itv x] ++ lb) w1 fun e w' => e = .returned (.bool (p x)) ∧ Below w1.heap.size w1 w')) :
    Calls Tryz.prog 127 #[.slice A l.length c, .func (.func g) #[] lb] w fun e w' => e = .returned (.int .i64 (idxF p l 0)) ∧ Below w.heap.size w w' := by
  go_enter Tryz.func127, Tryz.ntmps127
  go_wp2
  go_loopw [5, 8] (fun _ i wr => ∃ k : Nat, k ≤ l.length ∧ i = .int .i64 k ∧ Aside0 (idxF p (l.drop k) k = idxF p l 0) ∧ Aside0 (Below w.heap.size w wr)) (fun _ i _ => l.length - (intOf i).toNat)
  case atStart => exact ⟨0, Nat.zero_le _, rfl, ⟨rfl⟩, ⟨Below.refl _ _⟩⟩
  case round =>
    obtain ⟨k, hk, rfl, ha, HB⟩ := hrel
    by_cases hlt : k < l.length
    · obtain ⟨ad, rfl, h0, h1, h2⟩ := at_Item (Kd.C_below HR.out HB.out) k hlt
      have HA := Lib.hid (show (if p l[k] = true then (k : Int) else idxF p (l.drop (k + 1)) (k + 1)) = idxF p l 0 by rw [← ha.out, List.drop_eq_getElem_cons hlt, idxF])
      clear ha
      have HC := Aside0.mk (hp.out _ (List.getElem_mem hlt) wr HB.out)
      rcases Bool.eq_false_or_eq_true (p l[k]) with h1 | h1
      all_goals
        rw [h1] at HC HA
        go_wp2_with (go_at_fn g; refine HC.out.mono ?_; rintro e w' ⟨rfl, hb⟩; have HB2 := Aside0.mk (below_then HB.out HB.out.size hb); clear hb)
      · go_ret
        exact ⟨by rw [← HA.out]; rfl, HB2.out⟩
      · go_roundw
        case rel => exact ⟨k + 1, by omega, by go_num, ⟨by simpa using HA.out⟩, HB2⟩
        case measure => simp [intOf] <;> omega
    · have HA := Lib.hid (show idxF p l 0 = -1 by rw [← ha.out, List.drop_eq_nil_of_le (by omega), idxF])
      clear ha
      go_wp2
      go_ret
      exact ⟨by rw [HA.out]; rfl, HB.out⟩
theorem implContainsFuncI (g : Nat) (lb : Array Value) (p : Item → Bool) (A : Option Addr) (c : Nat) (l : List Item) (w : World) (HR : Aside0 (Kd.C kItem w A l.length l)) (hl : l.length ≤ 16777217)
    (eg : ∀ args w, (callFunc g args).run Tryz.prog w = .ok (.enter g args) w)
    (hp : Aside0 (∀ x ∈ l, ∀ w1, Below w.heap.size w w1 → Calls Tryz.prog g (#[itv x] ++ lb) w1 fun e w' => e = .returned (.bool (p x)) ∧ Below w1.heap.size w1 w')) :
    Calls Tryz.prog 102 #[.slice A l.length c, .func (.func g) #[] lb] w fun e w' => e = .returned (.bool (l.any p)) ∧ Below w.heap.size w w' := by
  have HF := Lib.hid (idxF_any p l 0)
  go_enter Tryz.func102, Tryz.ntmps102
  go_wp2_with (go_at_call 127; refine (implIndexFuncI g lb p A c l _ HR hl eg hp).mono ?_; rintro e w1 ⟨rfl, hb⟩; have HB := Aside0.mk hb; clear hb)
  go_ret
  exact ⟨by rw [← HF.out]; simp, HB.out⟩
theorem implFind1 (x : Item) (s : Str) (b : Nat) (w : World) (hb : w.cell? ⟨b, 0, none⟩ = some (sv s)) (hlt : b < w.heap.size) :
    Calls Tryz.prog 128 #[itv x, .pointer (some ⟨b, 0, none⟩)] w fun e w' => e = .returned (.bool (x.path == s)) ∧ Below w.heap.size w w' := by
  go_enter Tryz.func128, Tryz.ntmps128
  go_wp2
  go_ret
  exact ⟨by simp, (Below.refl _ _).alloc (Nat.le_refl _) _⟩
theorem idxF_find (s : Str) : ∀ (l : List Item) (k : Nat), idxF (fun x => x.path == s) l k = findF s l k
  | [], _ => rfl
  | x :: r, k => by rw [idxF, findF, idxF_find s r]
end Go.Proofs.YtijeoadfgjpefaaGreatDoor
