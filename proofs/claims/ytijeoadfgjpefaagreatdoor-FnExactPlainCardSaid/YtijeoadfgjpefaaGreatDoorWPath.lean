/- The walks of the reference's path functions: each returns what the plain function of lists says. Conditions: lengths below 16777216. The walks of the reference's Split and Under. Conditions: lengths below 16777216. -/
import Derived.Test.YtijeoadfgjpefaaGreatDoorBase
import Derived.BigQuiet
import Derived.Deep.QuietTactic
namespace Go.Proofs.YtijeoadfgjpefaaGreatDoor
open Go.RowKit Go.Proofs.YtijeoadfgjpefaaGreatDoorW.PrintWords
set_option linter.unusedSimpArgs false
set_option linter.unusedVariables false
def segs : Str → Str → List Str
  | cur, [] => [cur]
  | cur, c :: r => if c = 47 then cur :: segs [] r else segs (cur ++ [c]) r
def names (s : Str) : List Str := if s = [] then [] else segs [] s

theorem names_step {s : Str} {a k : Nat} {xs : List Str} (hk : k < s.length) (ha : xs ++ segs ((s.take k).drop a) (s.drop k) = segs [] s) (hak : a ≤ k) :
    (s[k] = 47 → (xs ++ [(s.take k).drop a]) ++ segs ((s.take (k + 1)).drop (k + 1)) (s.drop (k + 1)) = segs [] s) ∧ (s[k] ≠ 47 → xs ++ segs ((s.take (k + 1)).drop a) (s.drop (k + 1)) = segs [] s) := by
  rw [List.drop_eq_getElem_cons hk, segs] at ha
  constructor
  · intro h
    rw [if_pos h] at ha
    rw [← ha]
    have : (s.take (k + 1)).drop (k + 1) = [] := by simp
    rw [this]; simp
  · intro h
    rw [if_neg h] at ha
    rw [← ha, List.take_succ_eq_append_getElem hk, List.drop_append_of_le_length (by simp; omega)]
theorem specNames (s : Str) (w : World) (hs : s.length ≤ 16777216) :
    Calls Tryz.prog 147 #[sv s] w fun e w' => ∃ v, e = .returned v ∧ Own kStr 9 w' w.heap.size v (names s) ∧ Below w.heap.size w w' := by
  by_cases h0 : s = []
  · subst h0
    go_enter Tryz.func147, Tryz.ntmps147
    go_wp2
    go_loop [3, 4, 5] (fun v _ i => i = .int .i64 0 ∧ v = .slice (some ⟨w.heap.size, 0, none⟩) 0 0) (fun _ _ i => 0)
    case atStart => exact ⟨rfl, rfl⟩
    case round =>
      obtain ⟨rfl, rfl⟩ := hrel
      go_wp2
      go_ret
      exact ⟨_, rfl, own_empty w (Nat.le_refl _), (Below.refl _ _).alloc (Nat.le_refl _) _⟩
  · have hpos : 0 < s.length := by cases s with | nil => exact absurd rfl h0 | cons => simp
    have hne : s.isEmpty = false := by simpa using h0
    have HN := Lib.hid (show names s = segs [] s by simp [names, h0])
    clear h0
    go_enter Tryz.func147, Tryz.ntmps147
    go_wp2
    go_loopw [3, 4, 5] (fun v f i wr => ∃ (a k : Nat) (xs : List Str), a ≤ k ∧ k ≤ s.length + 1 ∧ f = .int .i64 a ∧ i = .int .i64 k ∧ Aside0 (k ≤ s.length → xs ++ segs ((s.take k).drop a) (s.drop k) = segs [] s) ∧ Aside0 (s.length < k → xs = segs [] s) ∧ xs.length ≤ k ∧ Aside0 (Own kStr 9 wr w.heap.size v xs) ∧ Aside0 (Below w.heap.size w wr)) (fun _ _ i _ => s.length + 1 - (intOf i).toNat)
    case atStart => exact ⟨0, 0, [], Nat.le_refl _, by omega, rfl, rfl, ⟨fun _ => by simp⟩, ⟨fun h => by omega⟩, by simp, ⟨own_empty w (Nat.le_refl _)⟩, ⟨(Below.refl _ _).alloc (Nat.le_refl _) _⟩⟩
    case round =>
      obtain ⟨a, k, xs, hak, hk, rfl, rfl, ha, hb, hl, HO, HB⟩ := hrel
      by_cases hlt : k < s.length
      · have hby := byte_ix hlt
        have hd : ((k : Int) == (s.length : Int)) = false := by simp; omega
        by_cases hc : byte s k = 47
        · have hcb : (byte s k == 47) = true := by simpa using hc
          have HC := Lib.hid hc
          clear hc
          have hcut := cutS s a k
          go_wp2_with (at_builtin; refine appS rfl rfl u3 xs ((s.take k).drop a) rfl rfl HO HB HB.out.size ?aL ?_; (case aL => omega); intro v1 w1 HO1 HB1 _ _)
          go_roundw
          case rel => exact ⟨k + 1, k + 1, xs ++ [(s.take k).drop a], Nat.le_refl _, by omega, by go_num, by go_num, ⟨fun _ => (names_step hlt (ha.out (by omega)) hak).1 ((byte_eq hlt 47).1 HC.out)⟩, ⟨fun h => by omega⟩, by simp; omega, HO1, HB1⟩
          case measure => simp [intOf] <;> omega
        · have hcb : (byte s k == 47) = false := by simpa using hc
          have HC := Lib.hid hc
          clear hc
          go_wp2_with fail
          go_roundw
          case rel => exact ⟨a, k + 1, xs, by omega, by omega, rfl, by go_num, ⟨fun _ => (names_step hlt (ha.out (by omega)) hak).2 (fun h => HC.out ((byte_eq hlt 47).2 h))⟩, ⟨fun h => by omega⟩, by omega, HO, HB⟩
          case measure => simp [intOf] <;> omega
      · by_cases he : k = s.length
        · subst he
          have hcut : ({ data := List.toArray s } : ByteArray).extract a s.length = { data := (s.drop a).toArray } := by rw [cutS, List.take_length]
          go_wp2_with (at_builtin; refine appS rfl rfl u3 xs (s.drop a) rfl rfl HO HB HB.out.size ?aL ?_; (case aL => omega); intro v1 w1 HO1 HB1 _ _)
          go_roundw
          case rel => exact ⟨s.length + 1, s.length + 1, xs ++ [s.drop a], Nat.le_refl _, by omega, by go_num, by go_num, ⟨fun h => by omega⟩, ⟨fun _ => by have h := ha.out (Nat.le_refl _); rw [List.drop_length, segs, List.take_length] at h; exact h⟩, by simp; omega, HO1, HB1⟩
          case measure => simp [intOf] <;> omega
        · have HX := Lib.hid (hb.out (by omega))
          go_wp2_with fail
          go_ret
          exact ⟨_, rfl, by rw [HN.out, ← HX.out]; exact HO.out, HB.out⟩

def lower (c : UInt8) : Bool := decide (97 ≤ (c.toNat : Int)) && decide ((c.toNat : Int) ≤ 122)
def nameOk (l : Str) : Bool := l.all lower && decide (1 ≤ l.length) && decide (l.length ≤ 6)
def pathOk (s : Str) : Bool := (names s).all nameOk && decide ((names s).length ≤ 4)

theorem specNameOk (s : Str) (w : World) (hs : s.length ≤ 16777216) :
    Calls Tryz.prog 177 #[sv s] w fun e w' => e = .returned (.bool (nameOk s)) ∧ w = w' := by
  go_enter Tryz.func177, Tryz.ntmps177
  go_wp2
  go_loop [3] (fun i => ∃ k : Nat, k ≤ s.length ∧ i = .int .i64 k ∧ Aside0 ((s.drop k).all lower = s.all lower)) (fun i => s.length - (intOf i).toNat)
  case atStart => exact ⟨0, Nat.zero_le _, rfl, ⟨rfl⟩⟩
  case round =>
    obtain ⟨k, hk, rfl, ha⟩ := hrel
    by_cases hlt : k < s.length
    · have hby := byte_ix hlt
      have HA := Lib.hid (show (decide (97 ≤ byte s k) && decide (byte s k ≤ 122) && (s.drop (k + 1)).all lower) = s.all lower by
        rw [← ha.out, List.drop_eq_getElem_cons hlt, List.all_cons, lower, byte_at hlt])
      clear ha
      by_cases h1 : 97 ≤ byte s k
      · by_cases h2 : byte s k ≤ 122
        · go_wp2
          exact ⟨⟨k + 1, by omega, by go_num, ⟨by have := HA.out; simp only [h1, h2, decide_true, Bool.true_and] at this; exact this⟩⟩, by simp [intOf]; omega⟩
        · have HF := Lib.hid (show nameOk s = false by simp [nameOk, ← HA.out, h2])
          go_wp2
          go_ret
          exact ⟨by rw [HF.out]; rfl, rfl⟩
      · have HF := Lib.hid (show nameOk s = false by simp [nameOk, ← HA.out, h1])
        go_wp2
        go_ret
        exact ⟨by rw [HF.out]; rfl, rfl⟩
    · have HA := Lib.hid (show s.all lower = true by rw [← ha.out, List.drop_eq_nil_of_le (by omega)]; rfl)
      clear ha
      have HF := Lib.hid (show nameOk s = (decide (1 ≤ (s.length : Int)) && decide ((s.length : Int) ≤ 6)) by
        have e1 : decide (1 ≤ (s.length : Int)) = decide (1 ≤ s.length) := by rw [decide_eq_decide]; omega
        have e2 : decide ((s.length : Int) ≤ 6) = decide (s.length ≤ 6) := by rw [decide_eq_decide]; omega
        rw [nameOk, HA.out, e1, e2, Bool.true_and])
      by_cases h1 : 1 ≤ s.length
      all_goals
        go_wp2
        go_ret
        exact ⟨by rw [HF.out]; simp; omega, rfl⟩

theorem segs_len : ∀ (r cur : Str), (segs cur r).length ≤ r.length + 1
  | [], _ => by simp [segs]
  | c :: r, cur => by
    rw [segs]
    split
    · have := segs_len r []; simp; omega
    · have := segs_len r (cur ++ [c]); simp; omega
theorem segs_le : ∀ (r cur x : Str), x ∈ segs cur r → x.length ≤ cur.length + r.length
  | [], cur, x, h => by simp [segs] at h; subst h; simp
  | c :: r, cur, x, h => by
    rw [segs] at h
    split at h
    · rcases List.mem_cons.1 h with rfl | h
      · simp
      · have := segs_le r [] x h; simp at this ⊢; omega
    · have := segs_le r (cur ++ [c]) x h; simp at this ⊢; omega
theorem names_len (s : Str) : (names s).length ≤ s.length + 1 := by
  unfold names; split
  · simp
  · exact segs_len s []
theorem names_le (s x : Str) (h : x ∈ names s) : x.length ≤ s.length := by
  unfold names at h; split at h
  · simp at h
  · simpa using segs_le s [] x h
theorem specPathOk (s : Str) (w : World) (hs : s.length ≤ 16777216) :
    Calls Tryz.prog 131 #[sv s] w fun e w' => e = .returned (.bool (pathOk s)) ∧ Below w.heap.size w w' := by
  go_enter Tryz.func131, Tryz.ntmps131
  go_wp2_with (go_at_call 147; refine (specNames s _ hs).mono ?_; rintro e w1 ⟨v, rfl, ho, hb⟩; obtain ⟨A, c, rfl, _, hr⟩ := Kd.R_reads ho; have HR := Aside0.mk hr; have HB := Aside0.mk hb; clear ho hb hr)
  go_loop [4] (fun i => ∃ k : Nat, k ≤ (names s).length ∧ i = .int .i64 k ∧ Aside0 (((names s).drop k).all nameOk = (names s).all nameOk)) (fun i => (names s).length - (intOf i).toNat)
  case atStart => exact ⟨0, Nat.zero_le _, rfl, ⟨rfl⟩⟩
  case round =>
    obtain ⟨k, hk, rfl, ha⟩ := hrel
    have hln := names_len s
    by_cases hlt : k < (names s).length
    · obtain ⟨ad, rfl, h0⟩ := at_Str HR.out k hlt
      have hml := Nat.le_trans (names_le s _ (List.getElem_mem hlt)) hs
      have HA := Lib.hid (show (nameOk (names s)[k] && ((names s).drop (k + 1)).all nameOk) = (names s).all nameOk by rw [← ha.out, List.drop_eq_getElem_cons hlt, List.all_cons])
      clear ha
      go_wp2_with (go_at_call 177; refine (specNameOk _ _ hml).mono ?_; rintro e w1 ⟨rfl, rfl⟩)
      · have hb : nameOk (names s)[k] = false := by simp_all
        have HF := Lib.hid (show pathOk s = false by rw [pathOk, ← HA.out, hb]; simp)
        go_ret
        exact ⟨by rw [HF.out]; rfl, HB.out⟩
      · have hb : nameOk (names s)[k] = true := by simp_all
        exact ⟨⟨k + 1, by omega, by go_num, ⟨by have h := HA.out; rw [hb, Bool.true_and] at h; exact h⟩⟩, by simp [intOf]; omega⟩
    · have HA := Lib.hid (show pathOk s = decide (((names s).length : Int) ≤ 4) by
        rw [pathOk, ← ha.out, List.drop_eq_nil_of_le (by omega), List.all_nil, Bool.true_and, decide_eq_decide]; omega)
      clear ha
      go_wp2
      go_ret
      exact ⟨by rw [HA.out]; simp, HB.out⟩
end Go.Proofs.YtijeoadfgjpefaaGreatDoor
namespace Go.Proofs.YtijeoadfgjpefaaGreatDoor
open Go.RowKit Go.Proofs.YtijeoadfgjpefaaGreatDoorW.PrintWords
set_option linter.unusedSimpArgs false
set_option linter.unusedVariables false

/-- The place behind the last byte 47 among the first k. -/
def lastAt (s : Str) : Nat → Nat
  | 0 => 0
  | k + 1 => if byte s k = 47 then k + 1 else lastAt s k
theorem lastAt_le (s : Str) : ∀ k, lastAt s k ≤ k
  | 0 => Nat.le_refl _
  | k + 1 => by
    rw [lastAt]; split
    · exact Nat.le_refl _
    · have := lastAt_le s k; omega
def split (s : Str) : Str × Str × Bool :=
  if s = [] then ([], [], false) else if pathOk s = false then ([], [], false)
  else if lastAt s s.length = 0 then ([], s, true) else (s.take (lastAt s s.length - 1), s.drop (lastAt s s.length), true)

theorem cutTo (s : Str) (k : Nat) : ({ data := List.toArray s } : ByteArray).extract 0 k = { data := (s.take k).toArray } := by rw [cutS]; rfl
theorem cutFrom (s : Str) (a : Nat) : ({ data := List.toArray s } : ByteArray).extract a s.length = { data := (s.drop a).toArray } := by rw [cutS, List.take_length]

theorem specSplit (s : Str) (w : World) (hs : s.length ≤ 16777216) :
    Calls Tryz.prog 125 #[sv s] w fun e w' => e = .returned (.tuple #[sv (split s).1, sv (split s).2.1, .bool (split s).2.2]) ∧ Below w.heap.size w w' := by
  by_cases h0 : s = []
  · subst h0
    go_enter Tryz.func125, Tryz.ntmps125
    go_wp2
    go_ret3
    exact ⟨rfl, Below.refl _ _⟩
  have hpos : 0 < s.length := by cases s with | nil => exact absurd rfl h0 | cons => simp
  have hne : s.isEmpty = false := by simpa using h0
  by_cases hp : pathOk s = false
  · have HF := Lib.hid (show split s = ([], [], false) by simp [split, h0, hp])
    clear h0
    go_enter Tryz.func125, Tryz.ntmps125
    go_wp2_with (go_at_call 131; refine (specPathOk s _ hs).mono ?_; rintro e w1 ⟨rfl, hb⟩; have HB := Aside0.mk hb; clear hb)
    go_ret3
    exact ⟨by rw [HF.out]; rfl, HB.out⟩
  · have hp' : pathOk s = true := by simpa using hp
    have HF := Lib.hid (show split s = if lastAt s s.length = 0 then ([], s, true) else (s.take (lastAt s s.length - 1), s.drop (lastAt s s.length), true) by simp [split, h0, hp'])
    clear h0 hp
    go_enter Tryz.func125, Tryz.ntmps125
    go_wp2_with (go_at_call 131; refine (specPathOk s _ hs).mono ?_; rintro e w1 ⟨rfl, hb⟩; have HB := Aside0.mk hb; clear hb)
    go_loop [5] (fun i => ∃ k : Nat, k ≤ s.length ∧ i = .int .i64 k ∧ Aside0 (lastAt s k = lastAt s s.length)) (fun i => (intOf i).toNat)
    case atStart => exact ⟨s.length, Nat.le_refl _, rfl, ⟨rfl⟩⟩
    case round =>
      obtain ⟨k, hk, rfl, ha⟩ := hrel
      cases k with
      | zero =>
        have HZ := Lib.hid (show lastAt s s.length = 0 from ha.out.symm)
        clear ha
        go_wp2
        go_ret3
        exact ⟨by rw [HF.out, if_pos HZ.out]; rfl, HB.out⟩
      | succ k =>
        have hby := byte_ix (s := s) (k := k) (by omega)
        have ha := ha.out
        rw [lastAt] at ha
        by_cases hc : byte s k = 47
        · rw [if_pos hc] at ha
          have hcb : (byte s k == 47) = true := by simpa using hc
          have hcn : (byte s k != 47) = false := by simpa using hc
          have HZ := Lib.hid ha.symm
          have h1 := cutTo s k
          have h2 := cutFrom s (k + 1)
          clear ha hc
          go_wp2
          go_quiet (fail)
          go_wp2
          go_ret3
          exact ⟨by rw [HF.out, if_neg (by rw [HZ.out]; omega), HZ.out]; simp, pw_below_drewN HB.out _⟩
        · rw [if_neg hc] at ha
          have hcb : (byte s k == 47) = false := by simpa using hc
          have hcn : (byte s k != 47) = true := by simpa using hc
          have HA := Aside0.mk ha
          clear ha hc
          go_wp2
          exact ⟨⟨k, by omega, by go_num, HA⟩, by simp [intOf]⟩

def under (p q : Str) : Bool := pathOk p && pathOk q && (q.isEmpty || p == q || (decide (q.length < p.length) && (p.take q.length == q) && (byte p q.length == 47)))
theorem specUnder (p q : Str) (w : World) (hp : p.length ≤ 16777216) (hq : q.length ≤ 16777216) :
    Calls Tryz.prog 151 #[sv p, sv q] w fun e w' => e = .returned (.bool (under p q)) ∧ Below w.heap.size w w' := by
  by_cases h1 : pathOk p = true
  · by_cases h2 : pathOk q = true
    · have HF := Lib.hid (show under p q = (q.isEmpty || p == q || (decide (q.length < p.length) && (p.take q.length == q) && (byte p q.length == 47))) by simp [under, h1, h2])
      have h3 := cutTo p q.length
      by_cases h4 : q.length < p.length
      · have h5 := byte_ix h4
        go_enter Tryz.func151, Tryz.ntmps151
        go_wp2_with (first | (go_at_call_of 131 (sv p); refine (specPathOk p _ hp).mono ?_; rintro e w1 ⟨rfl, hb⟩; have HB := Aside0.mk hb; clear hb) | (go_at_call_of 131 (sv q); refine (specPathOk q _ hq).mono ?_; rintro e w2 ⟨rfl, hb⟩; have HB2 := Aside0.mk hb; clear hb))
        all_goals
          go_ret
          exact ⟨by rw [HF.out]; simp [*] <;> (try rfl), below_then HB.out HB.out.size HB2.out⟩
      · go_enter Tryz.func151, Tryz.ntmps151
        go_wp2_with (first | (go_at_call_of 131 (sv p); refine (specPathOk p _ hp).mono ?_; rintro e w1 ⟨rfl, hb⟩; have HB := Aside0.mk hb; clear hb) | (go_at_call_of 131 (sv q); refine (specPathOk q _ hq).mono ?_; rintro e w2 ⟨rfl, hb⟩; have HB2 := Aside0.mk hb; clear hb))
        all_goals
          go_ret
          exact ⟨by rw [HF.out]; simp [*] <;> (try rfl), below_then HB.out HB.out.size HB2.out⟩
    · have HF := Lib.hid (show under p q = false by simp [under, h2])
      have h2 : pathOk q = false := by simpa using h2
      go_enter Tryz.func151, Tryz.ntmps151
      go_wp2_with (first | (go_at_call_of 131 (sv p); refine (specPathOk p _ hp).mono ?_; rintro e w1 ⟨rfl, hb⟩; have HB := Aside0.mk hb; clear hb) | (go_at_call_of 131 (sv q); refine (specPathOk q _ hq).mono ?_; rintro e w2 ⟨rfl, hb⟩; have HB2 := Aside0.mk hb; clear hb))
      go_ret
      exact ⟨by rw [HF.out]; rfl, below_then HB.out HB.out.size HB2.out⟩
  · have HF := Lib.hid (show under p q = false by simp [under, h1])
    have h1 : pathOk p = false := by simpa using h1
    go_enter Tryz.func151, Tryz.ntmps151
    go_wp2_with (go_at_call_of 131 (sv p); refine (specPathOk p _ hp).mono ?_; rintro e w1 ⟨rfl, hb⟩; have HB := Aside0.mk hb; clear hb)
    go_ret
    exact ⟨by rw [HF.out]; rfl, HB.out⟩
end Go.Proofs.YtijeoadfgjpefaaGreatDoor
