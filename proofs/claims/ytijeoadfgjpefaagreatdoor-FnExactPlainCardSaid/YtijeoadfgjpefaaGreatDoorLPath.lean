/- Plain laws: what strings.Split and LastIndexByte hand back is what the reference's loops compute. No condition. Plain facts on paths: what a path's cut at its last byte 47 is; the order of texts. No condition. -/
import Derived.Test.YtijeoadfgjpefaaGreatDoorWPath
import Derived.Lib.SplitLaws
import Derived.Lib.LastIndexByte
namespace Go.Proofs.YtijeoadfgjpefaaGreatDoor
open Go.Lib

theorem splitK_segs : ∀ (s cur : Str) (k : Nat), s.count 47 ≤ k → ∃ p r, splitK [47] 0 k s = p :: r ∧ segs cur s = (cur ++ p) :: r
  | [], cur, 0, _ => ⟨[], [], rfl, by simp [segs]⟩
  | [], cur, k + 1, _ => ⟨[], [], by simp [splitK, index], by simp [segs]⟩
  | c :: l, cur, k, h => by
    by_cases hc : c = 47
    · subst hc
      rw [List.count_cons_self] at h
      match k, h with
      | k + 1, h =>
        obtain ⟨p, r, h1, h2⟩ := splitK_segs l [] k (by omega)
        refine ⟨[], p :: r, ?_, ?_⟩
        · rw [splitK, index_one]
          simp [indexByte, h1]
        · rw [segs, if_pos rfl, h2]; simp
    · rw [List.count_cons_of_ne hc] at h
      obtain ⟨p, r, h1, h2⟩ := splitK_segs l (cur ++ [c]) k h
      refine ⟨c :: p, r, ?_, ?_⟩
      · cases k with
        | zero =>
          rw [splitK] at h1
          injection h1 with h1 h3
          rw [splitK, ← h1, ← h3]
        | succ k =>
          have hge := indexByte_ge l 47
          rw [splitK, index_one] at h1 ⊢
          have hcb : (c == 47) = false := by simpa using hc
          simp only [indexByte, hcb, Bool.false_eq_true, if_false]
          by_cases hm : indexByte l 47 = -1
          · rw [hm] at h1 ⊢
            simp only [beq_self_eq_true, if_true] at h1 ⊢
            injection h1 with h1 h3
            rw [← h1, ← h3]
          · have hb : (indexByte l 47 == -1) = false := by simpa using hm
            have hb2 : (indexByte l 47 + 1 == -1) = false := by simp; omega
            rw [hb] at h1 ⊢
            simp only [Bool.false_eq_true, if_false] at h1 ⊢
            rw [hb2]
            simp only [Bool.false_eq_true, if_false]
            injection h1 with h1 h3
            have e : (indexByte l 47 + 1).toNat = (indexByte l 47).toNat + 1 := by omega
            rw [e, ← h1, ← h3]
            simp
      · rw [segs, if_neg hc, h2]; simp
theorem splitB_segs (s : Str) : (splitB ⟨#[47]⟩ 0 (countB ⟨s.toArray⟩ ⟨#[47]⟩) ⟨s.toArray⟩).map (·.data.toList) = segs [] s := by
  rw [splitB_data]
  have hc : countB ⟨s.toArray⟩ ⟨#[47]⟩ = s.count 47 := count_one 47 s
  rw [hc]
  obtain ⟨p, r, h1, h2⟩ := splitK_segs s [] (s.count 47) (Nat.le_refl _)
  rw [h2]
  exact h1
theorem splitB_form (s : Str) : splitB ⟨#[47]⟩ 0 (countB ⟨s.toArray⟩ ⟨#[47]⟩) ⟨s.toArray⟩ = (segs [] s).map fun x => (⟨x.toArray⟩ : ByteArray) := by
  rw [← splitB_segs, List.map_map]
  conv => lhs; rw [← List.map_id (splitB _ _ _ _)]
  exact List.map_congr_left fun x _ => rfl
theorem countB_segs (s : Str) : countB ⟨s.toArray⟩ ⟨#[47]⟩ + 1 = (segs [] s).length := by
  rw [← splitB_segs, List.length_map, splitB_all _ (by decide) 0 _ _ rfl]
theorem lastIdx_lastAt (s : Str) : ∀ k, k ≤ s.length → lastIdx ⟨s.toArray⟩ 47 k = (lastAt s k : Int) - 1
  | 0, _ => rfl
  | k + 1, h => by
    rw [lastIdx, lastAt, lastIdx_lastAt s k (by omega)]
    have e : (((⟨s.toArray⟩ : ByteArray).data[k]!).toNat : Int) = byte s k := by
      have hk : k < s.length := by omega
      simp [byte, hk]
    rw [e]
    split
    · simp
    · rfl
theorem count_segs : ∀ (s cur : Str), (segs cur s).length = s.count 47 + 1
  | [], _ => rfl
  | c :: l, cur => by
    rw [segs]
    split
    · rename_i h; subst h; simp [count_segs l []]
    · rename_i h; rw [List.count_cons_of_ne h, count_segs l]
end Go.Proofs.YtijeoadfgjpefaaGreatDoor
namespace Go.Proofs.YtijeoadfgjpefaaGreatDoor
set_option linter.unusedSimpArgs false
set_option linter.unusedVariables false

theorem segs_cat : ∀ (a cur b : Str), segs cur (a ++ 47 :: b) = segs cur a ++ segs [] b
  | [], cur, b => by simp [segs]
  | c :: a, cur, b => by
    rw [List.cons_append, segs, segs]
    split
    · rw [segs_cat a [] b]; rfl
    · exact segs_cat a (cur ++ [c]) b
theorem pathOk_iff {s : Str} (h : s ≠ []) : pathOk s = ((segs [] s).all nameOk && decide ((segs [] s).length ≤ 4)) := by
  simp [pathOk, names, h]
theorem pathOk_count {s : Str} (h : pathOk s = true) : ¬ 4 ≤ s.count 47 := by
  by_cases h0 : s = []
  · subst h0; simp
  · rw [pathOk_iff h0, Bool.and_eq_true, decide_eq_true_eq, count_segs] at h
    omega
theorem under_form {p q : Str} (h : under p q = true) (hq : q ≠ []) : p = q ∨ ∃ r, p = q ++ 47 :: r := by
  unfold under at h
  simp only [Bool.and_eq_true, Bool.or_eq_true, List.isEmpty_iff, beq_iff_eq, decide_eq_true_eq] at h
  rcases h.2 with (e | e) | ⟨⟨h1, h2⟩, h3⟩
  · exact absurd e hq
  · exact .inl e
  · refine .inr ⟨p.drop (q.length + 1), ?_⟩
    have h4 := (byte_eq h1 47).1 h3
    rw [← h4]
    have h5 := List.drop_eq_getElem_cons h1
    rw [← h5]
    have h6 := List.take_append_drop q.length p
    rw [h2] at h6
    exact h6.symm
theorem less_eq : ∀ (x y : List UInt8), Op.bytesLess x y = decide (x < y)
  | [], [] => by simp [Op.bytesLess]
  | _ :: _, [] => by simp [Op.bytesLess]
  | [], _ :: _ => by simp [Op.bytesLess]
  | a :: x, b :: y => by
    rw [Op.bytesLess, less_eq x y]
    simp only [List.cons_lt_cons_iff]
    by_cases h1 : a < b <;> by_cases h2 : a = b <;> by_cases h3 : x < y <;> simp [h1, h2, h3]
theorem split_ok {s : Str} (h : (split s).2.2 = true) : s ≠ [] ∧ pathOk s = true := by
  unfold split at h
  by_cases h1 : s = []
  · rw [if_pos h1] at h; cases h
  · rw [if_neg h1] at h
    refine ⟨h1, ?_⟩
    cases h2 : pathOk s with
    | true => rfl
    | false => rw [if_pos h2] at h; cases h
theorem lastAt_form (s : Str) : ∀ k, k ≤ s.length → lastAt s k = 0 ∨ s = s.take (lastAt s k - 1) ++ 47 :: s.drop (lastAt s k)
  | 0, _ => .inl rfl
  | k + 1, h => by
    rw [lastAt]
    split
    · rename_i e
      right
      have hk : k < s.length := by omega
      have e2 := (byte_eq hk 47).1 e
      have h5 := List.drop_eq_getElem_cons hk
      rw [e2] at h5
      have h6 := List.take_append_drop k s
      rw [h5] at h6
      exact h6.symm
    · exact lastAt_form s k (by omega)
theorem split_form {s : Str} (h : (split s).2.2 = true) : ((split s).1 = [] ∧ (split s).2.1 = s) ∨ ((split s).1 ≠ [] ∧ s = (split s).1 ++ 47 :: (split s).2.1) := by
  obtain ⟨h0, h1⟩ := split_ok h
  have e : split s = if lastAt s s.length = 0 then ([], s, true) else (s.take (lastAt s s.length - 1), s.drop (lastAt s s.length), true) := by
    unfold split
    rw [if_neg h0, h1, if_neg (by decide)]
  rw [e]
  by_cases h2 : lastAt s s.length = 0
  · rw [if_pos h2]; exact .inl ⟨rfl, rfl⟩
  · rw [if_neg h2]
    have h3 : s = s.take (lastAt s s.length - 1) ++ 47 :: s.drop (lastAt s s.length) := (lastAt_form s s.length (Nat.le_refl _)).resolve_left h2
    refine .inr ⟨fun e2 => ?_, h3⟩
    have e2 : s.take (lastAt s s.length - 1) = [] := e2
    rw [e2] at h3
    rw [pathOk_iff h0, h3] at h1
    simp [segs, nameOk] at h1
theorem split_inj {s t : Str} (hs : (split s).2.2 = true) (ht : (split t).2.2 = true) (h1 : (split s).1 = (split t).1) (h2 : (split s).2.1 = (split t).2.1) : s = t := by
  rcases split_form hs with ⟨a, b⟩ | ⟨a, b⟩
  · rcases split_form ht with ⟨c, d⟩ | ⟨c, d⟩
    · rw [← b, ← d, h2]
    · exact absurd (h1.symm.trans a) c
  · rcases split_form ht with ⟨c, d⟩ | ⟨c, d⟩
    · exact absurd (h1.trans c) a
    · rw [b, d, h1, h2]
end Go.Proofs.YtijeoadfgjpefaaGreatDoor
