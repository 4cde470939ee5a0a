/- Plain law, first part: what impl's functions compute is what the reference's compute: making, dropping. Plain law, second part: moving. Plain law, third part: moving, listing; what impl's Plain computes is what the reference's computes. -/
import Derived.Test.YtijeoadfgjpefaaGreatDoorWImpl9
import Derived.Test.YtijeoadfgjpefaaGreatDoorLPath
namespace Go.Proofs.YtijeoadfgjpefaaGreatDoor
set_option linter.unusedSimpArgs false
set_option linter.unusedVariables false

theorem folder_there (l : List Item) (p : Str) : folderC l p ≠ 2 ↔ (p = [] ∨ 0 ≤ find l p) := by
  unfold folderC
  by_cases h : p = []
  · simp [h]
  · rw [if_neg h]
    by_cases h2 : find l p < 0
    · rw [if_pos h2]
      constructor
      · intro e; exact absurd rfl e
      · rintro (e | e)
        · exact absurd e h
        · omega
    · rw [if_neg h2]
      constructor
      · intro _; exact .inr (by omega)
      · intro _; split <;> decide
theorem make_new (l : List Item) (o : OpR) (hl : l.length ≤ 11) : makeM l o = newI l o := by
  unfold makeM newI
  by_cases h1 : o.path = []
  · rw [if_pos ((folder_there l o.path).2 (.inl h1)), if_pos h1]
  · rw [if_neg h1]
    by_cases h2 : 0 ≤ find l o.path
    · rw [if_pos ((folder_there l o.path).2 (.inr h2)), if_pos h2]
    · have h3 : ¬ folderC l o.path ≠ 2 := fun h => by
        rcases (folder_there l o.path).1 h with h | h
        · exact h1 h
        · exact h2 h
      rw [if_neg h3, if_neg h2]
      by_cases h4 : folderC l (split o.path).1 = 0
      · have hb : (folderC l (split o.path).1 != 0) = false := by simpa using h4
        rw [if_neg (by simpa using h4), hb]
        by_cases h5 : l.length = 11
        · rw [if_pos (by omega), if_pos h5]; rfl
        · rw [if_neg (by omega), if_neg h5]; rfl
      · have hb : (folderC l (split o.path).1 != 0) = true := by simpa using h4
        rw [if_pos h4, hb]; rfl
theorem filter_erase (p : Str) : ∀ (l : List Item) (k : Nat), l.Pairwise (fun x y => x.path ≠ y.path) → 0 ≤ findF p l k → l.filter (fun x => x.path != p) = l.eraseIdx (findF p l k - k).toNat
  | [], k, _, h => by simp [findF] at h
  | x :: r, k, hn, h => by
    rw [List.pairwise_cons] at hn
    by_cases hx : x.path = p
    · have hb : (x.path == p) = true := by simpa using hx
      have e : findF p (x :: r) k = k := by rw [findF, hb]; rfl
      have hf : r.filter (fun y => y.path != p) = r := List.filter_eq_self.2 fun y hy => by
        have := hn.1 y hy
        rw [hx] at this
        simpa using fun e => this e.symm
      rw [e, List.filter_cons, hx, hf]
      simp
    · have hb : (x.path == p) = false := by simpa using hx
      have e : findF p (x :: r) k = findF p r (k + 1) := by rw [findF, hb]; rfl
      rw [e] at h ⊢
      have hk : (k : Int) + 1 ≤ findF p r (k + 1) := by
        rcases findF_range p r (k + 1) with h2 | h2
        · omega
        · have := h2.1; omega
      have ih := filter_erase p r (k + 1) hn.2 h
      obtain ⟨j, hj⟩ : ∃ j : Nat, findF p r (k + 1) = (k : Int) + 1 + j := ⟨(findF p r (k + 1) - (k + 1)).toNat, by omega⟩
      rw [hj] at ih ⊢
      have e1 : ((k : Int) + 1 + j - ((k + 1 : Nat) : Int)).toNat = j := by omega
      have e2 : ((k : Int) + 1 + j - (k : Int)).toNat = j + 1 := by omega
      rw [e1] at ih
      rw [e2, List.filter_cons, show (x.path != p) = true by simp only [bne, hb]; rfl, if_pos rfl, List.eraseIdx_cons_succ, ih]
theorem okF_at (l : List Item) : ∀ (r : List Item) (i : Nat), itemsOkF l r i = true → ∀ (j : Nat) (h : j < r.length), itemOk l ((i + j : Nat) : Int) r[j] = true
  | x :: r, i, h, 0, _ => by
    rw [itemsOkF, Bool.and_eq_true] at h
    simpa using h.1
  | x :: r, i, h, j + 1, hj => by
    rw [itemsOkF, Bool.and_eq_true] at h
    have := okF_at l r (i + 1) h.2 j (by simpa using hj)
    rw [show i + (j + 1) = i + 1 + j by omega]
    exact this
theorem ok_pair (l : List Item) (h : itemsOk l = true) : l.Pairwise (fun x y => x.path ≠ y.path) := by
  rw [itemsOk, Bool.and_eq_true] at h
  have hf : ∀ (j : Nat) (hj : j < l.length), find l l[j].path = (j : Int) := fun j hj => by
    have := okF_at l l 0 h.1 j hj
    unfold itemOk at this
    simp only [Bool.and_eq_true, beq_iff_eq] at this
    have h2 := this.1.2
    simpa using h2
  rw [List.pairwise_iff_getElem]
  intro i j hi hj hij e
  have h1 := hf i hi
  have h2 := hf j hj
  rw [e, h2] at h1
  omega
theorem drop_drop (l : List Item) (o : OpR) (h : itemsOk l = true) (h2 : folderC l o.path ≠ 2) : dropM l o = dropI l o := by
  unfold dropM dropI
  rw [if_neg h2]
  by_cases h1 : o.path = []
  · rw [if_pos (by simp [h1]), if_pos h1]
  · rw [if_neg (by simpa using h1), if_neg h1]
    split
    · rfl
    · have h0 : 0 ≤ find l o.path := by
        rcases (folder_there l o.path).1 h2 with e | e
        · exact absurd e h1
        · exact e
      have := filter_erase o.path l 0 (ok_pair l h) h0
      rw [this]
      simp [find]
end Go.Proofs.YtijeoadfgjpefaaGreatDoor
namespace Go.Proofs.YtijeoadfgjpefaaGreatDoor
set_option linter.unusedSimpArgs false
set_option linter.unusedVariables false

theorem moved_ok (o : OpR) (x : Item) (hx : pathOk x.path = true) (hd : pathOk o.dest = true) (hd0 : o.dest ≠ []) (hp0 : o.path ≠ []) : pathOk (moved o x).path = !decide (4 ≤ (moved o x).path.count 47) := by
  unfold moved
  split
  · rename_i hu
    rcases under_form hu hp0 with e | ⟨r, e⟩
    · have : x.path.drop o.path.length = [] := by rw [e]; simp
      show pathOk (o.dest ++ x.path.drop o.path.length) = _
      simp only [this, List.append_nil]
      rw [hd]
      have := pathOk_count hd
      simp [this]
    · have e2 : x.path.drop o.path.length = 47 :: r := by rw [e]; simp
      simp only [e2]
      have hx0 : x.path ≠ [] := by rw [e]; simp
      have hn : o.dest ++ 47 :: r ≠ [] := by simp
      rw [pathOk_iff hx0, e, segs_cat, List.all_append, Bool.and_eq_true, Bool.and_eq_true] at hx
      rw [pathOk_iff hd0, Bool.and_eq_true] at hd
      have hc := count_segs (o.dest ++ 47 :: r) []
      rw [pathOk_iff hn, hc, segs_cat, List.all_append, hd.1, hx.1.2, Bool.true_and, Bool.true_and]
      rw [← decide_not, decide_eq_decide]
      omega
  · have := pathOk_count hx
    rw [hx]
    simp [this]
end Go.Proofs.YtijeoadfgjpefaaGreatDoor
namespace Go.Proofs.YtijeoadfgjpefaaGreatDoor
set_option linter.unusedSimpArgs false
set_option linter.unusedVariables false

/-! ### moving -/
theorem moved_all (o : OpR) (hd : pathOk o.dest = true) (hd0 : o.dest ≠ []) (hp0 : o.path ≠ []) : ∀ (l : List Item), (∀ x ∈ l, pathOk x.path = true) → moveFM o l = moveF o l
  | [], _ => rfl
  | x :: r, h => by
    have h1 := moved_ok o x (h x (by simp)) hd hd0 hp0
    rw [moveFM, moveF, h1, moved_all o hd hd0 hp0 r fun y hy => h y (by simp [hy])]
    by_cases hc : 4 ≤ (moved o x).path.count 47
    · rw [if_pos hc, if_neg (by simpa using hc)]
    · rw [if_neg hc, if_pos (by simpa using hc)]
theorem ok_item (l : List Item) (h : itemsOk l = true) (j : Nat) (hj : j < l.length) : (split l[j].path).2.2 = true ∧ find l l[j].path = (j : Int) := by
  rw [itemsOk, Bool.and_eq_true] at h
  have := okF_at l l 0 h.1 j hj
  unfold itemOk at this
  simp only [Bool.and_eq_true, beq_iff_eq] at this
  exact ⟨this.1.1.1.1, by simpa using this.1.2⟩
theorem ok_path (l : List Item) (h : itemsOk l = true) : ∀ x ∈ l, pathOk x.path = true := by
  intro x hx
  obtain ⟨j, hj, rfl⟩ := List.mem_iff_getElem.1 hx
  exact (split_ok (ok_item l h j hj).1).2
theorem move_move (l : List Item) (o : OpR) (h : itemsOk l = true) (hd : pathOk o.dest = true) (h2 : folderC l o.path ≠ 2) : moveM l o = moveI l o := by
  unfold moveM moveI
  rw [if_neg h2]
  by_cases h1 : o.path = []
  · rw [if_pos (by simp [h1]), if_pos h1]
  · rw [if_neg (by simpa using h1), if_neg h1]
    split
    · rfl
    · by_cases h3 : o.dest = []
      · rw [if_pos ((folder_there l o.dest).2 (.inl h3)), if_pos h3]
      · rw [if_neg h3]
        by_cases h4 : 0 ≤ find l o.dest
        · rw [if_pos ((folder_there l o.dest).2 (.inr h4)), if_pos h4]
        · have h5 : ¬ folderC l o.dest ≠ 2 := fun h => by
            rcases (folder_there l o.dest).1 h with h | h
            · exact h3 h
            · exact h4 h
          rw [if_neg h5, if_neg h4]
          by_cases h6 : folderC l (split o.dest).1 = 0
          · have hb : (folderC l (split o.dest).1 != 0) = false := by simpa using h6
            rw [if_neg (by simpa using h6), hb, moved_all o hd h3 h1 l (ok_path l h)]
            rfl
          · have hb : (folderC l (split o.dest).1 != 0) = true := by simpa using h6
            rw [if_pos h6, hb]; rfl
/-! ### listing -/
def tagF (path : Str) : List Item → Nat → List (Str × Int)
  | [], _ => []
  | x :: r, i => if (split x.path).1 == path then ((split x.path).2.1, (i : Int)) :: tagF path r (i + 1) else tagF path r (i + 1)
theorem tagF_names (path : Str) : ∀ (l : List Item) (i : Nat), (tagF path l i).map (·.1) = namesL l path
  | [], _ => rfl
  | x :: r, i => by
    have ih := tagF_names path r (i + 1)
    unfold namesL at ih ⊢
    rw [tagF, List.filter_cons]
    split
    · simp [ih]
    · exact ih
theorem tagF_mem (path : Str) (q : Str × Int) : ∀ (l : List Item) (i : Nat), q ∈ tagF path l i → ∃ (j : Nat) (hj : j < l.length), q = ((split l[j].path).2.1, ((i + j : Nat) : Int)) ∧ (split l[j].path).1 = path
  | [], _, h => by simp [tagF] at h
  | x :: r, i, h => by
    rw [tagF] at h
    split at h
    · rename_i hp
      rcases List.mem_cons.1 h with h | h
      · exact ⟨0, by simp, by simpa using h, by simpa using hp⟩
      · obtain ⟨j, hj, e, e2⟩ := tagF_mem path q r (i + 1) h
        exact ⟨j + 1, by simpa using hj, by rw [e]; simp; omega, by simpa using e2⟩
    · obtain ⟨j, hj, e, e2⟩ := tagF_mem path q r (i + 1) h
      exact ⟨j + 1, by simpa using hj, by rw [e]; simp; omega, by simpa using e2⟩
theorem atF_none (name : Str) : ∀ (ps : List (Str × Int)) (i : Nat), (∀ p ∈ ps, p.1 ≠ name) → atF name ps i = -1
  | [], _, _ => rfl
  | p :: r, i, h => by
    have hb : (p.1 == name) = false := by simpa using h p (by simp)
    rw [atF, hb]
    exact atF_none name r (i + 1) fun q hq => h q (by simp [hq])
theorem dropF_none : ∀ (ps : List (Str × Int)) (i : Nat), dropF (-1) ps i = ps
  | [], _ => rfl
  | p :: r, i => by
    rw [dropF, dropF_none r (i + 1), if_pos]
    simp
theorem putF_true (name : Str) (kd : Int) : ∀ ps : List (Str × Int), putF name kd ps true = ps
  | [] => rfl
  | p :: r => by rw [putF, putF_true name kd r]; rfl
theorem putF_perm (name : Str) (kd : Int) : ∀ ps : List (Str × Int), (putF name kd ps false).Perm ((name, kd) :: ps)
  | [] => List.Perm.refl _
  | p :: r => by
    rw [putF]
    split
    · rw [putF_true]
    · exact ((List.perm_cons p).2 (putF_perm name kd r)).trans (List.Perm.swap _ _ _)
theorem putF_sorted (name : Str) (kd : Int) : ∀ ps : List (Str × Int), ps.Pairwise (fun a b => a.1 < b.1) → (∀ p ∈ ps, p.1 ≠ name) → (putF name kd ps false).Pairwise (fun a b => a.1 < b.1)
  | [], _, _ => by simp [putF]
  | p :: r, h, hn => by
    rw [List.pairwise_cons] at h
    have hp := hn p (by simp)
    rw [putF]
    by_cases hc : p.1 < name
    · have hb : (!false && (!Op.bytesLess p.1 name && !p.1 == name)) = false := by rw [less_eq]; simp [hc]
      rw [hb, if_neg (by decide), List.pairwise_cons]
      refine ⟨fun q hq => ?_, putF_sorted name kd r h.2 fun q hq => hn q (by simp [hq])⟩
      rcases List.mem_cons.1 ((putF_perm name kd r).mem_iff.1 hq) with rfl | hq
      · exact hc
      · exact h.1 q hq
    · have hlt : name < p.1 := by
        by_cases h2 : name < p.1
        · exact h2
        · exact absurd (List.le_antisymm (List.not_lt.1 h2) (List.not_lt.1 hc)) hp
      have hb : (!false && (!Op.bytesLess p.1 name && !p.1 == name)) = true := by rw [less_eq]; simp [hc, hp]
      rw [hb, if_pos rfl, putF_true, List.pairwise_cons, List.pairwise_cons]
      refine ⟨fun q hq => ?_, h⟩
      rcases List.mem_cons.1 hq with rfl | hq
      · exact hlt
      · exact List.lt_trans hlt (h.1 q hq)
theorem gather_sorted (path : Str) : ∀ (r : List Item) (i : Nat) (ps : List (Str × Int)), ps.Pairwise (fun a b => a.1 < b.1) → ((ps ++ tagF path r i).map (·.1)).Nodup →
    (gatherF path r i ps).Perm (ps ++ tagF path r i) ∧ (gatherF path r i ps).Pairwise (fun a b => a.1 < b.1)
  | [], i, ps, h, _ => by simpa [gatherF, tagF] using h
  | x :: r, i, ps, h, hn => by
    rw [gatherF]
    rw [tagF] at hn ⊢
    by_cases hx : ((split x.path).1 == path) = true
    · rw [if_pos hx] at hn ⊢
      rw [if_pos hx]
      have hne : ∀ p ∈ ps, p.1 ≠ (split x.path).2.1 := by
        intro p hp e
        rw [List.map_append, List.nodup_append] at hn
        exact hn.2.2 p.1 (List.mem_map_of_mem hp) _ (by simp) e
      have e : kidPutP ps (split x.path).2.1 i = putF (split x.path).2.1 i ps false := by
        unfold kidPutP
        rw [atF_none _ _ _ hne, dropF_none]
      rw [e]
      have hp := putF_perm (split x.path).2.1 i ps
      have hp2 : (putF (split x.path).2.1 i ps false ++ tagF path r (i + 1)).Perm (ps ++ ((split x.path).2.1, (i : Int)) :: tagF path r (i + 1)) :=
        (hp.append_right _).trans List.perm_middle.symm
      obtain ⟨h1, h2⟩ := gather_sorted path r (i + 1) (putF (split x.path).2.1 i ps false) (putF_sorted _ _ ps h hne) ((hp2.map _).nodup_iff.2 hn)
      exact ⟨h1.trans hp2, h2⟩
    · rw [if_neg hx] at hn ⊢
      rw [if_neg hx]
      exact gather_sorted path r (i + 1) ps h hn
theorem names_nodup (l : List Item) (h : itemsOk l = true) (path : Str) : (namesL l path).Nodup := by
  unfold namesL
  have hp := (ok_pair l h).filter (fun x => (split x.path).1 == path)
  rw [List.Nodup, List.pairwise_map]
  refine hp.imp_of_mem ?_
  intro x y hx hy hne e
  rw [List.mem_filter] at hx hy
  obtain ⟨j, hj, rfl⟩ := List.mem_iff_getElem.1 hx.1
  obtain ⟨k, hk, rfl⟩ := List.mem_iff_getElem.1 hy.1
  exact hne (split_inj (ok_item l h j hj).1 (ok_item l h k hk).1 ((beq_iff_eq.1 hx.2).trans (beq_iff_eq.1 hy.2).symm) e)
theorem showF_flat (l : List Item) : ∀ (ps : List (Str × Int)) (out : Str), showF l ps false out = out ++ ps.flatMap fun p => 32 :: (p.1 ++ if (getI l p.2).dir then [47] else [])
  | [], out => by simp [showF]
  | p :: r, out => by
    rw [showF, showF_flat l r, if_neg (by decide)]
    simp
theorem inter_flat : ∀ (x : Str) (r : List Str), ([32] : Str).intercalate (x :: r) = x ++ r.flatMap fun y => 32 :: y
  | x, [] => by simp [List.intercalate]
  | x, y :: r => by
    have ih := inter_flat y r
    have e : ([32] : Str).intercalate (x :: y :: r) = x ++ ([32] ++ ([32] : Str).intercalate (y :: r)) := by simp [List.intercalate]
    rw [e, ih]
    simp
theorem show_inter (l : List Item) (ps : List (Str × Int)) : showF l ps true [] = ([32] : Str).intercalate (ps.map fun p => p.1 ++ if (getI l p.2).dir then [47] else []) := by
  cases ps with
  | nil => rfl
  | cons p r =>
    rw [showF, showF_flat, List.map_cons, inter_flat, List.flatMap_map]
    simp
theorem list_names (l : List Item) (path : Str) (h : itemsOk l = true) : listM l path = namesText l path := by
  have hnd := names_nodup l h path
  obtain ⟨h1, h2⟩ := gather_sorted path l 0 [] (by simp) (by rw [List.nil_append, tagF_names]; exact hnd)
  rw [List.nil_append] at h1
  have hs : sortL (namesL l path) = (gatherF path l 0 []).map (·.1) := by
    refine List.Perm.eq_of_pairwise (le := fun x y => x ≤ y) (fun a b _ _ => List.le_antisymm) ?_ ?_ ?_
    · have := List.pairwise_mergeSort (le := fun x y : Str => decide (x ≤ y)) (fun a b c h1 h2 => by
        rw [decide_eq_true_eq] at *; exact List.le_trans h1 h2) (fun a b => by
        rw [Bool.or_eq_true, decide_eq_true_eq, decide_eq_true_eq]; exact List.le_total a b) (namesL l path)
      exact this.imp fun h => by simpa using h
    · rw [List.pairwise_map]
      exact h2.imp fun h => List.not_lt.1 fun h3 => List.lt_irrefl _ (List.lt_trans h h3)
    · refine (List.mergeSort_perm _ _).trans ?_
      rw [← tagF_names path l 0]
      exact (h1.map _).symm
  unfold listM namesText
  rw [show_inter, hs]
  congr 1
  unfold slashL
  rw [List.map_map]
  refine List.map_congr_left fun p hp => ?_
  obtain ⟨j, hj, e, hd⟩ := tagF_mem path p l 0 (h1.mem_iff.1 hp)
  have hg : getI l p.2 = l[j] := by rw [e]; simp [getI, hj]
  have hc : (foldsL l path).contains p.1 = l[j].dir := by
    rw [Bool.eq_iff_iff, List.contains_iff_mem]
    unfold foldsL
    rw [List.mem_map]
    constructor
    · rintro ⟨x, hx, hxe⟩
      rw [List.mem_filter, Bool.and_eq_true, beq_iff_eq] at hx
      obtain ⟨k, hk, rfl⟩ := List.mem_iff_getElem.1 hx.1
      have : l[k].path = l[j].path := split_inj (ok_item l h k hk).1 (ok_item l h j hj).1 (hx.2.1.trans hd.symm) (by rw [hxe, e])
      have f1 := (ok_item l h k hk).2
      have f2 := (ok_item l h j hj).2
      rw [this, f2] at f1
      obtain rfl : j = k := by omega
      exact hx.2.2
    · intro hdir
      exact ⟨l[j], by rw [List.mem_filter, Bool.and_eq_true, beq_iff_eq]; exact ⟨List.getElem_mem hj, hd, hdir⟩, by rw [e]⟩
  show (if (foldsL l path).contains p.1 then p.1 ++ [47] else p.1) = _
  rw [hc, hg]
  cases l[j].dir <;> simp
theorem impl_plain (l : List Item) (o : OpR) : implI l o = plainI l o := by
  unfold implI plainI
  by_cases h1 : itemsOk l = false
  · rw [if_pos h1, if_pos h1]
  rw [if_neg h1, if_neg h1]
  by_cases h2 : opOk o = false
  · rw [if_pos h2, if_pos h2]
  rw [if_neg h2, if_neg h2]
  have h1 : itemsOk l = true := by simpa using h1
  have h2 : opOk o = true := by simpa using h2
  have h11 : l.length ≤ 11 := by
    have := h1
    simp only [itemsOk, Bool.and_eq_true, decide_eq_true_eq] at this
    omega
  by_cases k1 : o.kind = 1
  · have hb : (o.kind == 1 || o.kind == 2) = true := by simp [k1]
    rw [if_pos k1, if_pos hb, make_new l o h11]
  rw [if_neg k1]
  by_cases k2 : o.kind = 2
  · have hb : (o.kind == 1 || o.kind == 2) = true := by simp [k2]
    rw [if_pos k2, if_pos hb, make_new l o h11]
  have hb : ¬ (o.kind == 1 || o.kind == 2) = true := by simp [k1, k2]
  rw [if_neg k2, if_neg hb]
  unfold doI
  by_cases k5 : o.kind = 5
  · rw [if_pos k5, if_pos k5]
    by_cases h3 : folderC l o.path = 2
    · rw [if_pos h3]; unfold dropM; rw [if_pos h3]
    · rw [if_neg h3, drop_drop l o h1 h3]
  rw [if_neg k5, if_neg k5]
  by_cases k6 : o.kind = 6
  · rw [if_pos k6, if_pos k6]
    by_cases h3 : folderC l o.path = 2
    · rw [if_pos h3]; unfold moveM; rw [if_pos h3]
    · have hd : pathOk o.dest = true := by
        unfold opOk at h2
        simp only [Bool.and_eq_true, Bool.or_eq_true] at h2
        rcases h2.2 with h | h
        · simp [k6] at h
        · exact h
      rw [if_neg h3, move_move l o h1 hd h3]
  rw [if_neg k6, if_neg k6]
  unfold fileM
  rw [list_names l o.path h1]
  by_cases h3 : folderC l o.path = 2
  · rw [if_pos h3, if_pos h3]
  rw [if_neg h3, if_neg h3]
  cases e : ((folderC l o.path == 0) == (o.kind == 7)) <;> simp [bne, e]
end Go.Proofs.YtijeoadfgjpefaaGreatDoor
