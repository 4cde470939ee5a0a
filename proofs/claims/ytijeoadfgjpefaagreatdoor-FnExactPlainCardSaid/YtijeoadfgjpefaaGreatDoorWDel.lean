/- The walk of slices.Delete at items, of one item. Conditions: lengths below 16777216. -/
import Derived.Test.YtijeoadfgjpefaaGreatDoorWImplB
import Derived.Lib.SliceRun
import Derived.Shelf.SlicesE.Delete
namespace Go.Proofs.YtijeoadfgjpefaaGreatDoor
open Go.RowKit Go.Proofs.YtijeoadfgjpefaaGreatDoorW.PrintWords
set_option linter.unusedSimpArgs false
set_option linter.unusedVariables false

/-- The cells of a row of items. -/
def flat : List Item → List Value
  | [] => []
  | x :: r => sv x.path :: .bool x.dir :: sv x.data :: flat r
theorem flat_len : ∀ l, (flat l).length = l.length * 3
  | [] => rfl
  | x :: r => by rw [flat]; simp only [List.length_cons, flat_len r]; omega
theorem flat_at : ∀ (l : List Item) (j : Nat) (p : Item), l[j]? = some p → ((flat l).drop (j * 3)).take 3 = [sv p.path, .bool p.dir, sv p.data]
  | x :: r, 0, p, h => by cases h; rfl
  | x :: r, j + 1, p, h => by
    rw [show (j + 1) * 3 = j * 3 + 1 + 1 + 1 by omega, flat]
    simp only [List.drop_succ_cons]
    exact flat_at r j p (by simpa using h)
theorem flat_append : ∀ (a b : List Item), flat (a ++ b) = flat a ++ flat b
  | [], b => rfl
  | x :: r, b => by rw [List.cons_append, flat, flat_append r b]; rfl
theorem flat_take : ∀ (l : List Item) (i : Nat), flat (l.take i) = (flat l).take (i * 3)
  | [], i => by simp [flat]
  | x :: r, 0 => by simp [flat]
  | x :: r, i + 1 => by rw [List.take_succ_cons, flat, flat_take r i, show (i + 1) * 3 = i * 3 + 1 + 1 + 1 by omega, flat]; rfl
theorem flat_drop : ∀ (l : List Item) (i : Nat), flat (l.drop i) = (flat l).drop (i * 3)
  | [], i => by simp [flat]
  | x :: r, 0 => by simp
  | x :: r, i + 1 => by rw [List.drop_succ_cons, flat_drop r i, show (i + 1) * 3 = i * 3 + 1 + 1 + 1 by omega, flat]; rfl
theorem flat_of {R : Item → List Value → Prop} (hR : ∀ x cs, R x cs → cs = [sv x.path, .bool x.dir, sv x.data]) : ∀ (l : List Item) (cs : List Value), Reps R 3 l cs → cs = flat l
  | [], cs, h => by have := h.1; simp at this; simp [this, flat]
  | x :: r, cs, h => by
    have h1 := h.1
    have h0 := hR _ _ (h.2 0 x rfl)
    simp only [List.length_cons] at h1
    match cs, h1 with
    | a :: b :: c :: t, h1 =>
      have ht : Reps R 3 r t := ⟨by simp at h1; omega, fun j p hj => by
        have := h.2 (j + 1) p (by simpa using hj)
        rw [show (j + 1) * 3 = j * 3 + 1 + 1 + 1 by omega] at this
        simpa using this⟩
      rw [flat, ← flat_of hR r t ht]
      simp at h0
      rw [h0.1, h0.2.1, h0.2.2]
    | [], h1 => simp at h1
    | [_], h1 => simp at h1; omega
    | [_, _], h1 => simp at h1; omega
theorem own_flat {w : World} {base : Nat} {v : Value} {l : List Item} (h : Own kItem 83 w base v l) : w.ownsRow base 83 3 v l.length (flat l) := by
  obtain ⟨_, cs, h1, h2⟩ := h
  have e : cs = flat l := flat_of (fun x cs hK => kItem_open (w := w) (kItem.K_of_M hK)) l cs h2
  rw [← e]
  exact h1
theorem flat_own {w : World} {base : Nat} {v : Value} {l : List Item} (h : w.ownsRow base 83 3 v l.length (flat l)) : Own kItem 83 w base v l :=
  ⟨fun _ _ => trivial, flat l, h, flat_len l, fun j p hj => by
    rw [show kItem.sz = 3 from rfl, flat_at l j p hj]
    exact ⟨[sv p.path], [.bool p.dir, sv p.data], rfl, rfl, [.bool p.dir], [sv p.data], rfl, rfl, rfl⟩⟩

theorem zeroItem (w : World) : (zeroValue 83).run Tryz.prog w = .ok (.agg #[.string ⟨#[]⟩, .bool false, .string ⟨#[]⟩]) w := by kernel_rfl
theorem run_clear_item (w : World) (ty : TypeId) (g o c : Nat) (hc : ∀ j, j < 3 → (w.cell? ⟨g, o + j, none⟩).isSome = true) (hf : ∀ j, j < 3 → w.frozen? ⟨g, o + j, none⟩ = false) :
    (Builtin.clear_ #[27] ty #[.slice (some ⟨g, o, none⟩) 1 c]).run Tryz.prog w = .ok (.tuple #[]) (w.setCells g o [.string ⟨#[]⟩, .bool false, .string ⟨#[]⟩]) := by
  have hzc : (Builtin.zeroCells (Value.agg #[.string ⟨#[]⟩, .bool false, .string ⟨#[]⟩]).cells 1).toList = [.string ⟨#[]⟩, .bool false, .string ⟨#[]⟩] := by kernel_rfl
  have hst := run_storeCells_cells (P := Tryz.prog) g o [.string ⟨#[]⟩, .bool false, .string ⟨#[]⟩] 0 w (by simpa using hc) (by simpa using hf) (by intro v hv'; simp at hv'; rcases hv' with rfl | rfl | rfl <;> rfl)
  simp only [Nat.add_zero] at hst
  simp [Builtin.clear_, run_underlying Tryz.underlying27, zeroItem, hzc, hst]

set_option maxRecDepth 20000 in
set_option maxHeartbeats 2000000 in
theorem implDelete (base : Nat) (v : Value) (l : List Item) (i : Nat) (w : World) (hi : i < l.length) (HO : Aside0 (Own kItem 83 w base v l)) (hbase : base ≤ w.heap.size) (hl : l.length ≤ 16777216) :
    Calls Tryz.prog 139 #[v, .int .i64 i, .int .i64 (i + 1)] w fun e w' => ∃ v', e = .returned v' ∧ Own kItem 83 w' base v' (l.eraseIdx i) ∧ Below base w w' := by
  obtain ⟨hlen, hrow⟩ := own_flat HO.out
  clear HO
  have HN := Lib.hid (rfl : l.length = l.length)
  obtain ⟨k, hk⟩ : ∃ k, l.length = i + 1 + k := ⟨l.length - (i + 1), by omega⟩
  have HL := Lib.hid hk
  rw [hk] at hlen hrow hl
  rcases hrow with ⟨_, h0⟩ | ⟨g, cap, cur, rfl, hg, hcur, hnc, hcm, hsz, htk⟩
  · omega
  clear hi hk
  have hij : ((i : Int) == (i : Int) + 1) = false := by simp; omega
  -- the cells that move to the left
  obtain ⟨news, hnews⟩ : ∃ news, news = (flat l).drop ((i + 1) * 3) := ⟨_, rfl⟩
  have hnl : news.length = k * 3 := by rw [hnews, List.length_drop, hlen]; omega
  have hfl : ∀ t, t < (i + 1 + k) * 3 → cur[t]? = (flat l)[t]? := fun t ht => by
    rw [← htk, List.getElem?_take_of_lt ht, Array.getElem?_toList]
  obtain ⟨A, hA, hsrc⟩ : ∃ A : Addr, (if cap = i + 1 then some (⟨g, 0, none⟩ : Addr) else some ⟨g, (i + 1) * 3, none⟩) = some A ∧ Hid (∀ t u, news[t]? = some u → w.drew.cell? (A.add t) = some u) := by
    by_cases h : cap = i + 1
    · refine ⟨⟨g, 0, none⟩, by simp [h], fun t u hu => ?_⟩
      have h0 : news = [] := List.length_eq_zero_iff.1 (by omega)
      rw [h0] at hu
      simp at hu
    · refine ⟨⟨g, (i + 1) * 3, none⟩, by simp [h], fun t u hu => ?_⟩
      have ht : t < k * 3 := by
        have := (List.getElem?_eq_some_iff.1 hu).1
        omega
      rw [Addr.add_lit]
      refine (show w.cell? _ = _ from blk_cell hcur _).trans ?_
      rw [hfl _ (by omega), ← hu, hnews, List.getElem?_drop]
  have s1 : Hid (∀ u ∈ news, u.oneCell' = true) := by
    have : ∀ (q : List Item), ∀ u ∈ flat q, u.oneCell' = true := by
      intro q
      induction q with
      | nil => intro u hu; simp [flat] at hu
      | cons x r ih =>
        intro u hu
        rw [flat] at hu
        simp only [List.mem_cons] at hu
        rcases hu with rfl | rfl | rfl | hu
        · rfl
        · rfl
        · rfl
        · exact ih u hu
    intro u hu
    rw [hnews] at hu
    exact this l u (List.mem_of_mem_drop hu)
  have s3 : Hid (∀ t, t < news.length → (w.drew.cell? ⟨g, 0 + i * 3 + t, none⟩).isSome = true ∧ w.drew.frozen? ⟨g, 0 + i * 3 + t, none⟩ = false) := by
    intro t ht
    refine ⟨?_, blk_frozen hcur _⟩
    rw [show w.drew.cell? ⟨g, 0 + i * 3 + t, none⟩ = _ from blk_cell hcur _, Array.getElem?_eq_getElem (by rw [hsz]; omega)]
    rfl
  obtain ⟨W1, hW1⟩ : ∃ W1, W1 = w.drew.setCells g (0 + i * 3) news := ⟨_, rfl⟩
  obtain ⟨cur1, hc1, hz1, ht1⟩ := setCells_row (e := 83) news (0 + i * 3) w.drew cur hcur (by rw [hsz]; omega)
  rw [← hW1] at hc1
  have hW := Lib.hid hW1
  have hcl : ∀ ty c, (Builtin.clear_ #[27] ty #[.slice (some ⟨g, (i + k) * 3, none⟩) (i + 1 + k - (i + k)) c]).run Tryz.prog W1 = .ok (.tuple #[]) (W1.setCells g ((i + k) * 3) [.string ⟨#[]⟩, .bool false, .string ⟨#[]⟩]) := fun ty c => by
    rw [show i + 1 + k - (i + k) = 1 by omega]
    exact run_clear_item W1 ty g _ c (fun j hj => by
      rw [blk_cell hc1 _, Array.getElem?_eq_getElem (by rw [hz1, hsz]; omega)]
      rfl) (fun j hj => blk_frozen hc1 _)
  have HX := Lib.hid (And.intro hc1 (And.intro hz1 (And.intro ht1 (And.intro hcur (And.intro hsz (And.intro htk (And.intro hlen (And.intro hnews hnl))))))))
  have hic : i ≤ cap := by omega
  have hjc : i + 1 ≤ cap := by omega
  have hjn : (i : Int) + 1 ≤ (i : Int) + 1 + (k : Int) := by omega
  have hjn2 : i + 1 ≤ i + 1 + k := by omega
  have hj0 : 0 ≤ (i : Int) + 1 := by omega
  have I0 := infoItem
  obtain ⟨i0, hi0, hi1⟩ : ∃ i0, Tryz.prog.info? 83 = some i0 ∧ i0.size = 3 := by
    have h : (Tryz.prog.info? 83).map (·.size) = some 3 := by kernel_rfl
    cases hx : Tryz.prog.info? 83 with
    | none => rw [hx] at h; cases h
    | some i0 => rw [hx] at h; exact ⟨i0, rfl, by simpa using h⟩
  clear hc1 hz1 ht1 hcur hsz htk hlen hnews hW1 I0 hfl
  go_enter Tryz.func139, Tryz.ntmps139
  go_wp2_with fail
  go_region_law (refine step_append_room rfl (.tmp 22) (.tmp 25) 27 rfl 83 i0 3 Tryz.underlying27 hi0 hi1 g 0 i cap (by simp [Act.eval, Act.put]) A k (cap - (i + 1)) news (by simp [Act.eval, Act.put, hA]) hnl hsrc.out s1.out (by omega) s3.out ?_; rw [← hW.out])
  go_wp2
  go_ret
  obtain ⟨hc1, hz1, ht1, hcur, hsz, htk, hlen, hnews, hnl⟩ := HX.out
  obtain ⟨cur2, hc2, hz2, ht2⟩ := setCells_row (e := 83) [.string ⟨#[]⟩, .bool false, .string ⟨#[]⟩] ((i + k) * 3) W1 cur1 hc1 (by rw [hz1, hsz]; simp; omega)
  have hE : l.eraseIdx i = l.take i ++ l.drop (i + 1) := List.eraseIdx_eq_take_drop_succ l i
  have hEl : (l.eraseIdx i).length = i + k := by rw [hE]; simp [HL.out]; omega
  refine ⟨_, rfl, flat_own ⟨flat_len _, .inr ⟨g, cap, cur2, by rw [hEl]; rfl, hg, hc2, by omega, hcm, by rw [hz2, hz1, hsz], ?_⟩⟩, ?_⟩
  · have hcl : cur.toList.length = cap * 3 := by rw [Array.length_toList, hsz]
    have e1 : (cur.toList.take (0 + i * 3)).length = i * 3 := by rw [List.length_take, hcl]; omega
    have e2 : (cur.toList.take (0 + i * 3) ++ news).length = (i + k) * 3 := by rw [List.length_append, e1, hnl]; omega
    have e3 : cur1.toList.take ((i + k) * 3) = cur.toList.take (0 + i * 3) ++ news := by
      rw [ht1, ← e2, List.take_left]
    have e4 : (cur1.toList.take ((i + k) * 3)).length = (i + k) * 3 := by rw [e3, e2]
    rw [ht2, hEl, List.append_assoc, List.take_append_of_le_length (by rw [e4]; exact Nat.le_refl _), List.take_of_length_le (by rw [e4]; exact Nat.le_refl _), e3, hE, flat_append, flat_take, flat_drop, ← hnews, ← htk, List.take_take]
    congr 2
    omega
  · have hs := setCells_same g news (0 + i * 3) w.drew
    have hs2 := setCells_same g [.string ⟨#[]⟩, .bool false, .string ⟨#[]⟩] ((i + k) * 3) W1
    rw [← hW.out] at hs
    refine ⟨hs2.1.trans hs.1, hs2.2.1.trans hs.2.1, hs2.2.2.1.trans hs.2.2.1, ?_, fun b hb => ?_⟩
    · rw [hs2.2.2.2, hs.2.2.2]; exact Nat.le_refl _
    · rw [setCells_far _ _ _ (by omega), hW.out, setCells_far _ _ _ (by omega)]
      rfl
end Go.Proofs.YtijeoadfgjpefaaGreatDoor
