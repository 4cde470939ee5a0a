/- Rows of strings of the call's own: two of them side by side; sorted, searched, joined. Conditions: lengths below 16777216. -/
import Derived.Test.YtijeoadfgjpefaaGreatDoorWList
import Derived.Test.YtijeoadfgjpefaaGreatDoorShelf
import Derived.Sort.OwnSorted
import Derived.Lib.OwnBridge
namespace Go.Proofs.YtijeoadfgjpefaaGreatDoor
open Go.RowKit Go.Proofs.YtijeoadfgjpefaaGreatDoorW.PrintWords
set_option linter.unusedSimpArgs false
set_option linter.unusedVariables false

/-- v is a row of strings of the call's own. -/
def RS (w : World) (base : Nat) (v : Value) (xs : List Str) : Prop := w.ownsRow base 9 1 v xs.length (xs.map sv)
theorem RS.of_own {w : World} {base : Nat} {v : Value} {xs : List Str} (h : Own kStr 9 w base v xs) : RS w base v xs := by
  obtain ⟨_, cs, h1, h2⟩ := h
  have e : cs = xs.map sv := by
    apply List.ext_getElem?
    intro j
    have hl : cs.length = xs.length := by have := h2.1; simpa [show kStr.sz = 1 from rfl] using this
    by_cases hj : j < xs.length
    · have h3 := h2.2 j xs[j] (List.getElem?_eq_getElem hj)
      have h4 : (cs.drop (j * 1)).take 1 = [sv xs[j]] := kStr.K_of_M (w := w) h3
      have h5 : ((cs.drop (j * 1)).take 1)[0]? = some (sv xs[j]) := by rw [h4]; rfl
      rw [List.getElem?_take_of_lt (by omega), List.getElem?_drop] at h5
      simp only [Nat.mul_one, Nat.add_zero] at h5
      rw [h5, List.getElem?_map, List.getElem?_eq_getElem hj]
      rfl
    · rw [List.getElem?_eq_none (by omega), List.getElem?_eq_none (by simp; omega)]
  rw [RS, ← e]
  exact h1
theorem RS.own {w : World} {base : Nat} {v : Value} {xs : List Str} (h : RS w base v xs) : Own kStr 9 w base v xs :=
  ⟨fun _ _ => trivial, xs.map sv, h, by simp [show kStr.sz = 1 from rfl], fun j p hj => by
    have e : ((xs.map sv).drop (j * kStr.sz)).take kStr.sz = [sv p] := by
      rw [show kStr.sz = 1 from rfl, Nat.mul_one]
      have hlt := (List.getElem?_eq_some_iff.1 hj).1
      rw [List.drop_eq_getElem_cons (by simpa using hlt)]
      have := (List.getElem?_eq_some_iff.1 hj).2
      simp [this]
    rw [e]
    exact rfl⟩
theorem RS.nil (w : World) (base : Nat) : RS w base (.slice none 0 0) [] := ⟨rfl, .inl ⟨rfl, rfl⟩⟩
theorem RS.keep {w w1 : World} {base : Nat} {v : Value} {xs : List Str} {row : Option Nat} (h : RS w base v xs) (hg : w.grownBy w1 row) (hne : ∀ k, v.ownBlock = some k → some k ≠ row) : RS w1 base v xs := by
  refine ⟨h.1, ?_⟩
  rcases h.2 with h2 | ⟨g, cap, cur, rfl, hb, hc, h3, h4, h5, h6⟩
  · exact .inl h2
  · exact .inr ⟨g, cap, cur, rfl, hb, (hg.block g (blk_lt hc) (hne g rfl)).trans hc, h3, h4, h5, h6⟩
theorem RS.below {w w1 : World} {base : Nat} {v : Value} {xs : List Str} (h : RS w base v xs) (hb : Below w.heap.size w w1) : RS w1 base v xs := RS.of_own (Kd.R_below h.own hb)
theorem RS.lt {w : World} {base : Nat} {v : Value} {xs : List Str} (h : RS w base v xs) {k : Nat} (hk : v.ownBlock = some k) : k < w.heap.size ∧ base ≤ k := by
  rcases h.2 with ⟨rfl, _⟩ | ⟨g, cap, cur, rfl, hb, hc, _⟩
  · simp [Value.ownBlock] at hk
  · simp only [Value.ownBlock] at hk
    injection hk with hk
    subst hk
    exact ⟨blk_lt hc, hb⟩
/-- slices.Sort at a row of the call's own. -/
theorem sortRS (base : Nat) (v : Value) (xs : List Str) (w : World) (h : RS w base v xs) (hx : xs.length ≤ 16777216) :
    Calls Tryz.prog 183 #[v] w fun e w' => e = .returned (.tuple #[]) ∧ RS w' base v (xs.mergeSort fun x y => decide (x ≤ y)) ∧ w.grownBy w' v.ownBlock := by
  rcases h.2 with ⟨rfl, h0⟩ | ⟨g, cap, cur, rfl, hb, hc, h3, h4, h5, h6⟩
  · have : xs = [] := List.length_eq_zero_iff.1 h0
    subst this
    refine (Go.Proofs.Tryz.slices_Sort_string_none none 0 w).mono ?_
    rintro e w' ⟨rfl, rfl⟩
    exact ⟨rfl, by simpa using h, ⟨rfl, rfl, rfl, Nat.le_refl _, fun _ _ _ => rfl⟩⟩
  · refine (Go.Proofs.Tryz.slices_Sort_string g 0 cap xs w (holds_of_block hc (by simpa using h6)) (blk_lt hc) (by omega)).mono ?_
    rintro e w' ⟨rfl, n, os, rfl⟩
    refine ⟨rfl, ?_, grownBy_sorted _⟩
    have hl : (xs.mergeSort fun x y => decide (x ≤ y)).length = xs.length := by simp
    have := ownsRow_sorted (n := n) (os := os) (ts := xs.mergeSort fun x y => decide (x ≤ y)) hl hb hc h3 h4 h5
    unfold RS
    rw [hl]
    exact this
theorem containsS_map (x : Str) (xs : List Str) : Lib.containsS (xs.map fun y => (⟨y.toArray⟩ : ByteArray)) ⟨x.toArray⟩ = xs.contains x := by
  rw [Bool.eq_iff_iff, Lib.containsS_iff, List.contains_iff_mem, List.mem_map]
  constructor
  · rintro ⟨y, hy, e⟩
    have : y.toArray.toList = x.toArray.toList := by injection e with e; rw [e]
    simp only [] at this
    rw [← this]
    exact hy
  · exact fun h => ⟨x, h, rfl⟩
/-- slices.Contains at a row of the call's own. -/
theorem containsRS (base : Nat) (v : Value) (xs : List Str) (x : Str) (w : World) (h : RS w base v xs) (hx : xs.length ≤ 16777216) :
    Calls Tryz.prog 184 #[v, sv x] w fun e w' => e = .returned (.bool (xs.contains x)) ∧ w' = w := by
  rcases h.2 with ⟨rfl, h0⟩ | ⟨g, cap, cur, rfl, hb, hc, h3, h4, h5, h6⟩
  · have : xs = [] := List.length_eq_zero_iff.1 h0
    subst this
    exact Go.Proofs.Tryz.slices_Contains_string_empty none 0 ⟨x.toArray⟩ w
  · refine (Go.Proofs.Tryz.slices_Contains_string g 0 xs.length cap (xs.map fun y => (⟨y.toArray⟩ : ByteArray)) ⟨x.toArray⟩ w (by simp) (by omega) fun j hj => ?_).mono ?_
    · have hj' : j < xs.length := by simpa using hj
      have h7 : (cur.toList.take (xs.length * 1))[j]? = (xs.map sv)[j]? := by rw [h6]
      rw [List.getElem?_take_of_lt (by omega), Array.getElem?_toList, List.getElem?_map, List.getElem?_eq_getElem hj'] at h7
      rw [Nat.zero_add]
      refine (blk_cell hc j).trans (h7.trans ?_)
      simp [hj']
    · rintro e w' ⟨rfl, rfl⟩
      refine ⟨?_, rfl⟩
      rw [List.take_of_length_le (by simp)]
      rw [containsS_map]
/-- strings.Join at a row of the call's own. -/
theorem joinRS (base : Nat) (v : Value) (xs : List Str) (sep : Str) (w : World) (h : RS w base v xs) (hx : xs.length ≤ 16777216) (hl : (sep.intercalate xs).length ≤ 140737488355328) :
    Calls Tryz.prog 185 #[v, sv sep] w fun e w' => e = .returned (sv (sep.intercalate xs)) ∧ Below w.heap.size w w' := by
  rcases h.2 with ⟨rfl, h0⟩ | ⟨g, cap, cur, rfl, hb, hc, h3, h4, h5, h6⟩
  · have : xs = [] := List.length_eq_zero_iff.1 h0
    subst this
    refine (Go.Proofs.Tryz.strings_Join_none none 0 ⟨sep.toArray⟩ w).mono ?_
    rintro e w' ⟨rfl, rfl⟩
    exact ⟨rfl, Below.refl _ _⟩
  · have hm : (xs.map fun y => (⟨y.toArray⟩ : ByteArray)).map (·.data.toList) = xs := by
      rw [List.map_map]
      conv => rhs; rw [← List.map_id xs]
      exact List.map_congr_left fun y _ => by simp
    have hj := Go.Proofs.Tryz.strings_Join g 0 cap (xs.map fun y => (⟨y.toArray⟩ : ByteArray)) ⟨sep.toArray⟩ w (fun j y hj => by
      rw [List.getElem?_map] at hj
      obtain ⟨z, hz, rfl⟩ := Option.map_eq_some_iff.1 hj
      have hj' := (List.getElem?_eq_some_iff.1 hz).1
      have h7 : (cur.toList.take (xs.length * 1))[j]? = (xs.map sv)[j]? := by rw [h6]
      rw [List.getElem?_take_of_lt (by omega), Array.getElem?_toList, List.getElem?_map, hz] at h7
      rw [Nat.zero_add]
      exact (blk_cell hc j).trans h7) (blk_lt hc) (by simp; omega) (by simpa using h3) (by rw [hm]; exact hl)
    rw [hm, List.length_map] at hj
    exact hj
section
variable {ops : Array Oper} {rest : List Oper} {o : Oper} {a : Act} {Q : Exit → Act → World → Prop} {W w0 : World} {base : Nat}
/-- 'v[i] = s' at a row of the call's own. -/
theorem storeS (hN : o.dst = none) (hgd : o.guard = none) {p x : Operand} (ho : o.op = .store 9 p x) {g n cap o' : Nat} (i : Int) (xs : List Str) (s : Str)
    (haddr : a.eval p = .pointer (some ⟨g, o', none⟩)) (hoff : o' = i.toNat) (hx : a.eval x = sv s)
    (HO : Aside0 (RS W base (.slice (some ⟨g, 0, none⟩) n cap) xs)) (h0 : 0 ≤ i) (hi : i < n) (HB : Aside0 (Below base w0 W))
    (h : ∀ w1, Aside0 (RS w1 base (.slice (some ⟨g, 0, none⟩) n cap) (xs.set i.toNat s)) → Aside0 (Below base w0 w1) → Aside0 (W.grownBy w1 (some g)) → wpList Tryz.prog ops Q rest a w1) : wpList Tryz.prog ops Q (o :: rest) a W := by
  have hl : xs.length = n := by
    rcases HO.out.2 with ⟨e, _⟩ | ⟨g, cap, cur, e, _⟩
    · cases e
    · injection e with _ e _; exact e.symm
  have hi' : i.toNat < xs.length := by omega
  refine Kd.R_store kStr (w0 := w0) base hN hgd 9 p x ho 9 i 0 xs s (sv s) [sv s] [sv xs[i.toNat]] (fun _ => True) (fun _ => False) haddr (by rw [hoff, show kStr.sz = 1 from rfl]; omega) hx rfl sizeS (fun q hq => by rw [List.mem_singleton.1 hq]; rfl) HO.out.own h0 hi rfl ?_ (by show 0 + 1 ≤ 1; omega) rfl (fun _ hk => hk.elim) HB.out fun w1 h2 h3 h4 => h w1 ⟨RS.of_own h2⟩ ⟨h3⟩ ⟨h4⟩
  intro j u hu
  match j, hu with
  | 0, hu =>
    cases hu
    rcases HO.out.2 with ⟨e, _⟩ | ⟨g', cap', cur, e, hb, hc, h3, h4, h5, h6⟩
    · cases e
    · injection e with e1 e2 e3
      injection e1 with e1
      injection e1 with e1
      subst e1
      have h7 : (cur.toList.take (xs.length * 1))[i.toNat]? = (xs.map sv)[i.toNat]? := by rw [h6]
      rw [List.getElem?_take_of_lt (by omega), Array.getElem?_toList, List.getElem?_map, List.getElem?_eq_getElem hi'] at h7
      rw [show i.toNat * kStr.sz + 0 = i.toNat by rw [show kStr.sz = 1 from rfl]; omega]
      exact (blk_cell hc _).trans h7
  | j + 1, hu => simp at hu
end
end Go.Proofs.YtijeoadfgjpefaaGreatDoor
