/- The arguments of the laws, opened: a row of items, an op. No condition. -/
import Derived.Test.YtijeoadfgjpefaaGreatDoorLwItem
import Derived.Test.YtijeoadfgjpefaaGreatDoorWImplA
import Derived.Deep.Slices
import Derived.Lib.SmallJoins
import Derived.ProofKit
import Derived.OpenShut
import Derived.ShutString
import Derived.Carry
namespace Go.Proofs.YtijeoadfgjpefaaGreatDoor
open Go.ChangeShapes Go.WideShapes Go.ChangeAt Go.RowKit Go.Joins Go.Deep Go.Proofs.YtijeoadfgjpefaaGreatDoorW.PrintWords Go.Proofs.YtijeoadfgjpefaaGreatDoor.PFnExactPlain

theorem build_list {α : Type} {P : Nat → α → Prop} : ∀ (n : Nat), (∀ i, i < n → ∃ x, P i x) → ∃ l : List α, l.length = n ∧ ∀ (i : Nat) (x : α), l[i]? = some x → P i x
  | 0, _ => ⟨[], rfl, fun i x h => by simp at h⟩
  | n + 1, h => by
    obtain ⟨l, hl, hp⟩ := build_list n fun i hi => h i (by omega)
    obtain ⟨x, hx⟩ := h n (by omega)
    refine ⟨l ++ [x], by simp [hl], fun i y hy => ?_⟩
    by_cases hi : i < l.length
    · rw [List.getElem?_append_left hi] at hy
      exact hp i y hy
    · rw [List.getElem?_append_right (by omega)] at hy
      have e : i = l.length := by
        have := (List.getElem?_eq_some_iff.1 hy).1
        simp at this
        omega
      subst e
      simp at hy
      subst hy
      rw [hl]; exact hx
theorem strLen (s : ByteArray) (h : s.size ≤ maxLen) : s.data.toList.length ≤ maxLen := by
  rw [Array.length_toList]
  exact h
theorem list3 {α : Type} : ∀ {l : List α}, l.length = 3 → ∃ a b c, l = [a, b, c]
  | [a, b, c], _ => ⟨a, b, c, rfl⟩
theorem cellsLItem : Tryz.prog.cellsOf 86 = 3 := by kernel_rfl
theorem cellsStr : Tryz.prog.cellsOf 9 = 1 := by kernel_rfl
theorem cellsBool : Tryz.prog.cellsOf 4 = 1 := by kernel_rfl
theorem open_items {H : Type} {enc : TypeId × Value → H} {W : World} {base : Nat} {spare : Nat → Bool} {held : Bool} {fuel : Nat} {A : Option Addr} {len c : Nat} {x : DataW H × List MemPlace} (h : DataW.trod enc Tryz.prog W base spare held fuel 22 [.slice A len c] = some x) :
    ∃ l : List Item, l.length = len ∧ len ≤ c ∧ len ≤ maxLen ∧ Kd.C k86 W A len (l.map toL) ∧ ∀ x ∈ l, x.path.length ≤ maxLen ∧ x.data.length ≤ maxLen := by
  rcases open_slice Tryz.underlying22 h with ⟨hcs, _⟩ | ⟨a, len', cap', m, n, D, Pl, hcs, _, hl, hm, hmm, _, hi⟩
  · simp at hcs
    obtain ⟨rfl, rfl, rfl⟩ := hcs
    exact ⟨[], rfl, Nat.le_refl _, Nat.zero_le _, Kd.C_nil _ _, by simp⟩
  · simp at hcs
    obtain ⟨rfl, rfl, rfl⟩ := hcs
    have hlm : len ≤ m := by rw [hmm]; split <;> omega
    obtain ⟨l, hll, hP⟩ := build_list (P := fun i (x : Item) => x.path.length ≤ maxLen ∧ x.data.length ≤ maxLen ∧ ∀ (j : Nat) u, [Value.string ⟨x.path.toArray⟩, .bool x.dir, .string ⟨x.data.toArray⟩][j]? = some u → W.cell? (a.add (i * 3 + j)) = some u) len (fun i hil => by
      obtain ⟨cs', hc, ht⟩ := hi i (by omega)
      rw [cellsLItem] at hc
      obtain ⟨ys, n', _, _, _, hyl, hf⟩ := DataW.trod_struct Tryz.underlying86 ht
      obtain ⟨_, hcl, hat⟩ := World.cells?_some hc
      obtain ⟨v0, v1, v2, rfl⟩ := list3 hcl
      · have hy : ys.length = 3 := hyl
        have h0 := hf 0 _ rfl
        have h1 := hf 1 _ rfl
        have h2 := hf 2 _ rfl
        rw [List.getElem?_eq_getElem (by omega)] at h0 h1 h2
        obtain ⟨s0, e0, _, z0⟩ := DataW.trod_string Tryz.underlying9 h0
        obtain ⟨b1, e1, _⟩ := DataW.trod_bool Tryz.underlying4 h1
        obtain ⟨s2, e2, _, z2⟩ := DataW.trod_string Tryz.underlying9 h2
        have f0 : v0 = .string s0 := by simpa [cellsStr] using e0
        have f1 : v1 = .bool b1 := by simpa [cellsBool] using e1
        have f2 : v2 = .string s2 := by simpa [cellsStr] using e2
        subst f0 f1 f2
        refine ⟨⟨s0.data.toList, b1, s2.data.toList⟩, strLen _ z0, strLen _ z2, fun j u hu => ?_⟩
        have hj : j < 3 := by
          have := (List.getElem?_eq_some_iff.1 hu).1
          simpa using this
        have := hat j hj
        rw [← Go.Deep.add_add, this]
        exact hu)
    refine ⟨l, hll, hl, ?_, ⟨by simpa using hll, ?_, fun hn => ⟨a, rfl, fun j p hj => ?_⟩⟩, fun x hx => ?_⟩
    · omega
    · unfold maxLen at hm; omega
    · rw [List.getElem?_map] at hj
      cases hx : l[j]? with
      | none => rw [hx] at hj; cases hj
      | some y =>
        rw [hx] at hj
        cases hj
        exact ⟨_, rfl, k86_mk W (toL y), (hP j y hx).2.2⟩
    · obtain ⟨j, hj, e⟩ := List.mem_iff_getElem.1 hx
      have := hP j x (by rw [List.getElem?_eq_getElem hj, e])
      exact ⟨this.1, this.2.1⟩
set_option maxRecDepth 100000 in
theorem open_op {H : Type} {enc : TypeId × Value → H} {W : World} {base b0 : Nat} {spare : Nat → Bool} {held : Bool} {r : Reach} {v : Value} {d : DataW H} {p : List MemPlace} (hv : Value.okWide Tryz.prog W r b0 24 v) (h : DataW.Trod enc Tryz.prog W base spare held 24 v d p) :
    ∃ o : OpR, v = opv o ∧ o.path.length ≤ maxLen ∧ o.dest.length ≤ maxLen ∧ o.data.length ≤ maxLen := by
  obtain ⟨v0, v1, v2, v3, y0, y1, y2, y3, n, rfl, _, _, h0, h1, h2, h3⟩ := open_agg4 Tryz.underlying24 (by kernel_rfl) (by kernel_rfl) hv h
  obtain ⟨k, e0, _, _⟩ := DataW.trod_int Tryz.underlying3 h0
  obtain ⟨s1, e1, _, z1⟩ := DataW.trod_string Tryz.underlying9 h1
  obtain ⟨s2, e2, _, z2⟩ := DataW.trod_string Tryz.underlying9 h2
  obtain ⟨s3, e3, _, z3⟩ := DataW.trod_string Tryz.underlying9 h3
  cases e0; cases e1; cases e2; cases e3
  refine ⟨⟨k, s1.data.toList, s2.data.toList, s3.data.toList⟩, rfl, ?_, ?_, ?_⟩
  · exact strLen _ z1
  · exact strLen _ z2
  · exact strLen _ z3
theorem laidOut : laidOutB Tryz.prog = true := by kernel_rfl
theorem own_knob : ownKnob Tryz.prog.godebug = none := by kernel_rfl
end Go.Proofs.YtijeoadfgjpefaaGreatDoor
