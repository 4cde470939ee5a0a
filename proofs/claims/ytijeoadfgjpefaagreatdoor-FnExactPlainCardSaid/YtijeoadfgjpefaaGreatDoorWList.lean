/- The walks of the reference's functions on lists: Find, l12Folder, ItemsOk, l11Ok, l12Kids. Conditions: lengths below 16777216. The walks of l11Ok and l12Kids. Conditions: lengths below 16777216. A store into a field of an item of a row of the call's own. No condition. -/
import Derived.Test.YtijeoadfgjpefaaGreatDoorWPath
import Derived.Test.YtijeoadfgjpefaaGreatDoorBase
namespace Go.Proofs.YtijeoadfgjpefaaGreatDoor
open Go.RowKit Go.Proofs.YtijeoadfgjpefaaGreatDoorW.PrintWords
set_option linter.unusedSimpArgs false
set_option linter.unusedVariables false

def smallI (l : List Item) : Prop := l.length ≤ 16777216 ∧ ∀ x ∈ l, x.path.length ≤ 8388608 ∧ x.data.length ≤ 16777216
def findF (p : Str) : List Item → Nat → Int
  | [], _ => -1
  | x :: r, k => if x.path == p then (k : Int) else findF p r (k + 1)
theorem findF_range (p : Str) : ∀ (l : List Item) (k : Nat), findF p l k = -1 ∨ ((k : Int) ≤ findF p l k ∧ findF p l k < k + l.length)
  | [], k => .inl rfl
  | x :: r, k => by
    rw [findF]
    split
    · right; simp; omega
    · rcases findF_range p r (k + 1) with h | h
      · exact .inl h
      · right; simp; omega
abbrev find (l : List Item) (p : Str) : Int := findF p l 0

theorem specFind (A : Option Addr) (c : Nat) (l : List Item) (p : Str) (w : World) (HR : Aside0 (Kd.C kItem w A l.length l)) (hl : smallI l) :
    Calls Tryz.prog 64 #[.slice A l.length c, sv p] w fun e w' => e = .returned (.int .i64 (find l p)) ∧ w = w' := by
  have hl := hl.1
  go_enter Tryz.func64, Tryz.ntmps64
  go_wp2
  go_loop [5] (fun i => ∃ k : Nat, k ≤ l.length ∧ i = .int .i64 k ∧ Aside0 (findF p (l.drop k) k = findF p l 0)) (fun i => l.length - (intOf i).toNat)
  case atStart => exact ⟨0, Nat.zero_le _, rfl, ⟨rfl⟩⟩
  case round =>
    obtain ⟨k, hk, rfl, ha⟩ := hrel
    by_cases hlt : k < l.length
    · obtain ⟨ad, rfl, h0, h1, h2⟩ := at_Item HR.out k hlt
      go_wp2
      · have ha := ha.out
        rw [List.drop_eq_getElem_cons hlt, findF, if_pos (by assumption)] at ha
        rw [show find l p = findF p l 0 from rfl, ← ha]; go_ret; exact ⟨rfl, rfl⟩
      · have ha := ha.out
        rw [List.drop_eq_getElem_cons hlt, findF, if_neg (by simp [*])] at ha
        exact ⟨⟨k + 1, by omega, by go_num, ⟨ha⟩⟩, by simp [intOf]; omega⟩
    · have ha := ha.out
      rw [List.drop_eq_nil_of_le (by omega), findF] at ha
      have HF := Lib.hid (show find l p = -1 from ha.symm)
      clear ha
      go_wp2
      go_ret; exact ⟨by rw [HF.out]; rfl, rfl⟩

def getI (l : List Item) (k : Int) : Item := l.getD k.toNat zItem
theorem at_ItemZ {w : World} {A : Option Addr} {xs : List Item} (h : Kd.C kItem w A xs.length xs) (i : Int) (h0 : 0 ≤ i) (h1 : i < xs.length) : ∃ ad , A = some ad ∧ w.cell? (ad.add (i.toNat * 3)) = some (sv (getI xs i).path) ∧ w.cell? ⟨(ad.add (i.toNat * 3)).block, (ad.add (i.toNat * 3)).off + 1, none⟩ = some (.bool (getI xs i).dir) ∧ w.cell? ⟨(ad.add (i.toNat * 3)).block, (ad.add (i.toNat * 3)).off + 2, none⟩ = some (sv (getI xs i).data) := by
  obtain ⟨ad, e, h⟩ := at_Item h i.toNat (by omega)
  have : xs[i.toNat]'(by omega) = getI xs i := by rw [getI, List.getD_eq_getElem?_getD, List.getElem?_eq_getElem (by omega)]; rfl
  rw [this] at h
  exact ⟨ad, e, h⟩

def folderC (l : List Item) (p : Str) : Int := if p = [] then 0 else if find l p < 0 then 2 else if (getI l (find l p)).dir then 0 else 4
theorem specFolder (A : Option Addr) (c : Nat) (l : List Item) (p : Str) (w : World) (HR : Aside0 (Kd.C kItem w A l.length l)) (hl : smallI l) :
    Calls Tryz.prog 126 #[.slice A l.length c, sv p] w fun e w' => e = .returned (.int .i64 (folderC l p)) ∧ w = w' := by
  have hlen := hl.1
  by_cases hp : p = []
  · subst hp
    go_enter Tryz.func126, Tryz.ntmps126
    go_wp2
    go_ret
    exact ⟨rfl, rfl⟩
  have hne : p.isEmpty = false := by simpa using hp
  by_cases hf : find l p < 0
  · have HF := Lib.hid (show folderC l p = 2 by simp only [folderC, if_neg hp, if_pos hf])
    clear hp
    go_enter Tryz.func126, Tryz.ntmps126
    go_wp2_with (go_at_call 64; refine (specFind A c l p _ HR hl).mono ?_; rintro e w1 ⟨rfl, rfl⟩)
    go_ret
    exact ⟨by rw [HF.out]; rfl, rfl⟩
  · have HF := Lib.hid (show folderC l p = if (getI l (find l p)).dir then 0 else 4 by simp only [folderC, if_neg hp, if_neg hf])
    have hb : 0 ≤ find l p ∧ find l p < l.length := by
      rcases findF_range p l 0 with h | h
      · exact absurd (show find l p < 0 by rw [find, h]; decide) hf
      · exact ⟨by simpa using h.1, by simpa using h.2⟩
    obtain ⟨hb1, hb2⟩ := hb
    obtain ⟨ad, rfl, h0, h1, h2⟩ := at_ItemZ HR.out (find l p) hb1 hb2
    clear hp hf
    go_enter Tryz.func126, Tryz.ntmps126
    go_wp2_with (go_at_call 64; refine (specFind _ c l p _ HR hl).mono ?_; rintro e w1 ⟨rfl, rfl⟩)
    all_goals
      go_ret
      exact ⟨by rw [HF.out]; simp_all, rfl⟩

def itemOk (l : List Item) (i : Int) (x : Item) : Bool :=
  (split x.path).2.2 && !decide (60 < (x.data.length : Int)) && !(x.dir && !x.data.isEmpty) && (find l x.path == i) && !(folderC l (split x.path).1 != 0)
def itemsOkF (l : List Item) : List Item → Nat → Bool
  | [], _ => true
  | x :: r, i => itemOk l i x && itemsOkF l r (i + 1)
def itemsOk (l : List Item) : Bool := itemsOkF l l 0 && decide ((l.length : Int) < 12)
theorem split_le (s : Str) : (split s).1.length ≤ s.length ∧ (split s).2.1.length ≤ s.length := by
  unfold split; split
  · simp
  · split
    · simp
    · split
      · simp
      · constructor
        · simp; omega
        · simp

theorem specItemsOk (A : Option Addr) (c : Nat) (l : List Item) (w : World) (HR : Aside0 (Kd.C kItem w A l.length l)) (hl : smallI l) :
    Calls Tryz.prog 62 #[.slice A l.length c] w fun e w' => e = .returned (.bool (itemsOk l)) ∧ Below w.heap.size w w' := by
  have hlen := hl.1
  go_enter Tryz.func62, Tryz.ntmps62
  go_wp2
  go_loopw [3] (fun i wr => ∃ k : Nat, k ≤ l.length ∧ i = .int .i64 k ∧ Aside0 (itemsOkF l (l.drop k) k = itemsOkF l l 0) ∧ Aside0 (Below w.heap.size w wr)) (fun i _ => l.length - (intOf i).toNat)
  case atStart => exact ⟨0, Nat.zero_le _, rfl, ⟨rfl⟩, ⟨Below.refl _ _⟩⟩
  case round =>
    obtain ⟨k, hk, rfl, ha, HB⟩ := hrel
    have HR := Aside0.mk (Kd.C_below HR.out HB.out)
    by_cases hlt : k < l.length
    · obtain ⟨ad, rfl, h0, h1, h2⟩ := at_Item HR.out k hlt
      have hx := hl.2 _ (List.getElem_mem hlt)
      have hx1 := hx.1
      have hx2 := hx.2
      have HS := split_le l[k].path
      have HA := Lib.hid (show (itemOk l k l[k] && itemsOkF l (l.drop (k + 1)) (k + 1)) = itemsOkF l l 0 by rw [← ha.out, List.drop_eq_getElem_cons hlt, itemsOkF])
      clear ha hx
      have HS := Lib.hid HS
      go_wp2_with (first
        | (go_at_call 125; refine (specSplit _ _ (by omega)).mono ?_; rintro e w1 ⟨rfl, hb⟩; obtain ⟨hc1, hf1⟩ := bcell hb; have HB1 := Aside0.mk (below_box hb); clear hb)
        | (go_at_call 64; refine (specFind _ c l _ _ ⟨Kd.C_below HR.out HB1.out⟩ hl).mono ?_; rintro e w1 ⟨rfl, rfl⟩)
        | (go_at_call 126; refine (specFolder _ c l _ _ ⟨Kd.C_below HR.out HB1.out⟩ hl).mono ?_; rintro e w1 ⟨rfl, rfl⟩))
      all_goals first
        | (go_ret
           have hF : itemOk l k l[k] = false := by
             try clear hc1 hf1 HB1
             clear HB HR HA h0 h1 h2
             first | (simp [itemOk, *]; done) | (simp_all [itemOk]; done) | (simp_all [itemOk]; omega)
           exact ⟨by rw [itemsOk, ← HA.out, hF]; rfl, by first | exact HB.out.trans (HB1.out.mono HB.out.size) | exact HB.out⟩)
        | (have hT : itemOk l k l[k] = true := by
             try clear hc1 hf1 HB1
             clear HB HR HA h0 h1 h2
             first | (simp [itemOk, *]; done) | (simp_all [itemOk]; done)
           exact ⟨⟨k + 1, by omega, by go_num, ⟨by rw [← HA.out, hT, Bool.true_and]⟩, ⟨HB.out.trans (HB1.out.mono HB.out.size)⟩⟩, by simp [intOf]; omega⟩)
    · have HA := Lib.hid (show itemsOk l = decide ((l.length : Int) < 12) by rw [itemsOk, ← ha.out, List.drop_eq_nil_of_le (by omega), itemsOkF, Bool.true_and])
      clear ha
      go_wp2
      go_ret
      exact ⟨by rw [HA.out]; simp, HB.out⟩
end Go.Proofs.YtijeoadfgjpefaaGreatDoor
namespace Go.Proofs.YtijeoadfgjpefaaGreatDoor
open Go.RowKit Go.Proofs.YtijeoadfgjpefaaGreatDoorW.PrintWords
set_option linter.unusedSimpArgs false
set_option linter.unusedVariables false

def opOk (o : OpR) : Bool := (decide (1 ≤ o.kind) && decide (o.kind ≤ 7)) && pathOk o.path && decide ((o.data.length : Int) ≤ 60) && ((o.kind != 6) || pathOk o.dest)

theorem specOk (o : OpR) (w : World) (ho : smallO o) :
    Calls Tryz.prog 69 #[opv o] w fun e w' => e = .returned (.bool (opOk o)) ∧ Below w.heap.size w w' := by
  obtain ⟨ho1, ho2, ho3⟩ := ho
  rcases Bool.eq_false_or_eq_true (pathOk o.path) with h1 | h1
  all_goals rcases Bool.eq_false_or_eq_true (pathOk o.dest) with h2 | h2
  all_goals rcases Bool.eq_false_or_eq_true (o.kind == 6) with h3 | h3
  all_goals
    have h3n : (o.kind != 6) = !(o.kind == 6) := rfl
    rw [h3] at h3n
    go_enter Tryz.func69, Tryz.ntmps69
    go_wp2_with (first
      | (go_at_call_of 131 (sv o.path); refine (specPathOk _ _ (by omega)).mono ?_; rintro e w1 ⟨rfl, hb⟩; obtain ⟨hc1, hf1⟩ := bcell hb; have HB1 := Aside0.mk (below_box hb); clear hb)
      | (go_at_call_of 131 (sv o.dest); refine (specPathOk _ _ (by omega)).mono ?_; rintro e w2 ⟨rfl, hb⟩; have HB2 := Aside0.mk hb; clear hb)
      | go_in)
    all_goals
      go_ret
      refine ⟨?_, ?_⟩
      · congr 2; unfold opOk; rw [h1, h2, h3n]; simp [*] <;> omega
      · first | exact below_then HB1.out HB1.out.size HB2.out | exact HB1.out | exact (Below.refl _ _).alloc (Nat.le_refl _) _

def kidsF (l : List Item) (p : Str) : Bool := l.any fun x => (x.path != p) && under x.path p
theorem specKids (A : Option Addr) (c : Nat) (l : List Item) (p : Str) (w : World) (HR : Aside0 (Kd.C kItem w A l.length l)) (hl : smallI l) (hp : p.length ≤ 16777216) :
    Calls Tryz.prog 178 #[.slice A l.length c, sv p] w fun e w' => e = .returned (.bool (kidsF l p)) ∧ Below w.heap.size w w' := by
  have hlen := hl.1
  go_enter Tryz.func178, Tryz.ntmps178
  go_wp2
  go_loopw [5] (fun i wr => ∃ k : Nat, k ≤ l.length ∧ i = .int .i64 k ∧ Aside0 (kidsF (l.drop k) p = kidsF l p) ∧ Aside0 (Below w.heap.size w wr)) (fun i _ => l.length - (intOf i).toNat)
  case atStart => exact ⟨0, Nat.zero_le _, rfl, ⟨rfl⟩, ⟨Below.refl _ _⟩⟩
  case round =>
    obtain ⟨k, hk, rfl, ha, HB⟩ := hrel
    have HR := Aside0.mk (Kd.C_below HR.out HB.out)
    by_cases hlt : k < l.length
    · obtain ⟨ad, rfl, h0, h1, h2⟩ := at_Item HR.out k hlt
      have hx1 := (hl.2 _ (List.getElem_mem hlt)).1
      have HA := Lib.hid (show ((l[k].path != p) && under l[k].path p || kidsF (l.drop (k + 1)) p) = kidsF l p by rw [← ha.out, List.drop_eq_getElem_cons hlt]; rfl)
      clear ha
      go_wp2_with (go_at_call 151; refine (specUnder _ _ _ (by omega) hp).mono ?_; rintro e w1 ⟨rfl, hb⟩; have HB1 := Aside0.mk hb; clear hb)
      all_goals first
        | (go_ret
           have hF : kidsF l p = true := by rw [← HA.out]; simp [*]
           exact ⟨by rw [hF]; rfl, HB.out.trans (HB1.out.mono HB.out.size)⟩)
        | (have hF : kidsF (l.drop (k + 1)) p = kidsF l p := by rw [← HA.out]; simp_all
           exact ⟨⟨k + 1, by omega, by go_num, ⟨hF⟩, by first | exact ⟨HB.out.trans (HB1.out.mono HB.out.size)⟩ | exact HB⟩, by simp [intOf]; omega⟩)
    · have HA := Lib.hid (show kidsF l p = false by rw [← ha.out, List.drop_eq_nil_of_le (by omega)]; rfl)
      clear ha
      go_wp2
      go_ret
      exact ⟨by rw [HA.out]; rfl, HB.out⟩
end Go.Proofs.YtijeoadfgjpefaaGreatDoor
namespace Go.Proofs.YtijeoadfgjpefaaGreatDoor
open Go.RowKit Go.Proofs.YtijeoadfgjpefaaGreatDoorW.PrintWords
set_option linter.unusedSimpArgs false
set_option linter.unusedVariables false

theorem own_form {α : Type} {d : Kd α} {e : Nat} {w : World} {base : Nat} {v : Value} {xs : List α} (h : Own d e w base v xs) (hn : 0 < xs.length) : ∃ g cap, v = .slice (some ⟨g, 0, none⟩) xs.length cap := by
  obtain ⟨inner, ho⟩ := Kd.R_own h
  obtain ⟨g, cap, hv, _⟩ := ho.form hn
  exact ⟨g, cap, hv⟩
theorem sizeS : (Tryz.prog.info? 9).map (·.size) = some 1 := by kernel_rfl
theorem sizeB : (Tryz.prog.info? 4).map (·.size) = some 1 := by kernel_rfl
theorem sizeI : (Tryz.prog.info? 3).map (·.size) = some 1 := by kernel_rfl
section
variable {ops : Array Oper} {rest : List Oper} {o : Oper} {a : Act} {Q : Exit → Act → World → Prop} {W w0 : World} {base : Nat}
theorem storeI (hN : o.dst = none) (hgd : o.guard = none) {t : TypeId} {p x : Operand} (ho : o.op = .store t p x) {g n cap o' : Nat} (i : Int) (j : Nat) (xs : List Item) (x' : Item) (u : Value) (hj : j < 3)
    (haddr : a.eval p = .pointer (some ⟨g, o', none⟩)) (hoff : o' = i.toNat * 3 + j) (hx : a.eval x = u) (hu : u.cells.toList = [u]) (ht : (Tryz.prog.info? t).map (·.size) = some 1) (h1 : u.oneCell' = true)
    (HO : Aside0 (Own kItem 83 W base (.slice (some ⟨g, 0, none⟩) n cap) xs)) (h0 : 0 ≤ i) (hi : i < n)
    (hM : [sv x'.path, .bool x'.dir, sv x'.data] = [sv (getI xs i).path, .bool (getI xs i).dir, sv (getI xs i).data].set j u) (HB : Aside0 (Below base w0 W))
    (h : ∀ w1, Aside0 (Own kItem 83 w1 base (.slice (some ⟨g, 0, none⟩) n cap) (xs.set i.toNat x')) → Aside0 (Below base w0 w1) → Aside0 (W.grownBy w1 (some g)) → wpList Tryz.prog ops Q rest a w1) : wpList Tryz.prog ops Q (o :: rest) a W := by
  obtain ⟨A1, c1, e1, hc, hC⟩ := Kd.R_reads HO.out
  injection e1 with e2 e3 e4
  subst e2 e3 e4
  obtain ⟨ad, ea, f0, f1, f2⟩ := at_ItemZ hC i h0 hi
  cases ea
  refine Kd.R_store kItem (w0 := w0) base hN hgd t p x ho 83 i j xs x' u [u] [sv (getI xs i).path, .bool (getI xs i).dir, sv (getI xs i).data] (fun _ => True) (fun _ => False) haddr hoff hx hu ht (fun q hq => by rw [List.mem_singleton.1 hq]; exact h1) HO.out h0 hi rfl ?_ (by show j + 1 ≤ 3; omega) ?_ (fun _ hk => hk.elim) HB.out fun w1 h2 h3 h4 => h w1 ⟨h2⟩ ⟨h3⟩ ⟨h4⟩
  · have e : ∀ k : Nat, (⟨g, 0, none⟩ : Addr).add k = ⟨g, k, none⟩ := add_plain g
    rw [e] at f0 f1 f2
    intro k v hv
    match k, hv with
    | 0, hv => cases hv; exact f0
    | 1, hv => cases hv; exact f1
    | 2, hv => cases hv; exact f2
    | k + 3, hv => simp at hv
  · have e : [sv (getI xs i).path, .bool (getI xs i).dir, sv (getI xs i).data].take j ++ [u] ++ [sv (getI xs i).path, Value.bool (getI xs i).dir, sv (getI xs i).data].drop (j + [u].length) = [sv (getI xs i).path, .bool (getI xs i).dir, sv (getI xs i).data].set j u := by
      match j, hj with
      | 0, _ => rfl
      | 1, _ => rfl
      | 2, _ => rfl
    rw [e, ← hM]
    exact ⟨[sv x'.path], [.bool x'.dir, sv x'.data], rfl, rfl, [.bool x'.dir], [sv x'.data], rfl, rfl, rfl⟩
end
end Go.Proofs.YtijeoadfgjpefaaGreatDoor
