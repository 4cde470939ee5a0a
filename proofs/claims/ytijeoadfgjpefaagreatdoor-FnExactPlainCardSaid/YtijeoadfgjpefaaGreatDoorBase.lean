/- The words of this seat's proofs: kinds of the program's own structures, texts as lists of bytes, and small lemmas that every walk uses. No condition. More words: a row that is read, as a value; append's laws at this program's own element types. No condition. -/
import Derived.Test.YtijeoadfgjpefaaGreatDoorProg
import Derived.Test.YtijeoadfgjpefaaGreatDoorWWords
import Derived.Handy
import Derived.Lib.Hide
import Derived.Outline
namespace Go.Proofs.YtijeoadfgjpefaaGreatDoor
open Go.RowKit Go.Proofs.YtijeoadfgjpefaaGreatDoorW.PrintWords

abbrev Str := List UInt8
abbrev sv (l : Str) : Value := .string ⟨l.toArray⟩
def byte (s : Str) (k : Nat) : Int := ((s[k]?.getD 0).toNat : Int)
theorem byte_at {s : Str} {k : Nat} (h : k < s.length) : ((s[k]'h).toNat : Int) = byte s k := by simp [byte, h]
theorem byte_ix {s : Str} {k : Nat} (h : k < s.length) : ((({ data := List.toArray s } : ByteArray)[k]'(show k < s.length from h)).toNat : Int) = byte s k := byte_at h
theorem byte_eq {s : Str} {k : Nat} (h : k < s.length) (c : UInt8) : (byte s k = (c.toNat : Int)) ↔ s[k] = c := by
  rw [← byte_at h]
  constructor
  · intro e; exact UInt8.toNat_inj.1 (by omega)
  · intro e; rw [e]
theorem byte_range (s : Str) (k : Nat) : 0 ≤ byte s k ∧ byte s k < 256 := by
  have := (s[k]?.getD 0).toNat_lt
  unfold byte; omega
def kStr : Kd Str := Kd.scalar (fun l => .string ⟨l.toArray⟩) (fun _ => rfl)

structure Item where
  path : Str
  dir : Bool
  data : Str
  deriving DecidableEq
def zItem : Item := ⟨[], false, []⟩
def kItem : Kd Item := Kd.iso (Kd.pair kStr (Kd.pair Kd.bool kStr)) (fun x : Item => (x.path, x.dir, x.data))
theorem kItem_open {w : World} {x : Item} {cs : List Value} (h : kItem.K w x cs) : cs = [sv x.path, .bool x.dir, sv x.data] := by
  obtain ⟨_, _, rfl, rfl, ⟨_, _, rfl, rfl, rfl⟩⟩ := h
  exact rfl
theorem at_Item {w : World} {A : Option Addr} {xs : List Item} (h : Kd.C kItem w A xs.length xs) (i : Nat) (h1 : i < xs.length) : ∃ ad , A = some ad ∧ w.cell? (ad.add (i * 3)) = some (sv xs[i].path) ∧ w.cell? ⟨(ad.add (i * 3)).block, (ad.add (i * 3)).off + 1, none⟩ = some (.bool xs[i].dir) ∧ w.cell? ⟨(ad.add (i * 3)).block, (ad.add (i * 3)).off + 2, none⟩ = some (sv xs[i].data) := by
  obtain ⟨ad, c, e, _, hK, hc0⟩ := Kd.C_get h zItem i (by omega) (by omega)
  have hc : ∀ j u, c[j]? = some u → w.cell? (ad.add (i * 3 + j)) = some u := hc0
  have hx : xs.getD (i : Int).toNat zItem = xs[i] := by simp [h1]
  rw [hx] at hK
  obtain rfl := kItem_open hK
  exact ⟨ad, e, hc 0 _ rfl, by rw [← add_field _ _ 1 (by omega)]; exact hc 1 _ rfl, by rw [← add_field _ _ 2 (by omega)]; exact hc 2 _ rfl⟩
theorem at_Str {w : World} {A : Option Addr} {xs : List Str} (h : Kd.C kStr w A xs.length xs) (i : Nat) (h1 : i < xs.length) : ∃ ad , A = some ad ∧ w.cell? (ad.add i) = some (sv xs[i]) := by
  obtain ⟨ad, c, e, _, hK, hc0⟩ := Kd.C_get h ([] : Str) i (by omega) (by omega)
  have hc : ∀ j u, c[j]? = some u → w.cell? (ad.add (i * 1 + j)) = some u := hc0
  have hx : xs.getD (i : Int).toNat ([] : Str) = xs[i] := by simp [h1]
  rw [hx] at hK
  obtain rfl : c = [sv xs[i]] := hK
  refine ⟨ad, e, ?_⟩
  have := hc 0 _ rfl
  simpa using this

theorem cutS (s : Str) (a k : Nat) : ({ data := List.toArray s } : ByteArray).extract a k = { data := ((s.take k).drop a).toArray } := by
  apply ByteArray.ext
  simp [ByteArray.data_extract, List.drop_take]
theorem bcell {W w1 : World} (hb : Below W.heap.size W w1) : (∀ b o, b < W.heap.size → w1.cell? ⟨b, o, none⟩ = W.cell? ⟨b, o, none⟩) ∧ (∀ b o, b < W.heap.size → w1.frozen? ⟨b, o, none⟩ = W.frozen? ⟨b, o, none⟩) :=
  ⟨fun b o h => hb.cell (p := ⟨b, o, none⟩) h, fun b o h => hb.frozen (p := ⟨b, o, none⟩) h⟩
/-- Behind a box of the call's own, a call. -/
theorem below_box {w w1 : World} {o : Obj} (hb : Below (w.alloc o).heap.size (w.alloc o) w1) : Below w.heap.size w w1 :=
  ((Below.refl _ _).alloc (Nat.le_refl _) o).trans (hb.mono (by simp))
structure OpR where
  kind : Int
  path : Str
  dest : Str
  data : Str
  deriving DecidableEq
abbrev opv (o : OpR) : Value := .agg #[.int .i64 o.kind, sv o.path, sv o.dest, sv o.data]
def smallO (o : OpR) : Prop := o.path.length ≤ 8388608 ∧ o.dest.length ≤ 8388608 ∧ o.data.length ≤ 8388608
/-! ### types of the dump -/
theorem infoI : (Tryz.prog.info? 3).map (fun i => (i.zero, i.size, i.bytes)) = some (some (.int .i64 0), 1, 8) := by kernel_rfl
theorem infoS : (Tryz.prog.info? 9).map (fun i => (i.zero, i.size, i.bytes)) = some (some (.string ⟨#[]⟩), 1, 16) := by kernel_rfl
theorem infoItem : (Tryz.prog.info? 83).map (fun i => (i.zero, i.size, i.bytes)) = some (some (.agg #[(.string ⟨#[]⟩), (.bool false), (.string ⟨#[]⟩)]), 3, 40) := by kernel_rfl

/-- A row of the call's own whose elements hold no rows. -/
abbrev Own {α : Type} (d : Kd α) (e : Nat) (w : World) (base : Nat) (v : Value) (xs : List α) : Prop := Kd.R d e w base (fun _ => True) v xs
theorem own_empty {α : Type} {d : Kd α} {e : Nat} (W : World) {base : Nat} (h : base ≤ W.heap.size) : Own d e (W.alloc (.cells #[] e)) base (.slice (some ⟨W.heap.size, 0, none⟩) 0 0) [] := by
  refine ⟨fun _ _ => trivial, [], ?_, Reps.none _ _⟩
  have h2 := World.ownsRow_lit (base := base) (e := e) (size := d.sz) W #[] 0 h (by simp [maxLen]) (by simp)
  simpa using h2
section
variable {P : Program} {ops : Array Oper} {rest : List Oper} {o : Oper} {a : Act} {Q : Exit → Act → World → Prop} {α : Type} {W : World}
theorem gate_b {b : Builtin} {xs : Array Operand} {ts : Array TypeId} (_ho : o.op = .call { callee := .builtin b, args := xs, argTypes := ts }) (h : wpList P ops Q (o :: rest) a W) : wpList P ops Q (o :: rest) a W := h
theorem gate_c {f : FuncId} {xs : Array Operand} {ts : Array TypeId} (_ho : o.op = .call { callee := .value (.func f), args := xs, argTypes := ts }) (h : wpList P ops Q (o :: rest) a W) : wpList P ops Q (o :: rest) a W := h
/-- 'append(v, p)' of one element, on a row of the call's own. -/
theorem app1 (d : Kd α) {w0 : World} (base : Nat) (hgd : o.guard = none) (s x : Operand) (t e : TypeId) (z : Value) (bytes : Nat)
    (ho : o.op = .call { callee := .builtin .append, args := #[s, x], argTypes := #[t, t] })
    (ht : P.underlying t = some (.slice e)) (hinfo : (P.info? e).map (fun i => (i.zero, i.size, i.bytes)) = some (some z, d.sz, bytes)) (hz : z.cells.size = d.sz) (hs0 : 0 < d.sz) (hb0 : 0 < bytes)
    (v : Value) (xs : List α) (p : α) (cs : List Value) (hs : a.eval s = v) (hx : a.eval x = .slice (some ⟨W.heap.size, 0, none⟩) 1 1) (hp : d.M W base (fun _ => False) p cs)
    (HO : Own d e W base v xs) (HB : Below base w0 W) (hbase : base ≤ W.heap.size) (hl : (xs.length + 1) * bytes ≤ 140737488355328)
    (h : ∀ v1 w1, Own d e w1 base v1 (xs ++ [p]) → Below base w0 w1 → W.grownBy w1 v.ownBlock → (v1.ownBlock = v.ownBlock ∨ ∃ b, v1.ownBlock = some b ∧ W.heap.size ≤ b) → wpList P ops Q rest (a.put o.dst v1) w1) :
    wpList P ops Q (o :: rest) a (W.alloc (.cells cs.toArray e)) :=
  Kd.R_append d base hgd s x t e z bytes ho ht hinfo hz hs0 hb0 v xs p cs (fun _ => True) (fun _ => False) hs hx hp (fun _ hk => hk.elim) (fun _ _ => trivial) HO HB hbase hl h
/-- The same of a text. -/
theorem appS {w0 : World} {base : Nat} (hgd : o.guard = none) {s x : Operand} (ho : o.op = .call { callee := .builtin .append, args := #[s, x], argTypes := #[36, 36] })
    (v : Value) (xs : List Str) (p : Str) (hs : a.eval s = v) (hx : a.eval x = .slice (some ⟨W.heap.size, 0, none⟩) 1 1)
    (HO : Aside0 (Own kStr 9 W base v xs)) (HB : Aside0 (Below base w0 W)) (hbase : base ≤ W.heap.size) (hl : xs.length + 1 ≤ 1000000000)
    (h : ∀ v1 w1, Aside0 (Own kStr 9 w1 base v1 (xs ++ [p])) → Aside0 (Below base w0 w1) → Aside0 (W.grownBy w1 v.ownBlock) → Aside0 (v1.ownBlock = v.ownBlock ∨ ∃ b, v1.ownBlock = some b ∧ W.heap.size ≤ b) → wpList Tryz.prog ops Q rest (a.put o.dst v1) w1) :
    wpList Tryz.prog ops Q (o :: rest) a (W.alloc (.cells #[sv p] 9)) :=
  app1 kStr base hgd s x 36 9 (.string ⟨#[]⟩) 16 ho Tryz.underlying36 infoS rfl (by decide) (by omega) v xs p [sv p] hs hx rfl HO.out HB.out hbase (by omega) fun v1 w1 h1 h2 h3 h4 => h v1 w1 ⟨h1⟩ ⟨h2⟩ ⟨h3⟩ ⟨h4⟩
end
end Go.Proofs.YtijeoadfgjpefaaGreatDoor
namespace Go.Proofs.YtijeoadfgjpefaaGreatDoor
open Go.RowKit Go.Proofs.YtijeoadfgjpefaaGreatDoorW.PrintWords
set_option linter.unusedSimpArgs false
set_option linter.unusedVariables false

/-- The value v is a slice that reads as l. -/
def RdV {α : Type} (d : Kd α) (w : World) (v : Value) (l : List α) : Prop := ∃ A c, v = .slice A l.length c ∧ l.length ≤ c ∧ Kd.C d w A l.length l
theorem RdV.below {α : Type} {d : Kd α} {w w1 : World} {v : Value} {l : List α} (h : RdV d w v l) (hb : Below w.heap.size w w1) : RdV d w1 v l := by
  obtain ⟨A, c, e, hl, hr⟩ := h
  exact ⟨A, c, e, hl, Kd.C_below hr hb⟩
theorem RdV.of_own {α : Type} {d : Kd α} {e : Nat} {w : World} {base : Nat} {v : Value} {l : List α} (h : Own d e w base v l) : RdV d w v l := Kd.R_reads h
theorem RdV.mk' {α : Type} {d : Kd α} {w : World} {A : Option Addr} {c : Nat} {l : List α} (hc : l.length ≤ c) (h : Aside0 (Kd.C d w A l.length l)) : RdV d w (.slice A l.length c) l := ⟨A, c, rfl, hc, h.out⟩
theorem flat_Item {w w1 : World} {b b1 : Nat} {ok ok1 : Nat → Prop} {x : Item} {cs : List Value} (h : kItem.K w x cs) : kItem.M w1 b1 ok1 x cs := h

section
variable {P : Program} {ops : Array Oper} {rest : List Oper} {o : Oper} {a : Act} {Q : Exit → Act → World → Prop} {K : Act → World → Prop} {α : Type} {W w0 : World} {base : Nat}
theorem appS_step (hgd : o.guard = none) {s x : Operand} (ho : o.op = .call { callee := .builtin .append, args := #[s, x], argTypes := #[36, 36] })
    (v : Value) (xs : List Str) (p : Str) (hs : a.eval s = v) (hx : a.eval x = .slice (some ⟨W.heap.size, 0, none⟩) 1 1)
    (HO : Aside0 (Own kStr 9 W base v xs)) (HB : Aside0 (Below base w0 W)) (hbase : base ≤ W.heap.size) (hl : xs.length + 1 ≤ 1000000000)
    (h : ∀ v1 w1, Aside0 (Own kStr 9 w1 base v1 (xs ++ [p])) → Aside0 (Below base w0 w1) → Aside0 (W.grownBy w1 v.ownBlock) → Aside0 (v1.ownBlock = v.ownBlock ∨ ∃ b, v1.ownBlock = some b ∧ W.heap.size ≤ b) → K (a.put o.dst v1) w1) :
    if Region.wanted o (yielded ops a.tmps) = true then Oper.wp Tryz.prog o a (W.alloc (.cells #[sv p] 9)) K Q else K (a.put o.dst undef) (W.alloc (.cells #[sv p] 9)) :=
  Kd.R_append_step kStr base (by simp [Region.wanted, hgd]) s x 36 9 _ 16 ho Tryz.underlying36 infoS rfl (by decide) (by omega) v xs p [sv p] (fun _ => True) (fun _ => False) hs hx rfl (fun _ hk => hk.elim) (fun _ _ => trivial) HO.out HB.out hbase (by omega) fun v1 w1 h1 h2 h3 h4 => h v1 w1 ⟨h1⟩ ⟨h2⟩ ⟨h3⟩ ⟨h4⟩
theorem appZ (hgd : o.guard = none) {s x : Operand} (ho : o.op = .call { callee := .builtin .append, args := #[s, x], argTypes := #[60, 60] })
    (v : Value) (xs : List Int) (p : Int) (hs : a.eval s = v) (hx : a.eval x = .slice (some ⟨W.heap.size, 0, none⟩) 1 1)
    (HO : Aside0 (Own (Kd.int .i64) 3 W base v xs)) (HB : Aside0 (Below base w0 W)) (hbase : base ≤ W.heap.size) (hl : xs.length + 1 ≤ 1000000000)
    (h : ∀ v1 w1, Aside0 (Own (Kd.int .i64) 3 w1 base v1 (xs ++ [p])) → Aside0 (Below base w0 w1) → Aside0 (W.grownBy w1 v.ownBlock) → Aside0 (v1.ownBlock = v.ownBlock ∨ ∃ b, v1.ownBlock = some b ∧ W.heap.size ≤ b) → wpList Tryz.prog ops Q rest (a.put o.dst v1) w1) :
    wpList Tryz.prog ops Q (o :: rest) a (W.alloc (.cells #[.int .i64 p] 3)) :=
  app1 (Kd.int .i64) base hgd s x 60 3 _ 8 ho Tryz.underlying60 infoI rfl (by decide) (by omega) v xs p [.int .i64 p] hs hx rfl HO.out HB.out hbase (by omega) fun v1 w1 h1 h2 h3 h4 => h v1 w1 ⟨h1⟩ ⟨h2⟩ ⟨h3⟩ ⟨h4⟩
theorem appZ_step (hgd : o.guard = none) {s x : Operand} (ho : o.op = .call { callee := .builtin .append, args := #[s, x], argTypes := #[60, 60] })
    (v : Value) (xs : List Int) (p : Int) (hs : a.eval s = v) (hx : a.eval x = .slice (some ⟨W.heap.size, 0, none⟩) 1 1)
    (HO : Aside0 (Own (Kd.int .i64) 3 W base v xs)) (HB : Aside0 (Below base w0 W)) (hbase : base ≤ W.heap.size) (hl : xs.length + 1 ≤ 1000000000)
    (h : ∀ v1 w1, Aside0 (Own (Kd.int .i64) 3 w1 base v1 (xs ++ [p])) → Aside0 (Below base w0 w1) → Aside0 (W.grownBy w1 v.ownBlock) → Aside0 (v1.ownBlock = v.ownBlock ∨ ∃ b, v1.ownBlock = some b ∧ W.heap.size ≤ b) → K (a.put o.dst v1) w1) :
    if Region.wanted o (yielded ops a.tmps) = true then Oper.wp Tryz.prog o a (W.alloc (.cells #[.int .i64 p] 3)) K Q else K (a.put o.dst undef) (W.alloc (.cells #[.int .i64 p] 3)) :=
  Kd.R_append_step (Kd.int .i64) base (by simp [Region.wanted, hgd]) s x 60 3 _ 8 ho Tryz.underlying60 infoI rfl (by decide) (by omega) v xs p [.int .i64 p] (fun _ => True) (fun _ => False) hs hx rfl (fun _ hk => hk.elim) (fun _ _ => trivial) HO.out HB.out hbase (by omega) fun v1 w1 h1 h2 h3 h4 => h v1 w1 ⟨h1⟩ ⟨h2⟩ ⟨h3⟩ ⟨h4⟩
/-- 'append(v, p)' of an item. -/
theorem appI (hgd : o.guard = none) {s x : Operand} (ho : o.op = .call { callee := .builtin .append, args := #[s, x], argTypes := #[27, 27] })
    (v : Value) (xs : List Item) (p : Item) (hs : a.eval s = v) (hx : a.eval x = .slice (some ⟨W.heap.size, 0, none⟩) 1 1)
    (HO : Aside0 (Own kItem 83 W base v xs)) (HB : Aside0 (Below base w0 W)) (hbase : base ≤ W.heap.size) (hl : xs.length + 1 ≤ 1000000000)
    (h : ∀ v1 w1, Aside0 (Own kItem 83 w1 base v1 (xs ++ [p])) → Aside0 (Below base w0 w1) → Aside0 (W.grownBy w1 v.ownBlock) → Aside0 (v1.ownBlock = v.ownBlock ∨ ∃ b, v1.ownBlock = some b ∧ W.heap.size ≤ b) → wpList Tryz.prog ops Q rest (a.put o.dst v1) w1) :
    wpList Tryz.prog ops Q (o :: rest) a (W.alloc (.cells #[sv p.path, .bool p.dir, sv p.data] 83)) :=
  app1 kItem base hgd s x 27 83 _ 40 ho Tryz.underlying27 infoItem rfl (by decide) (by omega) v xs p [sv p.path, .bool p.dir, sv p.data] hs hx ⟨[sv p.path], [.bool p.dir, sv p.data], rfl, rfl, [.bool p.dir], [sv p.data], rfl, rfl, rfl⟩ HO.out HB.out hbase (by omega) fun v1 w1 h1 h2 h3 h4 => h v1 w1 ⟨h1⟩ ⟨h2⟩ ⟨h3⟩ ⟨h4⟩
theorem appI_step (hgd : o.guard = none) {s x : Operand} (ho : o.op = .call { callee := .builtin .append, args := #[s, x], argTypes := #[27, 27] })
    (v : Value) (xs : List Item) (p : Item) (hs : a.eval s = v) (hx : a.eval x = .slice (some ⟨W.heap.size, 0, none⟩) 1 1)
    (HO : Aside0 (Own kItem 83 W base v xs)) (HB : Aside0 (Below base w0 W)) (hbase : base ≤ W.heap.size) (hl : xs.length + 1 ≤ 1000000000)
    (h : ∀ v1 w1, Aside0 (Own kItem 83 w1 base v1 (xs ++ [p])) → Aside0 (Below base w0 w1) → Aside0 (W.grownBy w1 v.ownBlock) → Aside0 (v1.ownBlock = v.ownBlock ∨ ∃ b, v1.ownBlock = some b ∧ W.heap.size ≤ b) → K (a.put o.dst v1) w1) :
    if Region.wanted o (yielded ops a.tmps) = true then Oper.wp Tryz.prog o a (W.alloc (.cells #[sv p.path, .bool p.dir, sv p.data] 83)) K Q else K (a.put o.dst undef) (W.alloc (.cells #[sv p.path, .bool p.dir, sv p.data] 83)) :=
  Kd.R_append_step kItem base (by simp [Region.wanted, hgd]) s x 27 83 _ 40 ho Tryz.underlying27 infoItem rfl (by decide) (by omega) v xs p [sv p.path, .bool p.dir, sv p.data] (fun _ => True) (fun _ => False) hs hx ⟨[sv p.path], [.bool p.dir, sv p.data], rfl, rfl, [.bool p.dir], [sv p.data], rfl, rfl, rfl⟩ (fun _ hk => hk.elim) (fun _ _ => trivial) HO.out HB.out hbase (by omega) fun v1 w1 h1 h2 h3 h4 => h v1 w1 ⟨h1⟩ ⟨h2⟩ ⟨h3⟩ ⟨h4⟩
/-- 'append(v, ys...)' of items that are read. -/
theorem appIs (hgd : o.guard = none) {s x : Operand} (ho : o.op = .call { callee := .builtin .append, args := #[s, x], argTypes := #[27, 27] })
    (v : Value) (xs ys : List Item) (A : Option Addr) (c : Nat) (hs : a.eval s = v) (hx : a.eval x = .slice A ys.length c)
    (HO : Aside0 (Own kItem 83 W base v xs)) (HR : Aside0 (Kd.C kItem W A ys.length ys)) (HB : Aside0 (Below base w0 W)) (hbase : base ≤ W.heap.size) (hl : xs.length + ys.length ≤ 1000000000)
    (h : ∀ v1 w1, Aside0 (Own kItem 83 w1 base v1 (xs ++ ys)) → Aside0 (Below base w0 w1) → Aside0 (W.grownBy w1 v.ownBlock) → Aside0 (v1.ownBlock = v.ownBlock ∨ ∃ b, v1.ownBlock = some b ∧ W.heap.size ≤ b) → wpList Tryz.prog ops Q rest (a.put o.dst v1) w1) :
    wpList Tryz.prog ops Q (o :: rest) a W :=
  Kd.R_append_rows kItem base hgd s x 27 83 _ 40 ho Tryz.underlying27 infoItem rfl (by decide) (by omega) v xs ys A ys.length c (fun _ => True) (fun _ => False) hs hx HO.out HR.out (fun x cs hk => hk) (fun _ hk => hk.elim) (fun _ _ => trivial) HB.out hbase (by omega) fun v1 w1 h1 h2 h3 h4 => h v1 w1 ⟨h1⟩ ⟨h2⟩ ⟨h3⟩ ⟨h4⟩
theorem appIs_step (hgd : o.guard = none) {s x : Operand} (ho : o.op = .call { callee := .builtin .append, args := #[s, x], argTypes := #[27, 27] })
    (v : Value) (xs ys : List Item) (A : Option Addr) (c : Nat) (hs : a.eval s = v) (hx : a.eval x = .slice A ys.length c)
    (HO : Aside0 (Own kItem 83 W base v xs)) (HR : Aside0 (Kd.C kItem W A ys.length ys)) (HB : Aside0 (Below base w0 W)) (hbase : base ≤ W.heap.size) (hl : xs.length + ys.length ≤ 1000000000)
    (h : ∀ v1 w1, Aside0 (Own kItem 83 w1 base v1 (xs ++ ys)) → Aside0 (Below base w0 w1) → Aside0 (W.grownBy w1 v.ownBlock) → Aside0 (v1.ownBlock = v.ownBlock ∨ ∃ b, v1.ownBlock = some b ∧ W.heap.size ≤ b) → K (a.put o.dst v1) w1) :
    if Region.wanted o (yielded ops a.tmps) = true then Oper.wp Tryz.prog o a W K Q else K (a.put o.dst undef) W :=
  Kd.R_append_rows_step kItem base (by simp [Region.wanted, hgd]) s x 27 83 _ 40 ho Tryz.underlying27 infoItem rfl (by decide) (by omega) v xs ys A ys.length c (fun _ => True) (fun _ => False) hs hx HO.out HR.out (fun x cs hk => hk) (fun _ hk => hk.elim) (fun _ _ => trivial) HB.out hbase (by omega) fun v1 w1 h1 h2 h3 h4 => h v1 w1 ⟨h1⟩ ⟨h2⟩ ⟨h3⟩ ⟨h4⟩
end
theorem add_block (a : Addr) (n : Nat) : (a.add n).block = a.block := by unfold Addr.add; split <;> rfl
/-- A row that is read outlives what is written into another block. -/
theorem C_grown {α : Type} {d : Kd α} (hd : ∀ {w w1 : World} {x : α} {cs : List Value}, d.K w x cs → d.K w1 x cs) {w w1 : World} {a : Addr} {n : Nat} {l : List α} {row : Option Nat} (h : Kd.C d w (some a) n l) (hg : w.grownBy w1 row) (hb : some a.block ≠ row) (hlt : a.block < w.heap.size) : Kd.C d w1 (some a) n l := by
  obtain ⟨h1, h2, h3⟩ := h
  refine ⟨h1, h2, fun hn => ?_⟩
  obtain ⟨ad, e, hc⟩ := h3 hn
  injection e with e
  subst e
  refine ⟨_, rfl, fun j p hj => ?_⟩
  obtain ⟨c, hs, hr, hcell⟩ := hc j p hj
  refine ⟨c, hs, hd hr, fun i u hu => ?_⟩
  rw [← hcell i u hu]
  exact World.cell?_of_block (by rw [add_block]; exact hg.block a.block hlt hb)
theorem grown_cell {w w1 : World} {row : Option Nat} (hg : w.grownBy w1 row) {b : Nat} (hlt : b < w.heap.size) (hb : some b ≠ row) : ∀ o, w1.cell? ⟨b, o, none⟩ = w.cell? ⟨b, o, none⟩ :=
  fun o => World.cell?_of_block (hg.block b hlt hb)
/-- A row of one element, just made. -/
theorem own_one {α : Type} {d : Kd α} {e : Nat} (W : World) {base : Nat} (h : base ≤ W.heap.size) {p : α} {cs : List Value} (hp : d.M (W.alloc (.cells cs.toArray e)) base (fun _ => False) p cs) : Own d e (W.alloc (.cells cs.toArray e)) base (.slice (some ⟨W.heap.size, 0, none⟩) 1 1) [p] := by
  refine ⟨fun _ _ => trivial, cs, ?_, ?_⟩
  · have h2 := World.ownsRow_lit (base := base) (e := e) (size := d.sz) W cs.toArray 1 h (by simp [maxLen]) (by simpa using d.K_len (d.K_of_M hp))
    simpa using h2
  · have hr : Reps (d.M (W.alloc (.cells cs.toArray e)) base (fun k => True ∧ some k ≠ (Value.slice (some ⟨W.heap.size, 0, none⟩) 1 1).ownBlock)) d.sz ([] ++ [p]) ([] ++ cs) :=
      (Reps.none _ _).snoc (d.M_mono (fun _ hk => hk.elim) hp) (d.K_len (d.K_of_M hp))
    exact hr
theorem C_oneI (W : World) (p : Item) {b : Nat} (hb : W.heap.size = b) : Kd.C kItem (W.alloc (.cells #[sv p.path, .bool p.dir, sv p.data] 83)) (some ⟨b, 0, none⟩) 1 [p] := by
  subst hb
  obtain ⟨A, c, e, _, h⟩ := Kd.R_reads (own_one (d := kItem) (e := 83) (cs := [sv p.path, .bool p.dir, sv p.data]) W (Nat.le_refl _) (p := p) ⟨[sv p.path], [.bool p.dir, sv p.data], rfl, rfl, [.bool p.dir], [sv p.data], rfl, rfl, rfl⟩)
  injection e with e1 e2 e3
  subst e1
  exact h
theorem own_emptyB {α : Type} {d : Kd α} {e : Nat} (W : World) {base b : Nat} (hb : W.heap.size = b) (h : base ≤ b) : Own d e (W.alloc (.cells #[] e)) base (.slice (some ⟨b, 0, none⟩) 0 0) [] := by
  subst hb
  exact own_empty W h
theorem own_drew {α : Type} {d : Kd α} {e : Nat} {w : World} {base : Nat} {v : Value} {l : List α} (h : Aside0 (Own d e w base v l)) : Aside0 (Own d e w.drew base v l) := ⟨Kd.R_below h.out ((Below.refl _ _).drew)⟩
theorem own_alloc {α : Type} {d : Kd α} {e : Nat} {w : World} {base : Nat} {v : Value} {l : List α} (h : Aside0 (Own d e w base v l)) (o : Obj) : Aside0 (Own d e (w.alloc o) base v l) := ⟨Kd.R_below h.out ((Below.refl _ _).alloc (Nat.le_refl _) o)⟩
/-- What a block of four cells holds. -/
theorem blk4 {w : World} {g : Nat} {t : TypeId} {a b c d : Value} (h : w.heap[g]? = some (.cells #[a, b, c, d] t (0, 0))) :
    (w.cell? ⟨g, 0, none⟩ = some a ∧ w.cell? ⟨g, 1, none⟩ = some b ∧ w.cell? ⟨g, 2, none⟩ = some c ∧ w.cell? ⟨g, 3, none⟩ = some d) ∧ w.frozen? ⟨g, 0, none⟩ = false ∧ w.frozen? ⟨g, 1, none⟩ = false ∧ w.frozen? ⟨g, 2, none⟩ = false ∧ w.frozen? ⟨g, 3, none⟩ = false :=
  ⟨⟨(blk_cell h 0).trans rfl, (blk_cell h 1).trans rfl, (blk_cell h 2).trans rfl, (blk_cell h 3).trans rfl⟩, blk_frozen h 0, blk_frozen h 1, blk_frozen h 2, blk_frozen h 3⟩
/-- A row of the call's own outlives an append to a row of another type. -/
theorem own_keep {α β : Type} {d : Kd α} {d' : Kd β} {e e' : Nat} {w w1 : World} {base base' : Nat} {v v' : Value} {xs : List α} {ys : List β} (HO : Own d e w base v xs) (HO' : Own d' e' w base' v' ys) (hne : e ≠ e') (hE : d.E = []) (hg : w.grownBy w1 v'.ownBlock) : Own d e w1 base v xs := by
  refine Kd.R_mono (Kd.R_grown (Kd.R_bound HO) hg ?_) (fun _ _ => trivial)
  rintro k ⟨_, _, _, q, hq, cells, hc⟩ hk
  rw [hE, List.mem_singleton] at hq
  subst hq
  obtain ⟨inner, ho⟩ := Kd.R_own HO'
  obtain ⟨cells', hc'⟩ := own_typed ho k hk.symm
  rw [hc] at hc'
  injection hc' with hc'
  injection hc' with _ h
  exact hne h
theorem grownBy_step {w0 w w1 : World} {base : Nat} (h : Below base w0 w) (hb : base ≤ w.heap.size) {v : Value} (hg : w.grownBy w1 v.ownBlock) (hv : ∀ k, v.ownBlock = some k → base ≤ k) : Below base w0 w1 := h.grown hg hb hv
theorem own_lower {α : Type} {d : Kd α} {e : Nat} {w : World} {base base' : Nat} {ok : Nat → Prop} {v : Value} {l : List α} (hb : base' ≤ base) (h : Kd.R d e w base ok v l) : Own d e w base' v l := Kd.R_mono (Kd.R_lower h hb) (fun _ _ => trivial)
/-- Four stores into a block of another type. -/
theorem own_far4 {α : Type} {d : Kd α} {e t : Nat} {w : World} {base : Nat} {v : Value} {l : List α} (h : Own d e w base v l) (hE : d.E = []) (hne : e ≠ t) {g : Nat} {cells : Array Value} (hb : w.heap[g]? = some (.cells cells t (0, 0))) (a b c d' : Value) :
    Own d e ((((w.setCell ⟨g, 0, none⟩ a).setCell ⟨g, 1, none⟩ b).setCell ⟨g, 2, none⟩ c).setCell ⟨g, 3, none⟩ d') base v l :=
  Kd.R_mono (Kd.R_far (p := ⟨g, 3, none⟩) (Kd.R_far (p := ⟨g, 2, none⟩) (Kd.R_far (p := ⟨g, 1, none⟩) (Kd.R_far (p := ⟨g, 0, none⟩) (Kd.R_types h hb (fun q hq => by rw [hE, List.mem_singleton] at hq; rw [hq]; exact hne)) (fun _ hk => hk.2) _) (fun _ hk => hk.2) _) (fun _ hk => hk.2) _) (fun _ hk => hk.2) _) (fun _ _ => trivial)
theorem own_sl {α : Type} {d : Kd α} {e : Nat} {w : World} {base : Nat} {A : Option Addr} {n c : Nat} {l : List α} (h : Own d e w base (.slice A n c) l) : l.length ≤ c ∧ Kd.C d w A l.length l := by
  obtain ⟨A1, c1, e1, h1, h2⟩ := Kd.R_reads h
  injection e1 with e2 e3 e4
  subst e2 e4
  exact ⟨h1, h2⟩
theorem catS (a b : Str) : ({ data := List.toArray a } ++ { data := List.toArray b } : ByteArray) = { data := (a ++ b).toArray } := by
  apply ByteArray.ext
  simp [ByteArray.data_append]
theorem blk3 {w : World} {g : Nat} {t : TypeId} {a b c : Value} (h : w.heap[g]? = some (.cells #[a, b, c] t (0, 0))) :
    (w.cell? ⟨g, 0, none⟩ = some a ∧ w.cell? ⟨g, 1, none⟩ = some b ∧ w.cell? ⟨g, 2, none⟩ = some c) ∧ w.frozen? ⟨g, 0, none⟩ = false ∧ w.frozen? ⟨g, 1, none⟩ = false ∧ w.frozen? ⟨g, 2, none⟩ = false :=
  ⟨⟨(blk_cell h 0).trans rfl, (blk_cell h 1).trans rfl, (blk_cell h 2).trans rfl⟩, blk_frozen h 0, blk_frozen h 1, blk_frozen h 2⟩
theorem drew_alloc (w : World) (o : Obj) : (w.alloc o).drew = w.drew.alloc o := rfl
theorem box1 (w : World) (o : Obj) : (w.alloc o).heap[w.heap.size]? = some o := blk_new w o
theorem box2 (w : World) (o1 o2 : Obj) : ((w.alloc o1).alloc o2).heap[w.heap.size]? = some o1 ∧ ((w.alloc o1).alloc o2).heap[w.heap.size + 1]? = some o2 :=
  ⟨blk_alloc (blk_new w o1) _, by have := blk_new (w.alloc o1) o2; simpa using this⟩
theorem box3 (w : World) (o1 o2 o3 : Obj) : (((w.alloc o1).alloc o2).alloc o3).heap[w.heap.size]? = some o1 ∧ (((w.alloc o1).alloc o2).alloc o3).heap[w.heap.size + 1]? = some o2 ∧ (((w.alloc o1).alloc o2).alloc o3).heap[w.heap.size + 1 + 1]? = some o3 :=
  ⟨blk_alloc (box2 w o1 o2).1 _, blk_alloc (box2 w o1 o2).2 _, by have := blk_new ((w.alloc o1).alloc o2) o3; simpa using this⟩
theorem below_box2 {w w1 : World} {o1 o2 : Obj} (hb : Below ((w.alloc o1).alloc o2).heap.size ((w.alloc o1).alloc o2) w1) : Below w.heap.size w w1 := below_box (below_box hb)
theorem below_box3 {w w1 : World} {o1 o2 o3 : Obj} (hb : Below (((w.alloc o1).alloc o2).alloc o3).heap.size (((w.alloc o1).alloc o2).alloc o3) w1) : Below w.heap.size w w1 := below_box (below_box2 hb)
end Go.Proofs.YtijeoadfgjpefaaGreatDoor
