/- The walk of laws.FnExactPlain. Conditions: bytealg.MaxLen holds some int. -/
import Derived.Test.YtijeoadfgjpefaaGreatDoorLwItem
import Derived.Test.YtijeoadfgjpefaaGreatDoorLPlain
import Derived.Deep.RegionWith
import Derived.Deep.RegionHeld3
import Derived.Deep.DeepCutAuto
namespace Go.Proofs.YtijeoadfgjpefaaGreatDoor
open Go.RowKit Go.Proofs.YtijeoadfgjpefaaGreatDoorW.PrintWords Go.Proofs.YtijeoadfgjpefaaGreatDoor.PFnExactPlain
set_option linter.unusedSimpArgs false
set_option linter.unusedVariables false

theorem sz_op (k : Int) (a b d : ByteArray) (x : Int) (ha : a.size ≤ 9223372036854775807) (hb : b.size ≤ 9223372036854775807) (hd : d.size ≤ 9223372036854775807) (h0 : 0 ≤ x) (h1 : x ≤ 1048576) :
    ∃ r, laws_szOp.f k a b d x = some r ∧ (0 ≤ r → a.size ≤ 1048576 ∧ b.size ≤ 1048576 ∧ d.size ≤ 1048576) := by
  unfold laws_szOp.f
  rw [w64 (x := x - a.size) (by omega) (by omega)]
  by_cases c1 : x - a.size < 0
  · rw [if_pos c1]; exact ⟨_, rfl, fun h => absurd h (by decide)⟩
  rw [if_neg c1, w64 (x := x - a.size - b.size) (by omega) (by omega)]
  by_cases c2 : x - a.size - b.size < 0
  · rw [if_pos c2]; exact ⟨_, rfl, fun h => absurd h (by decide)⟩
  rw [if_neg c2, w64 (x := x - a.size - b.size - d.size) (by omega) (by omega)]
  by_cases c3 : x - a.size - b.size - d.size < 0
  · rw [if_pos c3]; exact ⟨_, rfl, fun h => absurd h (by decide)⟩
  rw [if_neg c3]
  exact ⟨_, rfl, fun h => by omega⟩
theorem toI' (A : Option Addr) (c : Nat) (l : List Item) (w : World) (HR : Aside0 (Kd.C k86 w A l.length (l.map toL))) (hc : l.length ≤ c) (hl : l.length ≤ 1048576) :
    Calls Tryz.prog 14 #[.slice A l.length c] w fun e w' => ∃ A1 c1, e = .returned (.slice A1 l.length c1) ∧ l.length ≤ c1 ∧ Own kItem 83 w' w.heap.size (.slice A1 l.length c1) l ∧ Below w.heap.size w w' := by
  refine (toI A c l w HR hc hl).mono fun e w' ⟨v, e1, h, hb⟩ => ?_
  obtain ⟨A1, c1, rfl, h1, _⟩ := RdV.of_own h
  exact ⟨A1, c1, e1, h1, h, hb⟩
theorem toO (o : OpR) (w : World) : Calls Tryz.prog 15 #[opv o] w fun e w' => e = .returned (opv o) ∧ Below w.heap.size w w' :=
  laws_toOp.calls o.kind ⟨o.path.toArray⟩ ⟨o.dest.toArray⟩ ⟨o.data.toArray⟩ _ _ _ _ w rfl
theorem specP {l : List Item} {o : OpR} {R : List Item} {rc : Int} {rt : Str} (hP : Aside0 (plainI l o = (R, rc, rt))) (A : Option Addr) (c : Nat) (w : World) (HR : Aside0 (Kd.C kItem w A l.length l)) (hc : l.length ≤ c) (hl : smallI l) (ho : smallO o) :
    Calls Tryz.prog 13 #[.slice A l.length c, opv o] w fun e w' => ∃ A1 c1, e = .returned (.tuple #[.slice A1 R.length c1, .int .i64 rc, sv rt]) ∧ R.length ≤ c1 ∧ Kd.C kItem w' A1 R.length R ∧ Below w.heap.size w w' := by
  refine (specPlain A c l o w HR hc hl ho).mono fun e w' ⟨v, e1, h, hb⟩ => ?_
  rw [hP.out] at e1 h
  obtain ⟨A1, c1, rfl, h1, h2⟩ := h
  exact ⟨A1, c1, e1, h1, h2, hb⟩
theorem implP {l : List Item} {o : OpR} {R : List Item} {rc : Int} {rt : Str} (hP : Aside0 (plainI l o = (R, rc, rt))) (m : Int) (A : Option Addr) (c : Nat) (w : World) (HR : Aside0 (Kd.C kItem w A l.length l)) (hc : l.length ≤ c) (hl : smallI l) (ho : smallO o) (HM : Aside0 (MX m w)) :
    Calls Tryz.prog 16 #[.slice A l.length c, opv o] w fun e w' => ∃ A1 c1, e = .returned (.tuple #[.slice A1 R.length c1, .int .i64 rc, sv rt]) ∧ R.length ≤ c1 ∧ Own kItem 83 w' w.heap.size (.slice A1 R.length c1) R ∧ Below w.heap.size w w' := by
  refine (implPlain m A c l o w HR hc hl ho HM).mono fun e w' ⟨v, e1, h, hb⟩ => ?_
  rw [impl_plain, hP.out] at e1 h
  obtain ⟨A1, c1, rfl, h1, _⟩ := RdV.of_own h
  exact ⟨A1, c1, e1, h1, h, hb⟩
theorem plainI_len0 (l : List Item) (o : OpR) (hl : l.length ≤ 1048575) : (plainI l o).1.length ≤ 1048576 := by
  have hf : ∀ p, (l.filter p).length ≤ l.length := fun p => List.length_filter_le p l
  have hm : ∀ (r out : List Item), moveF o r = some out → out.length = r.length := by
    intro r
    induction r with
    | nil => intro out h; cases h; rfl
    | cons x r ih =>
      intro out h
      rw [moveF] at h
      split at h
      · cases h2 : moveF o r with
        | none => rw [h2] at h; cases h
        | some q => rw [h2] at h; cases h; simp [ih q h2]
      · cases h
  unfold plainI
  repeat' split
  all_goals try (simp only; omega)
  · unfold newI
    repeat' split
    all_goals (simp only [List.length_append, List.length_singleton]; omega)
  · unfold doI
    repeat' split
    all_goals try (simp only [List.length_set]; omega)
    · unfold dropI
      repeat' split
      all_goals first | (simp only; omega) | (have := hf (fun x => x.path != o.path); simp only; omega)
    · unfold moveI
      repeat' split
      all_goals first | (simp only; omega) | (rename_i out h; have := hm _ _ h; simp only; omega)
theorem plainI_len (l : List Item) (o : OpR) (hl : l.length ≤ 1048576) : (plainI l o).1.length ≤ 1048576 := by
  by_cases h : itemsOk l = false
  · unfold plainI; rw [if_pos h]; exact hl
  · refine plainI_len0 l o ?_
    have h : itemsOk l = true := by simpa using h
    simp only [itemsOk, Bool.and_eq_true, decide_eq_true_eq] at h
    omega
/-- What the walk knows of a world W: the law's world w below, the op's box, the argument, the reference's answer, and two rows of the call's own. -/
structure St (m : Int) (w : World) (A : Option Addr) (l : List Item) (o : OpR) (A6 : Option Addr) (R : List Item) (w8 : World) (v9 : Value) (l9 : List Item) (s9 : Nat) (v10 : Value) (l10 : List Item) (W : World) : Prop where
  wb : Below w.heap.size w W
  bx : W.heap[w.heap.size]? = some (.cells #[.int .i64 o.kind, sv o.path, sv o.dest, sv o.data] 24 (0, 0))
  mx : MX m W
  hr : Kd.C k86 W A l.length (l.map toL)
  c6 : Kd.C kItem W A6 R.length R
  b8 : Below w8.heap.size w8 W
  o9 : Own kItem 83 W w8.heap.size v9 l9
  o10 : Own kItem 83 W s9 v10 l10
section
variable {m : Int} {w : World} {A : Option Addr} {l : List Item} {o : OpR} {A6 : Option Addr} {R : List Item} {w8 : World} {v9 : Value} {l9 : List Item} {s9 : Nat} {v10 : Value} {l10 : List Item} {W W1 : World}
theorem St.step (h : St m w A l o A6 R w8 v9 l9 s9 v10 l10 W) (hb : Below W.heap.size W W1) : St m w A l o A6 R w8 v9 l9 s9 v10 l10 W1 :=
  ⟨h.wb.trans (hb.mono h.wb.size), blk_below h.bx hb, h.mx.below (Nat.le_refl _) hb, Kd.C_below h.hr hb, Kd.C_below h.c6 hb, h.b8.trans (hb.mono h.b8.size), Kd.R_below h.o9 hb, Kd.R_below h.o10 hb⟩
theorem St.drew (h : St m w A l o A6 R w8 v9 l9 s9 v10 l10 W) : St m w A l o A6 R w8 v9 l9 s9 v10 l10 W.drew := h.step (Below.refl _ _).drew
theorem St.op (h : St m w A l o A6 R w8 v9 l9 s9 v10 l10 W) : (W.cell? ⟨w.heap.size, 0, none⟩ = some (.int .i64 o.kind) ∧ W.cell? ⟨w.heap.size, 1, none⟩ = some (sv o.path) ∧ W.cell? ⟨w.heap.size, 2, none⟩ = some (sv o.dest) ∧ W.cell? ⟨w.heap.size, 3, none⟩ = some (sv o.data)) ∧ W.frozen? ⟨w.heap.size, 0, none⟩ = false ∧ W.frozen? ⟨w.heap.size, 1, none⟩ = false ∧ W.frozen? ⟨w.heap.size, 2, none⟩ = false ∧ W.frozen? ⟨w.heap.size, 3, none⟩ = false := blk4 h.bx
/-- Another row in the place of the ninth. -/
theorem St.set9 {w9 : World} {v : Value} {l' : List Item} (h : St m w A l o A6 R w8 v9 l9 s9 v10 l10 W) (hb : Below w9.heap.size w9 W) (ho : Own kItem 83 W w9.heap.size v l') : St m w A l o A6 R w9 v l' s9 v10 l10 W :=
  ⟨h.wb, h.bx, h.mx, h.hr, h.c6, hb, ho, h.o10⟩
theorem St.set10 {s : Nat} {v : Value} {l' : List Item} (h : St m w A l o A6 R w8 v9 l9 s9 v10 l10 W) (ho : Own kItem 83 W s v l') : St m w A l o A6 R w8 v9 l9 s v l' W :=
  ⟨h.wb, h.bx, h.mx, h.hr, h.c6, h.b8, h.o9, ho⟩
theorem St.set6 {B : Option Addr} {R' : List Item} (h : St m w A l o A6 R w8 v9 l9 s9 v10 l10 W) (hc : Kd.C kItem W B R'.length R') : St m w A l o B R' w8 v9 l9 s9 v10 l10 W :=
  ⟨h.wb, h.bx, h.mx, h.hr, hc, h.b8, h.o9, h.o10⟩
end
theorem own_base {e : Nat} {w : World} {base : Nat} {v : Value} {xs : List Item} (h : Own kItem e w base v xs) : ∀ k, v.ownBlock = some k → base ≤ k ∧ k < w.heap.size := by
  intro k hk
  have := (Kd.R_bound h).1 k hk
  exact ⟨this.2.1, this.2.2.1⟩
theorem C_ltI {w : World} {A : Option Addr} {n : Nat} {xs : List Item} (h : Kd.C kItem w A n xs) : ∀ ad, A = some ad → 0 < n → ad.block < w.heap.size := by
  rintro ad rfl hn
  exact Kd.C_lt h hn (by show 0 < 3; omega)
theorem own_any {e : Nat} {w : World} {base : Nat} {v : Value} {xs : List Item} (h : Own kItem e w base v xs) : Kd.R kItem e w base (fun k => v.ownBlock = some k) v xs := by
  have := R_map (d := kItem) (d' := kItem) (ok' := fun k => v.ownBlock = some k) id rfl (fun _ _ _ _ _ _ _ h => h) (fun _ h => h) h
  rwa [List.map_id] at this
theorem own_kept {e : Nat} {w w1 : World} {base : Nat} {v : Value} {xs : List Item} {S : Nat → Prop} (h : Own kItem e w base v xs) (hk : Kept w w1 S) (hn : ∀ k, v.ownBlock = some k → ¬ S k) : Own kItem e w1 base v xs :=
  Kd.R_mono (Kd.R_kept (own_any h) hk hn) (fun _ _ => trivial)
theorem C_keptI {w w1 : World} {A : Option Addr} {n : Nat} {xs : List Item} {S : Nat → Prop} (h : Kd.C kItem w A n xs) (hk : Kept w w1 S) (hn : ∀ ad, A = some ad → 0 < n → ¬ S ad.block) : Kd.C kItem w1 A n xs :=
  Kd.C_foot_neS (fun h => h) h hn w1 hk
theorem smallI_of {l : List Item} (hl : l.length ≤ 1048576) (hs : ∀ x ∈ l, x.path.length ≤ 1048576 ∧ x.data.length ≤ 1048576) : smallI l := ⟨by omega, fun x hx => by have := hs x hx; omega⟩
set_option maxHeartbeats 4000000 in
set_option maxRecDepth 100000 in
/-- The law behind its first two tests. -/
theorem lawPlain_in (m : Int) (A : Option Addr) (c : Nat) (l : List Item) (o : OpR) (w : World) (r r2 : Int) (hr : ¬ r < 0) (hr2 : ¬ r2 < 0)
    (hsz : Aside0 (∀ w, Kd.C k86 w A l.length (l.map toL) → Calls Tryz.prog 11 #[.slice A l.length c, .int .i64 1048576] w fun e w' => e = .returned (.int .i64 r) ∧ Below w.heap.size w w'))
    (hso : Aside0 (∀ w, Calls Tryz.prog 12 #[opv o, .int .i64 r] w fun e w' => e = .returned (.int .i64 r2) ∧ Below w.heap.size w w'))
    (HR : Aside0 (Kd.C k86 w A l.length (l.map toL))) (hc : l.length ≤ c) (hl : l.length ≤ 1048576) (HL : Aside0 (smallI l)) (HO : Aside0 (smallO o)) (HM : Aside0 (MX m w)) :
    Calls Tryz.prog 3 #[.slice A l.length c, opv o] w fun e w' => e = .returned (.bool true) ∧ Below w.heap.size w w' := by
  have b1 : decide (r < 0) = false := decide_eq_false hr
  have b2 : decide (r2 < 0) = false := decide_eq_false hr2
  have hRl := plainI_len l o hl
  rcases hP0 : plainI l o with ⟨R, rc, rt⟩
  rw [hP0] at hRl
  have hRl : R.length ≤ 1048576 := hRl
  have HP := Aside0.mk hP0
  clear hP0 hr hr2
  have HS : Aside0 (St m w A l o none [] w (.slice none 0 0) [] 0 (.slice none 0 0) [] (w.alloc (.cells #[.int .i64 o.kind, sv o.path, sv o.dest, sv o.data] 24))) := by
    have hb := (Below.refl w.heap.size w).alloc (Nat.le_refl _) (.cells #[.int .i64 o.kind, sv o.path, sv o.dest, sv o.data] 24)
    exact ⟨⟨hb, box1 w _, HM.out.below (Nat.le_refl _) hb, Kd.C_below HR.out hb, Kd.C_nil _ _, hb, Kd.R_nil _ _ _ _ _, Kd.R_nil _ _ _ _ _⟩⟩
  go_enter Tryz.func3, Tryz.ntmps3
  go_wp2_with fail
  refine (hsz.out _ HS.out.hr).mono ?_
  rintro e w1 ⟨rfl, hb1⟩
  have HS1 := Aside0.mk (HS.out.step hb1)
  clear HS hb1
  obtain ⟨⟨a0, a1, a2, a3⟩, g0, g1, g2, g3⟩ := HS1.out.op
  go_wp2_with fail
  refine (hso.out _).mono ?_
  rintro e w2 ⟨rfl, hb1⟩
  have HS := Aside0.mk (HS1.out.step hb1)
  clear HS1 hb1 a0 a1 a2 a3 g0 g1 g2 g3
  go_wp2_with fail
  go_upto_region 8 with fail
  go_cut [6, 7, 8] (fun v6 v7 v8 wc => ∃ A6 c6, v6 = .slice A6 R.length c6 ∧ v7 = .int .i64 rc ∧ v8 = sv rt ∧ R.length ≤ c6 ∧ Aside0 (St m w A l o A6 R w (.slice none 0 0) [] 0 (.slice none 0 0) [] wc))
  case first =>
    have HS0 := Aside0.mk HS.out.drew
    clear HS
    have HS := HS0
    clear HS0
    obtain ⟨⟨a0, a1, a2, a3⟩, g0, g1, g2, g3⟩ := HS.out.op
    go_region_held3 (fun w' : World => w'.cell? ⟨w.heap.size, 0, none⟩ = some (.int .i64 o.kind) ∧ w'.cell? ⟨w.heap.size, 1, none⟩ = some (sv o.path) ∧ w'.cell? ⟨w.heap.size, 2, none⟩ = some (sv o.dest) ∧ w'.cell? ⟨w.heap.size, 3, none⟩ = some (sv o.data)) (exact ⟨a0, a1, a2, a3⟩) (first
      | (go_at_call 14; refine (toI' A c l _ ⟨HS.out.hr⟩ hc (by omega)).mono ?_; rintro e w3 ⟨A1, c1, rfl, hc1, ho1, hb1⟩; have HSa := Aside0.mk ((HS.out.step hb1).set9 (HS.out.step hb1).wb (own_lower HS.out.wb.size ho1)); clear HS hb1 ho1; obtain ⟨⟨a0, a1, a2, a3⟩, g0, g1, g2, g3⟩ := HSa.out.op; have HS := HSa; clear HSa)
      | (go_at_call 15; refine (toO o _).mono ?_; rintro e w4 ⟨rfl, hb1⟩; have HSb := Aside0.mk (HS.out.step hb1); clear HS hb1; obtain ⟨⟨a0, a1, a2, a3⟩, g0, g1, g2, g3⟩ := HSb.out.op; have HS := HSb; clear HSb)
      | (go_at_call 13; refine (specP HP _ _ _ ⟨(own_sl HS.out.o9).2⟩ hc1 HL.out HO.out).mono ?_; rintro e w5 ⟨A6, c6, rfl, hc6, h6, hb1⟩; have HSc := Aside0.mk (((HS.out.step hb1).set6 h6).set9 (HS.out.step hb1).wb (Kd.R_nil _ _ _ _ _)); clear HS hb1 h6; obtain ⟨⟨a0, a1, a2, a3⟩, g0, g1, g2, g3⟩ := HSc.out.op))
    all_goals (go_wp2_with fail)
    all_goals go_meet
    all_goals exact ⟨A6, c6, rfl, rfl, rfl, hc6, HSc⟩
  case rest =>
    obtain ⟨A6, c6, rfl, rfl, rfl, hc6, HS⟩ := hcut
    have b3 : decide ((1 + 3 * (l.length : Int)) < 0) = false := decide_eq_false (by omega)
    have b4 : decide ((1 + 3 * (R.length : Int)) < 0) = false := decide_eq_false (by omega)
    obtain ⟨w8, hw8⟩ : ∃ w8 : World, w8 = wc := ⟨_, rfl⟩
    have HS8 : Aside0 (St m w A l o A6 R w (.slice none 0 0) [] 0 (.slice none 0 0) [] w8) := by rw [hw8]; exact HS
    have HB8 : Aside0 (Below w8.heap.size w8 wc) := by rw [hw8]; exact ⟨Below.refl _ _⟩
    clear hw8
    go_wp2_with fail
    refine (toI' A c l _ ⟨HS.out.hr⟩ hc (by omega)).mono ?_
    rintro e w9 ⟨A9, c9, rfl, hc9, ho9, hb1⟩
    have HSa := Aside0.mk ((HS.out.step hb1).set9 (HB8.out.trans (hb1.mono HB8.out.size)) (own_lower HB8.out.size ho9))
    clear HS hb1 HB8
    obtain ⟨⟨a0, a1, a2, a3⟩, g0, g1, g2, g3⟩ := HSa.out.op
    go_wp2_with fail
    refine (toO o _).mono ?_
    rintro e w10 ⟨rfl, hb1⟩
    have HSb := Aside0.mk (HSa.out.step hb1)
    clear HSa hb1 a0 a1 a2 a3 g0 g1 g2 g3 ho9
    go_wp2_with fail
    refine (implP HP m A9 c9 _ ⟨(own_sl HSb.out.o9).2⟩ hc9 HL.out HO.out ⟨HSb.out.mx⟩).mono ?_
    rintro e w11 ⟨A10, c10, rfl, hc10, ho10, hb1⟩
    have HSc := Aside0.mk ((HSb.out.step hb1).set10 ho10)
    have H9 := Aside0.mk (own_base HSb.out.o9)
    have H8 := Aside0.mk HSb.out.b8.size
    clear HSb hb1 ho10
    go_wp2_with fail
    refine (eqI A10 A6 c10 c6 R _ ⟨(own_sl HSc.out.o10).2⟩ hc10 ⟨HSc.out.c6⟩ hc6 hRl).mono ?_
    rintro e w12 ⟨rfl, hb1⟩
    have HSd := Aside0.mk (HSc.out.step hb1)
    clear HSc hb1
    go_wp2_with fail
    refine (toI' A c l _ ⟨HSd.out.hr⟩ hc (by omega)).mono ?_
    rintro e w13 ⟨A64, c64, rfl, hc64, ho64, hb1⟩
    have HSe := Aside0.mk (HSd.out.step hb1)
    have H64 := Aside0.mk (own_sl ho64).2
    clear HSd hb1 ho64
    go_wp2_with fail
    refine (eqI A9 A64 c9 c64 l _ ⟨(own_sl HSe.out.o9).2⟩ hc9 H64 hc64 (by omega)).mono ?_
    rintro e w14 ⟨rfl, hb1⟩
    have HSf := Aside0.mk (HSe.out.step hb1)
    clear HSe hb1 H64
    go_wp2_with fail
    refine (markI w8 _ l _ ⟨HSf.out.b8⟩ ⟨HSf.out.o9⟩ (by omega)).mono ?_
    rintro e w15 ⟨l9, rfl, hl9, hh9, ho9, hb1, hk9⟩
    have HSg := Aside0.mk (((HS8.out.step hb1).set9 hb1 ho9).set10 (own_kept HSf.out.o10 hk9 (fun k h1 h2 => by have q1 := (own_base HSf.out.o10 k h1).1; have q2 := (H9.out k h2).2; omega)))
    clear HSf hb1 ho9 hk9 hh9 hl9
    go_wp2_with fail
    refine (eqI A10 A6 c10 c6 R _ ⟨(own_sl HSg.out.o10).2⟩ hc10 ⟨HSg.out.c6⟩ hc6 hRl).mono ?_
    rintro e w16 ⟨rfl, hb1⟩
    have HSh := Aside0.mk (HSg.out.step hb1)
    clear HSg hb1
    go_wp2_with fail
    refine (markI w8 _ R _ ⟨HSh.out.b8⟩ ⟨own_lower H8.out HSh.out.o10⟩ hRl).mono ?_
    rintro e w17 ⟨l10, rfl, hl10, hh10, ho10, hb1, hk10⟩
    have HSi := Aside0.mk ((HS8.out.step hb1).set10 ho10)
    have HH10 := Aside0.mk hh10
    have HL10 := Aside0.mk hl10
    clear HSh hb1 ho10 hk10 hh10 hl10
    go_wp2_with fail
    refine (heldI A10 c10 R.length l10 HL10.out _ ⟨(own_sl HSi.out.o10).2⟩ hc10 HH10.out).mono ?_
    rintro e w18 ⟨rfl, hb1⟩
    have HSj := Aside0.mk (HSi.out.step hb1)
    clear HSi hb1 HS8 H9 H8
    go_wp2_with fail
    go_upto_region 27 with fail
    go_cut [16, 17, 18] (fun v16 v17 v18 wd => ∃ A16 c16, v16 = .slice A16 R.length c16 ∧ v17 = .int .i64 rc ∧ v18 = sv rt ∧ R.length ≤ c16 ∧ Aside0 (Kd.C kItem wd A16 R.length R) ∧ Aside0 (St m w A l o A6 R w (.slice none 0 0) [] w8.heap.size (.slice A10 R.length c10) l10 wd))
    case first =>
      have HS := Aside0.mk (HSj.out.drew.set9 HSj.out.drew.wb (Kd.R_nil _ _ _ _ _))
      clear HSj
      obtain ⟨⟨a0, a1, a2, a3⟩, g0, g1, g2, g3⟩ := HS.out.op
      go_region_held3 (fun w' : World => w'.cell? ⟨w.heap.size, 0, none⟩ = some (.int .i64 o.kind) ∧ w'.cell? ⟨w.heap.size, 1, none⟩ = some (sv o.path) ∧ w'.cell? ⟨w.heap.size, 2, none⟩ = some (sv o.dest) ∧ w'.cell? ⟨w.heap.size, 3, none⟩ = some (sv o.data)) (exact ⟨a0, a1, a2, a3⟩) (first
        | (go_at_call 14; refine (toI' A c l _ ⟨HS.out.hr⟩ hc (by omega)).mono ?_; rintro e w3 ⟨A1, c1, rfl, hc1, ho1, hb1⟩; have HSa := Aside0.mk ((HS.out.step hb1).set9 (HS.out.step hb1).wb (own_lower HS.out.wb.size ho1)); clear HS hb1 ho1; obtain ⟨⟨a0, a1, a2, a3⟩, g0, g1, g2, g3⟩ := HSa.out.op; have HS := HSa; clear HSa)
        | (go_at_call 15; refine (toO o _).mono ?_; rintro e w4 ⟨rfl, hb1⟩; have HSb := Aside0.mk (HS.out.step hb1); clear HS hb1; obtain ⟨⟨a0, a1, a2, a3⟩, g0, g1, g2, g3⟩ := HSb.out.op; have HS := HSb; clear HSb)
        | (go_at_call 16; refine (implP HP m _ _ _ ⟨(own_sl HS.out.o9).2⟩ hc1 HL.out HO.out ⟨HS.out.mx⟩).mono ?_; rintro e w5 ⟨A16, c16, rfl, hc16, h16, hb1⟩; have HSc := Aside0.mk ((HS.out.step hb1).set9 (HS.out.step hb1).wb (Kd.R_nil _ _ _ _ _)); have H16 := Aside0.mk (own_sl h16).2; clear HS hb1 h16; obtain ⟨⟨a0, a1, a2, a3⟩, g0, g1, g2, g3⟩ := HSc.out.op))
      all_goals (go_wp2_with fail)
      all_goals go_meet
      all_goals exact ⟨A16, c16, rfl, rfl, rfl, hc16, H16, HSc⟩
    case rest =>
      obtain ⟨A16, c16, rfl, rfl, rfl, hc16, H16, HS⟩ := hcut
      clear HSj
      go_wp2_with fail
      refine (eqI A16 A6 c16 c6 R _ H16 hc16 ⟨HS.out.c6⟩ hc6 hRl).mono ?_
      rintro e w12 ⟨rfl, hb1⟩
      have HSd := Aside0.mk (HS.out.step hb1)
      clear HS hb1 H16
      go_wp2_with fail
      refine (heldI A10 c10 R.length l10 HL10.out _ ⟨(own_sl HSd.out.o10).2⟩ hc10 HH10.out).mono ?_
      rintro e w18 ⟨rfl, hb1⟩
      have HSe := Aside0.mk (HSd.out.step hb1)
      clear HSd hb1
      go_wp2_with fail
      go_ret
      exact ⟨rfl, HSe.out.wb⟩
set_option maxHeartbeats 1000000 in
theorem lawPlain (m : Int) (A : Option Addr) (c : Nat) (l : List Item) (o : OpR) (w : World) (HR : Aside0 (Kd.C k86 w A l.length (l.map toL))) (hc : l.length ≤ c) (hl : l.length ≤ 9223372036854775807) (hs : ∀ x ∈ l, x.path.length ≤ 9223372036854775807 ∧ x.data.length ≤ 9223372036854775807)
    (ho : o.path.length ≤ 9223372036854775807 ∧ o.dest.length ≤ 9223372036854775807 ∧ o.data.length ≤ 9223372036854775807) (HM : Aside0 (MX m w)) :
    Calls Tryz.prog 3 #[.slice A l.length c, opv o] w fun e w' => e = .returned (.bool true) ∧ Below w.heap.size w w' := by
  have h1 : (l.map toL).length = l.length := by simp
  obtain ⟨k, r, hk, hr⟩ := sz_all (l.map toL) (fun x hx => by
    obtain ⟨y, hy, rfl⟩ := List.mem_map.1 hx
    exact hs y hy) (by omega)
  have CS : Aside0 (∀ w, Kd.C k86 w A l.length (l.map toL) → Calls Tryz.prog 11 #[.slice A l.length c, .int .i64 1048576] w fun e w' => e = .returned (.int .i64 r) ∧ Below w.heap.size w w') := ⟨fun w hR => by
    have := laws_szItemS.calls k A c (l.map toL) 1048576 r w (by rw [h1]; exact hR) (by omega) hk
    rw [h1] at this
    exact this⟩
  have HB0 := Aside0.mk ((Below.refl w.heap.size w).alloc (Nat.le_refl _) (.cells #[.int .i64 o.kind, sv o.path, sv o.dest, sv o.data] 24))
  have BK0 := Aside0.mk (box1 w (.cells #[.int .i64 o.kind, sv o.path, sv o.dest, sv o.data] 24))
  by_cases hr0 : r < 0
  · have b1 : decide (r < 0) = true := decide_eq_true hr0
    clear hr0 hr hk hs
    go_enter Tryz.func3, Tryz.ntmps3
    go_wp2_with fail
    refine (CS.out _ (Kd.C_below HR.out HB0.out)).mono ?_
    rintro e w1 ⟨rfl, hb1⟩
    have HB1 := Aside0.mk (HB0.out.trans (hb1.mono HB0.out.size))
    clear hb1
    go_wp2_with fail
    go_ret
    exact ⟨rfl, HB1.out⟩
  · have hr' := hr (by omega)
    obtain ⟨r2, hk2, hr2⟩ := sz_op o.kind ⟨o.path.toArray⟩ ⟨o.dest.toArray⟩ ⟨o.data.toArray⟩ r ho.1 ho.2.1 ho.2.2 (by omega) (by omega)
    have CO : Aside0 (∀ w, Calls Tryz.prog 12 #[opv o, .int .i64 r] w fun e w' => e = .returned (.int .i64 r2) ∧ Below w.heap.size w w') := ⟨fun w => laws_szOp.calls o.kind ⟨o.path.toArray⟩ ⟨o.dest.toArray⟩ ⟨o.data.toArray⟩ r r2 w hk2⟩
    by_cases hr20 : r2 < 0
    · have b1 : decide (r < 0) = false := decide_eq_false hr0
      have b2 : decide (r2 < 0) = true := decide_eq_true hr20
      clear hr0 hr hk hs hr' hk2 hr2 hr20
      go_enter Tryz.func3, Tryz.ntmps3
      go_wp2_with fail
      refine (CS.out _ (Kd.C_below HR.out HB0.out)).mono ?_
      rintro e w1 ⟨rfl, hb1⟩
      have HB1 := Aside0.mk (HB0.out.trans (hb1.mono HB0.out.size))
      obtain ⟨⟨a0, a1, a2, a3⟩, g0, g1, g2, g3⟩ := blk4 (blk_below BK0.out hb1)
      clear hb1
      go_wp2_with fail
      refine (CO.out _).mono ?_
      rintro e w2 ⟨rfl, hb1⟩
      have HB2 := Aside0.mk (HB1.out.trans (hb1.mono HB1.out.size))
      clear hb1
      go_wp2_with fail
      go_ret
      exact ⟨rfl, HB2.out⟩
    · have q1 := hr2 (by omega)
      refine lawPlain_in m A c l o w r r2 hr0 hr20 CS CO HR hc (by omega) ⟨smallI_of (by omega) fun x hx => ?_⟩ ⟨?_⟩ HM
      · exact hr'.2.2 (toL x) (List.mem_map_of_mem hx)
      · have q2 : o.path.length ≤ 1048576 := q1.1
        have q3 : o.dest.length ≤ 1048576 := q1.2.1
        have q4 : o.data.length ≤ 1048576 := q1.2.2
        exact ⟨by omega, by omega, by omega⟩
end Go.Proofs.YtijeoadfgjpefaaGreatDoor
