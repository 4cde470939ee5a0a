/- The law's own functions at items: what szItemS, szOp, toItemS, eqItemS, markItemS, heldItemS come to. Conditions: the bounds that the law's first test gives. -/
import Derived.Test.YtijeoadfgjpefaaGreatDoorL1
import Derived.Test.YtijeoadfgjpefaaGreatDoorL3
import Derived.Test.YtijeoadfgjpefaaGreatDoorBase
import Derived.Test.YtijeoadfgjpefaaGreatDoorWList
namespace Go.Proofs.YtijeoadfgjpefaaGreatDoor
open Go.RowKit Go.Proofs.YtijeoadfgjpefaaGreatDoorW.PrintWords Go.Proofs.YtijeoadfgjpefaaGreatDoor.PFnExactPlain
set_option linter.unusedSimpArgs false
set_option linter.unusedVariables false

theorem w64 {x : Int} (h0 : -9223372036854775808 ≤ x) (h1 : x ≤ 9223372036854775807) : wrap64 x = x := by unfold wrap64; omega
/-! ### rows of one kind read as rows of another -/
theorem C_map {α β : Type} {d : Kd α} {d' : Kd β} (f : α → β) (hs : d'.sz = d.sz) (hf : ∀ w x cs, d.K w x cs → d'.K w (f x) cs) {w : World} {A : Option Addr} {n : Nat} {xs : List α} (h : Kd.C d w A n xs) : Kd.C d' w A n (xs.map f) := by
  obtain ⟨h1, h2, h3⟩ := h
  refine ⟨by simpa using h1, h2, fun hn => ?_⟩
  obtain ⟨ad, e, hc⟩ := h3 hn
  refine ⟨ad, e, fun j p hj => ?_⟩
  rw [List.getElem?_map] at hj
  cases hx : xs[j]? with
  | none => rw [hx] at hj; cases hj
  | some x =>
    rw [hx] at hj
    cases hj
    obtain ⟨c, h4, h5, h6⟩ := hc j x hx
    exact ⟨c, by rw [hs]; exact h4, hf _ _ _ h5, by rw [hs]; exact h6⟩
theorem R_map {α β : Type} {d : Kd α} {d' : Kd β} (f : α → β) (hs : d'.sz = d.sz) (hf : ∀ w b ok b' ok' x cs, d.M w b ok x cs → d'.M w b' ok' (f x) cs) {e : Nat} {w : World} {base : Nat} {ok ok' : Nat → Prop} {v : Value} {xs : List α} (hk : ∀ k, v.ownBlock = some k → ok' k) (h : Kd.R d e w base ok v xs) : Kd.R d' e w base ok' v (xs.map f) := by
  obtain ⟨_, inner, h1, h2⟩ := h
  refine ⟨hk, inner, by rw [hs, List.length_map]; exact h1, by rw [hs, List.length_map]; exact h2.1, fun j p hj => ?_⟩
  rw [List.getElem?_map] at hj
  cases hx : xs[j]? with
  | none => rw [hx] at hj; cases hj
  | some x =>
    rw [hx] at hj
    cases hj
    rw [hs]
    exact hf _ _ _ _ _ _ _ (h2.2 j x hx)
def toS (x : Item) : S83 := ⟨⟨x.path.toArray⟩, x.dir, ⟨x.data.toArray⟩⟩
def ofS (x : S83) : Item := ⟨x.f0.data.toList, x.f1, x.f2.data.toList⟩
theorem toS_ofS (x : S83) : toS (ofS x) = x := rfl
def toL (x : Item) : S86 := ⟨⟨x.path.toArray⟩, x.dir, ⟨x.data.toArray⟩⟩
theorem ofS_map (l : List S83) : (l.map ofS).map toS = l := by
  rw [List.map_map]
  conv => rhs; rw [← List.map_id l]
  exact List.map_congr_left fun x _ => rfl
theorem C_toS {w : World} {A : Option Addr} {n : Nat} {l : List Item} (h : Kd.C kItem w A n l) : Kd.C k83 w A n (l.map toS) := C_map toS rfl (fun _ _ _ h => h) h
theorem R_toS {w : World} {base : Nat} {ok ok' : Nat → Prop} {v : Value} {l : List Item} (hk : ∀ k, v.ownBlock = some k → ok' k) (h : Kd.R kItem 83 w base ok v l) : Kd.R k83 83 w base ok' v (l.map toS) := R_map toS rfl (fun _ _ _ _ _ _ _ h => h) hk h
theorem R_ofS {w : World} {base : Nat} {ok : Nat → Prop} {v : Value} {l : List S83} (h : Kd.R k83 83 w base ok v l) : Own kItem 83 w base v (l.map ofS) := R_map ofS rfl (fun _ _ _ _ _ _ _ h => h) (fun _ _ => trivial) h
/-! ### counting -/
theorem sz_items (l : List S86) (hs : ∀ x ∈ l, x.f0.size ≤ 9223372036854775807 ∧ x.f2.size ≤ 9223372036854775807) : ∀ (d i : Nat) (a : Int), i + d = l.length → l.length ≤ 9223372036854775807 → 0 ≤ a → a ≤ 1048576 →
    ∃ k r, laws_szItemS.l0 k l a i = some r ∧ (0 ≤ r → r ≤ a ∧ ∀ x ∈ l.drop i, (x.f0.size : Int) ≤ a ∧ (x.f2.size : Int) ≤ a)
  | 0, i, a, hd, hl, h0, h1 => by
    refine ⟨1, a, ?_, fun _ => ⟨Int.le_refl _, ?_⟩⟩
    · rw [laws_szItemS.l0, if_neg (by omega)]
    · rw [List.drop_of_length_le (by omega)]; simp
  | d + 1, i, a, hd, hl, h0, h1 => by
    have hi : i < l.length := by omega
    have hx := hs l[i] (List.getElem_mem hi)
    have e : rd_T86 l (i : Int) = l[i] := by simp [rd_T86, hi]
    have hdrop : l.drop i = l[i] :: l.drop (i + 1) := List.drop_eq_getElem_cons hi
    by_cases c1 : a - l[i].f0.size < 0
    · refine ⟨1, -1, ?_, fun h => absurd h (by decide)⟩
      rw [laws_szItemS.l0, if_pos (by omega), if_pos (by omega), e]
      unfold laws_szItem.f
      rw [w64 (by omega) (by omega), if_pos c1]
      rfl
    · by_cases c2 : a - l[i].f0.size - l[i].f2.size < 0
      · refine ⟨1, -1, ?_, fun h => absurd h (by decide)⟩
        rw [laws_szItemS.l0, if_pos (by omega), if_pos (by omega), e]
        unfold laws_szItem.f
        rw [w64 (x := a - l[i].f0.size) (by omega) (by omega), if_neg c1, w64 (by omega) (by omega), if_pos c2]
        rfl
      · obtain ⟨k, r, h, hr⟩ := sz_items l hs d (i + 1) (a - l[i].f0.size - l[i].f2.size) (by omega) hl (by omega) (by omega)
        refine ⟨k + 1, r, ?_, fun h0 => ?_⟩
        · rw [laws_szItemS.l0, if_pos (by omega), if_pos (by omega), e]
          unfold laws_szItem.f
          rw [w64 (x := a - l[i].f0.size) (by omega) (by omega), if_neg c1, w64 (by omega) (by omega), if_neg c2, Option.bind_some, if_neg c2, w64 (by omega) (by omega)]
          exact h
        · have h2 := hr h0
          refine ⟨by omega, fun x hx => ?_⟩
          rw [hdrop] at hx
          rcases List.mem_cons.1 hx with rfl | hx
          · omega
          · have := h2.2 x hx
            omega
theorem sz_all (l : List S86) (hs : ∀ x ∈ l, x.f0.size ≤ 9223372036854775807 ∧ x.f2.size ≤ 9223372036854775807) (hl : l.length ≤ 9223372036854775807) :
    ∃ k r, laws_szItemS.f k l 1048576 = some r ∧ (0 ≤ r → r ≤ 1048576 ∧ l.length ≤ 1048576 ∧ ∀ x ∈ l, x.f0.size ≤ 1048576 ∧ x.f2.size ≤ 1048576) := by
  by_cases c : (1048576 : Int) - l.length < 0
  · refine ⟨0, -1, ?_, fun h => absurd h (by decide)⟩
    unfold laws_szItemS.f
    rw [w64 (by omega) (by omega), if_pos c]
  · obtain ⟨k, r, h, hr⟩ := sz_items l hs l.length 0 (1048576 - l.length) (by omega) hl (by omega) (by omega)
    refine ⟨k, r, ?_, fun h0 => ?_⟩
    · unfold laws_szItemS.f
      rw [w64 (by omega) (by omega), if_neg c]
      exact h
    · have h2 := hr h0
      refine ⟨by omega, by omega, fun x hx => ?_⟩
      have := h2.2 x (by simpa using hx)
      omega
/-! ### taking over -/
theorem to_items (l : List Item) (hl : l.length ≤ 7036874417766) : ∀ (d i : Nat), i + d = l.length → ∃ k, laws_toItemS.l0 k (l.map toL) ((l.map toS).take i ++ List.replicate d z83) i = some (l.map toS)
  | 0, i, hd => by
    refine ⟨1, ?_⟩
    rw [laws_toItemS.l0, if_neg (by rw [List.length_map]; omega), List.take_of_length_le (by rw [List.length_map]; omega)]
    simp
  | d + 1, i, hd => by
    obtain ⟨k, h⟩ := to_items l hl d (i + 1) (by omega)
    have hi : i < l.length := by omega
    refine ⟨k + 1, ?_⟩
    have e : rd_T86 (l.map toL) (i : Int) = toL l[i] := by simp [rd_T86, hi]
    rw [laws_toItemS.l0, if_pos (by rw [List.length_map]; omega), if_pos (by omega), e]
    unfold laws_toItem.f
    rw [Option.bind_some, if_pos (by simp; omega), w64 (by omega) (by omega)]
    have e2 : (((l.map toS).take i ++ List.replicate (d + 1) z83).set ((i : Int)).toNat (⟨(toL l[i]).f0, (toL l[i]).f1, (toL l[i]).f2⟩ : S83)) = (l.map toS).take (i + 1) ++ List.replicate d z83 := by
      have ht : ((l.map toS).take i).length = i := by simp; omega
      have hs : (l.map toS).take (i + 1) = (l.map toS).take i ++ [toS l[i]] := by
        rw [List.take_succ_eq_append_getElem (by simpa using hi)]; simp
      rw [Int.toNat_natCast, List.set_append_right _ _ (by omega), ht, hs, List.replicate_succ]
      simp [toS, toL]
    have e3 : (i : Int) + 1 = ((i + 1 : Nat) : Int) := by omega
    show laws_toItemS.l0 k (l.map toL) _ _ = _
    rw [e2, e3]
    exact h
theorem toI (A : Option Addr) (c : Nat) (l : List Item) (w : World) (HR : Aside0 (Kd.C k86 w A l.length (l.map toL))) (hc : l.length ≤ c) (hl : l.length ≤ 1048576) :
    Calls Tryz.prog 14 #[.slice A l.length c] w fun e w' => ∃ v, e = .returned v ∧ Own kItem 83 w' w.heap.size v l ∧ Below w.heap.size w w' := by
  obtain ⟨k, h⟩ := to_items l (by omega) l.length 0 (by omega)
  have hf : laws_toItemS.f k (l.map toL) = some (l.map toS) := by
    unfold laws_toItemS.f
    rw [if_pos (by omega), if_pos (by simp; omega)]
    simpa using h
  have h1 : (l.map toL).length = l.length := by simp
  have := laws_toItemS.calls k A c (l.map toL) (l.map toS) w (by rw [h1]; exact HR.out) (by rw [h1]; exact hc) hf
  rw [h1] at this
  refine this.mono fun e w' ⟨v, e1, h2, h3⟩ => ⟨v, e1, ?_, h3⟩
  have h4 := R_ofS h2
  rw [List.map_map] at h4
  have e : (l.map (ofS ∘ toS)) = l := by
    conv => rhs; rw [← List.map_id l]
    exact List.map_congr_left fun x _ => rfl
  rw [e] at h4
  exact h4
/-! ### comparing -/
theorem eq_items (l : List S83) (hl : l.length ≤ 1048576) : ∀ (d i : Nat), i + d = l.length → ∃ k, laws_eqItemS.l0 k l l i = some true
  | 0, i, hd => ⟨1, by rw [laws_eqItemS.l0, if_neg (by omega)]⟩
  | d + 1, i, hd => by
    obtain ⟨k, h⟩ := eq_items l hl d (i + 1) (by omega)
    refine ⟨k + 1, ?_⟩
    rw [laws_eqItemS.l0, if_pos (by omega), if_pos (by omega), if_pos (by omega)]
    unfold laws_eqItem.f
    rw [if_pos rfl, if_neg (by simp), if_pos rfl, Option.bind_some, if_pos rfl, w64 (by omega) (by omega)]
    exact h
theorem eqI (A A' : Option Addr) (c c' : Nat) (l : List Item) (w : World) (HR : Aside0 (Kd.C kItem w A l.length l)) (hc : l.length ≤ c) (HR' : Aside0 (Kd.C kItem w A' l.length l)) (hc' : l.length ≤ c') (hl : l.length ≤ 1048576) :
    Calls Tryz.prog 17 #[.slice A l.length c, .slice A' l.length c'] w fun e w' => e = .returned (.bool true) ∧ Below w.heap.size w w' := by
  have h1 : (l.map toS).length = l.length := by simp
  obtain ⟨k, h⟩ := eq_items (l.map toS) (by omega) (l.map toS).length 0 (by omega)
  have hf : laws_eqItemS.f k (l.map toS) (l.map toS) = some true := by unfold laws_eqItemS.f; rw [if_pos rfl]; exact h
  have := laws_eqItemS.calls k A c (l.map toS) A' c' (l.map toS) true w (by rw [h1]; exact C_toS HR.out) (by omega) (by rw [h1]; exact C_toS HR'.out) (by omega) hf
  rw [h1] at this
  exact this
/-! ### marking -/
theorem mark_loop : ∀ (n : Nat) (x : Int) (s : ByteArray), 0 ≤ x → x ≤ 1000000000 → x.toNat < n → s.size + n ≤ 9000000000000000000 → ∃ r, Ev (fun k => laws_markText.l0 k x s) r
  | 0, x, s, _, _, h, _ => absurd h (by omega)
  | n + 1, x, s, h0, h9, h, hs => by
    by_cases hx : x > 0
    · have e2 : Int.tdiv x 10 = x / 10 := Int.tdiv_eq_ediv_of_nonneg h0
      have e1 : ∀ q : Int, (strOfNums [q]).size = 1 := fun q => rfl
      obtain ⟨r, hr⟩ := mark_loop n (x / 10) ((strOfNums [(wrap64 (48 + (Int.tmod x 10))) % 256]) ++ s) (by omega) (by omega) (by omega) (by rw [ByteArray.size_append, e1]; omega)
      refine ⟨r, Ev.step (f := fun k => laws_markText.l0 k (x / 10) ((strOfNums [(wrap64 (48 + (Int.tmod x 10))) % 256]) ++ s)) (fun k => ?_) hr⟩
      rw [laws_markText.l0, if_pos hx, Option.bind_some, if_pos (by rw [e1]; omega), e2, w64 (by omega) (by omega)]
    · refine ⟨(⟨#[109]⟩ : ByteArray) ++ s, Ev.step (f := fun _ => some ((⟨#[109]⟩ : ByteArray) ++ s)) (fun k => ?_) (Ev.now _)⟩
      rw [laws_markText.l0, if_neg hx, if_pos (by omega)]
theorem mark_text (x : Int) (h0 : 0 ≤ x) (h : x ≤ 1000000000) : ∃ r, Ev (fun k => laws_markText.f k x) r := by
  by_cases hx : x ≤ 0
  · exact ⟨_, Ev.congr (f := fun _ => some (⟨#[109, 48]⟩ : ByteArray)) (fun k => by unfold laws_markText.f; rw [if_pos hx]) (Ev.now _)⟩
  · obtain ⟨r, hr⟩ := mark_loop (x.toNat + 1) x ⟨#[]⟩ h0 h (by omega) (by
      show 0 + _ ≤ _; omega)
    exact ⟨r, Ev.congr (f := fun k => laws_markText.l0 k x ⟨#[]⟩) (fun k => by unfold laws_markText.f; rw [if_neg hx]) hr⟩
theorem rd_set (x : List S83) (i : Nat) (y : S83) (hi : i < x.length) : rd_T83 (x.set i y) (i : Int) = y := by
  simp [rd_T83, hi]
theorem mark_items : ∀ (d i : Nat) (x : List S83) (m : Int), i + d = x.length → x.length ≤ 1048576 → 0 ≤ m → m + 3 * d ≤ 1000000000 →
    ∃ x', x'.length = x.length ∧ (∀ j, j < i → x'[j]? = x[j]?) ∧ Ev (fun k => laws_markItemS.l0 k x m i) (m + 3 * d, x') ∧ Ev (fun k => laws_heldItemS.l0 k x' m i) (m + 3 * d)
  | 0, i, x, m, hd, hxl, h0, h1 => by
    refine ⟨x, rfl, fun _ _ => rfl, Ev.step (f := fun _ => some (m, x)) (fun k => ?_) ?_, Ev.step (f := fun _ => some m) (fun k => ?_) ?_⟩
    · rw [laws_markItemS.l0, if_neg (by omega)]
    · have e : m + 3 * ((0 : Nat) : Int) = m := by omega
      rw [e]; exact Ev.now _
    · rw [laws_heldItemS.l0, if_neg (by omega)]
    · have e : m + 3 * ((0 : Nat) : Int) = m := by omega
      rw [e]; exact Ev.now _
  | d + 1, i, x, m, hd, hxl, h0, h1 => by
    have hi : i < x.length := by omega
    obtain ⟨t1, ht1⟩ := mark_text m h0 (by omega)
    obtain ⟨t2, ht2⟩ := mark_text (m + 1 + 1) (by omega) (by omega)
    obtain ⟨x', hl, hk, hm, hh⟩ := mark_items d (i + 1) (x.set i (⟨t1, (Int.tmod (m + 1) 3 == 0), t2⟩ : S83)) (m + 3) (by simpa using (by omega : i + 1 + d = x.length)) (by simpa using hxl) (by omega) (by omega)
    have hxi : x'[i]? = some (⟨t1, (Int.tmod (m + 1) 3 == 0), t2⟩ : S83) := by
      rw [hk i (by omega), List.getElem?_set_self hi]
    have hr : rd_T83 x' (i : Int) = ⟨t1, (Int.tmod (m + 1) 3 == 0), t2⟩ := by simp [rd_T83, hxi]
    have em : m + 3 * ((d + 1 : Nat) : Int) = m + 3 + 3 * (d : Int) := by omega
    have ei : (i : Int) + 1 = ((i + 1 : Nat) : Int) := by omega
    have e3 : m + 1 + 1 + 1 = m + 3 := by omega
    refine ⟨x', by rw [hl, List.length_set], fun j hj => by rw [hk j (by omega), List.getElem?_set_ne (by omega)], ?_, ?_⟩
    · rw [em]
      refine Ev.step (f := fun k => (laws_markText.f k m).bind fun t => ((laws_markText.f k (m + 1 + 1)).bind fun t' => laws_markItemS.l0 k (x.set i (⟨t, (Int.tmod (m + 1) 3 == 0), t'⟩ : S83)) (m + 3) ((i + 1 : Nat) : Int))) (fun k => ?_) (Ev.bind ht1 (Ev.bind ht2 hm))
      rw [laws_markItemS.l0, if_pos (by omega)]
      simp only [if_pos (show (0 : Int) ≤ (i : Int) by omega), Option.bind_some, Int.toNat_natCast]
      have s1 : ∀ y : S83, rd_T83 (x.set i y) (i : Int) = y := fun y => rd_set x i y hi
      simp only [s1, List.set_set]
      rw [w64 (x := m + 1) (by omega) (by omega), w64 (x := m + 1 + 1) (by omega) (by omega), w64 (x := m + 1 + 1 + 1) (by omega) (by omega), w64 (x := (i : Int) + 1) (by omega) (by omega), e3, ei]
    · rw [em]
      refine Ev.step (f := fun k => (laws_markText.f k m).bind fun t => if (t1 : ByteArray).toList = t.toList then ((laws_markText.f k (m + 1 + 1)).bind fun t' => if (t2 : ByteArray).toList = t'.toList then laws_heldItemS.l0 k x' (m + 3) ((i + 1 : Nat) : Int) else some (-1)) else some (-1)) (fun k => ?_) (Ev.bind ht1 ?_)
      · rw [laws_heldItemS.l0, if_pos (by rw [hl, List.length_set]; omega), if_pos (by omega), hr]
        simp only
        rw [w64 (x := m + 1) (by omega) (by omega), w64 (x := m + 1 + 1) (by omega) (by omega), w64 (x := m + 1 + 1 + 1) (by omega) (by omega), w64 (x := (i : Int) + 1) (by omega) (by omega), e3, ei]
        have hb : ((Int.tmod (m + 1) 3 == 0) != (Int.tmod (m + 1) 3 == 0)) = false := by simp
        simp only [hb, Bool.false_eq_true, if_false]
      · simp only [if_true]
        refine Ev.bind ht2 ?_
        simp only [if_true]
        exact hh
/-- What is held of marked items. -/
def HeldI (l : List Item) : Prop := Ev (fun k => laws_heldItemS.f k (l.map toS) 1) (1 + 3 * (l.length : Int))
theorem markI (w0 : World) (v : Value) (l : List Item) (w : World) (HB : Aside0 (Below w0.heap.size w0 w)) (HO : Aside0 (Own kItem 83 w w0.heap.size v l)) (hl : l.length ≤ 1048576) :
    Calls Tryz.prog 18 #[v, .int .i64 1] w fun e w' => ∃ l', e = .returned (.int .i64 (1 + 3 * (l.length : Int))) ∧ l'.length = l.length ∧ HeldI l' ∧ Own kItem 83 w' w0.heap.size v l' ∧ Below w0.heap.size w0 w' ∧ Kept w w' (fun k => v.ownBlock = some k) := by
  have h1 : (l.map toS).length = l.length := by simp
  obtain ⟨x', hx, _, hm, hh⟩ := mark_items (l.map toS).length 0 (l.map toS) 1 (by omega) (by omega) (by omega) (by omega)
  rw [h1] at hm hh
  obtain ⟨k, h⟩ := hm.rounds
  refine (laws_markItemS.calls k (fun k => v.ownBlock = some k) v (l.map toS) 1 _ x' w0 w HB.out (R_toS (fun _ h => h) HO.out) h).mono ?_
  rintro e w' ⟨rfl, h2, h3, h4⟩
  refine ⟨x'.map ofS, rfl, by simp [hx], ?_, R_ofS h2, h3, h4⟩
  unfold HeldI
  rw [ofS_map, List.length_map, hx, h1]
  exact hh
theorem heldI (A : Option Addr) (c n : Nat) (l : List Item) (hn : l.length = n) (w : World) (HR : Aside0 (Kd.C kItem w A l.length l)) (hc : n ≤ c) (hh : HeldI l) :
    Calls Tryz.prog 19 #[.slice A n c, .int .i64 1] w fun e w' => e = .returned (.int .i64 (1 + 3 * (n : Int))) ∧ Below w.heap.size w w' := by
  subst hn
  obtain ⟨k, h⟩ := hh.rounds
  have h1 : (l.map toS).length = l.length := by simp
  have := laws_heldItemS.calls k A c (l.map toS) 1 _ w (by rw [h1]; exact C_toS HR.out) (by omega) h
  rw [h1] at this
  exact this
end Go.Proofs.YtijeoadfgjpefaaGreatDoor
