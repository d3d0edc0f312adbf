/- Part Sb of a proof: every text below is one step of it; what the last part proves is said there. -/
import Derived.Test.YtidikilmomkbbaaSa
import Derived.Laws.IdiomCopy
import Derived.Below
import Derived.Laws.Append

/- What one operation does: writing. -/
set_option linter.unusedVariables false
set_option linter.unusedSimpArgs false
namespace Go.Sx

theorem setCells_far {g : Nat} : ∀ (vs : List Value) (o : Nat) {w : World} (k : Nat), k ≠ g → (w.setCells g o vs).heap[k]? = w.heap[k]?
  | [], _, _, _, _ => rfl
  | v :: r, o, w, k, hk => by
    rw [World.setCells, setCells_far r (o + 1) k hk]
    exact RowKit.Below.heap_setCell w ⟨g, o, none⟩ v k hk

theorem setCells_same (g : Nat) : ∀ (vs : List Value) (o : Nat) (w : World), (w.setCells g o vs).os = w.os ∧ (w.setCells g o vs).tape = w.tape ∧ (w.setCells g o vs).output = w.output ∧ (w.setCells g o vs).heap.size = w.heap.size
  | [], _, _ => ⟨rfl, rfl, rfl, rfl⟩
  | v :: r, o, w => by
    obtain ⟨h1, h2, h3, h4⟩ := setCells_same g r (o + 1) (w.setCell ⟨g, o, none⟩ v)
    rw [World.setCells]
    exact ⟨h1, h2, h3, by rw [h4]; simp [World.setCell]⟩

theorem setCells_blk {g : Nat} {e : TypeId} {fr : Nat × Nat} : ∀ (us : List Value) (o : Nat) (w : World) (vs : Array Value), w.heap[g]? = some (.cells vs e fr) → o + us.length ≤ vs.size →
    ∃ vs' : Array Value, (w.setCells g o us).heap[g]? = some (.cells vs' e fr) ∧ vs'.size = vs.size ∧ ∀ k, vs'[k]? = if o ≤ k ∧ k < o + us.length then us[k - o]? else vs[k]?
  | [], o, w, vs, h, _ => ⟨vs, h, rfl, fun k => by simp only [List.length_nil, Nat.add_zero]; rw [if_neg (by omega)]⟩
  | u :: us, o, w, vs, h, hl => by
    simp only [List.length_cons] at hl
    have h2 : (w.setCell ⟨g, o, none⟩ u).heap[g]? = some (.cells (vs.setIfInBounds o u) e fr) := by simp [World.setCell, Array.getElem?_modify, h]
    obtain ⟨vs', p1, p2, p3⟩ := setCells_blk us (o + 1) (w.setCell ⟨g, o, none⟩ u) _ h2 (by simp; omega)
    refine ⟨vs', p1, by rw [p2]; simp, fun k => ?_⟩
    rw [p3 k]
    simp only [List.length_cons]
    by_cases h1 : o + 1 ≤ k ∧ k < o + 1 + us.length
    · rw [if_pos h1, if_pos (by omega), show k - o = (k - (o + 1)) + 1 by omega, List.getElem?_cons_succ]
    · rw [if_neg h1]
      by_cases h3 : k = o
      · subst h3
        rw [if_pos (by omega), Nat.sub_self, Array.getElem?_setIfInBounds_self_of_lt (by omega)]; rfl
      · rw [if_neg (by omega), Array.getElem?_setIfInBounds_ne (fun e => h3 e.symm)]

section
variable {P : Program} {pars : Nat} {G : Gh} {w : World} {h : List Ent} {ev : Operand → Value} {o : Oper}

theorem run_storeVar' {t : TypeId} {b oo : Nat} {v : Value} {vs : Array Value} (hu : (P.underlying t).isSome = true) (hsz : v.cells.size = P.cellsOf t) (hb : Blk w b vs) (hl : oo + v.cells.size ≤ vs.size) (hfz : ∀ i, i < vs.size → w.frozen? ⟨b, i, none⟩ = false) (h1 : ∀ u ∈ v.cells.toList, u.oneCell' = true) :
    (storeVar t ⟨b, oo, none⟩ v).run P w = .ok () (w.setCells b oo v.cells.toList) := by
  obtain ⟨i, hi, his⟩ := info_of_some hu
  have hst := run_storeCells_cells (P := P) b oo v.cells.toList 0 w (fun j hj => by
      rw [hb.cell]
      rw [Array.length_toList] at hj
      rw [Array.getElem?_eq_getElem (by omega)]; rfl) (fun j hj => by
      rw [Array.length_toList] at hj
      exact hfz _ (by omega)) h1
  simp only [storeVar, Sem.run_bind, run_sizeOf' hi, Result.andThen_ok]
  rw [if_neg (by rw [hsz, his]; simp)]
  simpa using hst

/-- One block is written; the row or box it belongs to is what it is then; rows are frozen. -/
theorem done_write {n b oo : Nat} {us : List Value} {e0 e' : Ent} {F : List (Nat × Ent)} {vs : Array Value} {v : Value} (hh : RelH G w h) (hn : h[n]? = some e0) (hnF : n ∉ F.map (·.1)) (hFd : (F.map (·.1)).Nodup)
    (hF : ∀ y ∈ F, ∃ a, h[y.1]? = some (.arr a) ∧ y.2 = .arr a.frz) (hb : Blk w b vs) (hz : G.zone b = .top n ∨ G.zone b = .box n)
    (hl : oo + us.length ≤ vs.size)
    (he : (∃ a a', e0 = .arr a ∧ e' = .arr a' ∧ a'.row = a.row ∧ a'.rows.length = a.rows.length ∧ a'.fix = a.fix ∧ a'.own = true ∧ a.own = true) ∨ (∃ cs cs', e0 = .box cs ∧ e' = .box cs'))
    (hr : ∀ (G' : Gh) (w' : World) (vs' : Array Value), (∀ k, G'.zone k = (G.zone k).drop (F.map (·.1))) → G'.blk = G.blk → G'.base = G.base → G'.cap = G.cap → Blk w' b vs' → vs'.size = vs.size → (∀ k, vs'[k]? = if oo ≤ k ∧ k < oo + us.length then us[k - oo]? else vs[k]?) →
      (∀ k, k ≠ b → w'.heap[k]? = w.heap[k]?) → (∀ x, w'.frozen? x = w.frozen? x) → Trans [] (fun m => m ∈ ([] : List Nat) ∨ m ∈ ([(n, e')] ++ F).map (·.1)) G w h G' w' (newHeap h { sets := [(n, e')] ++ F }) → RelE G' w' (newHeap h { sets := [(n, e')] ++ F }) n e') :
    Done pars G w h { sets := (n, e') :: F } v (w.setCells b oo us) := by
  have hb0 := hb
  obtain ⟨te, fr, hb'⟩ := hb
  obtain ⟨vs', p1, p2, p3⟩ := setCells_blk us oo w vs hb' hl
  obtain ⟨s1, s2, s3, s4⟩ := setCells_same b us oo w
  have hlt : n < h.length := (List.getElem?_eq_some_iff.1 hn).1
  let G' : Gh := { G with zone := fun k => (G.zone k).drop (F.map (·.1)) }
  have hnd : (([(n, e')] ++ F).map (·.1)).Nodup := by
    simp only [List.cons_append, List.nil_append, List.map_cons, List.nodup_cons]
    exact ⟨hnF, hFd⟩
  refine done_fz (G' := G') (S := [(n, e')]) (F := F) (ks := []) (x := .undef) hh hnd (by simpa using hlt) (fun y hy => ⟨by simp, hF y hy⟩) (by rw [s4]; exact Nat.le_refl _) s1 s2 s3 (fun k hk hno => setCells_far us oo k ?_) (fun _ _ => rfl) (fun _ _ _ => ⟨rfl, rfl, rfl⟩)
    (fun y hy _ a ha => ?_) (fun y hy _ cs ha => ?_) (fun k hq hq' hT ws hws i hi => ?_) (fun _ _ => rfl) (fun m a0 hm ha0 => ?_) (fun m a hm hfx => ⟨by simp, ?_, rfl, rfl, ?_⟩) (fun tr m e hm => ?_) (fun _ => trivial)
  · rintro rfl
    have := hno n (.inr (by simp))
    rcases hz with hz | hz
    · exact this.1 hz
    · exact this.2 hz
  · simp only [List.mem_singleton] at hy
    subst hy
    rw [hn] at ha
    injection ha with ha
    subst ha
    rcases he with ⟨a0, a', e1, e2, e3, e4, _⟩ | ⟨cs, cs', e1, e2⟩
    · injection e1 with e1
      subst e1
      exact ⟨a', e2, e3, e4, rfl, rfl⟩
    · cases e1
  · simp only [List.mem_singleton] at hy
    subst hy
    rw [hn] at ha
    injection ha with ha
    subst ha
    rcases he with ⟨a0, a', e1, e2, e3, e4, _⟩ | ⟨cs, cs', e1, e2⟩
    · cases e1
    · exact ⟨cs', e2, rfl⟩
  · rw [World.frozen?_setCells]
    have hq1 : G.zone k ≠ .frz := fun e => hq (by simp only [G', e]; rfl)
    have hq2 : G.zone k ≠ .hid := fun e => hq' (by simp only [G', e]; rfl)
    by_cases hkb : k = b
    · subst hkb
      obtain ⟨e1, f1, hws⟩ := hws
      rw [p1] at hws
      injection hws with hws
      injection hws with hws
      subst hws
      exact hh.thaw _ hq1 hq2 vs hb0 i (by rw [p2] at hi; exact hi)
    · exact hh.thaw k hq1 hq2 ws (hws.same (setCells_far us oo k hkb).symm) i hi
  · have hmn : m = n := by
      rcases hm with hm | hm
      · cases hm
      · simpa using hm
    subst hmn
    rw [hn] at ha0
    injection ha0 with ha0
    rcases he with ⟨a1, a', e1, _, _, _, _, _, e7⟩ | ⟨cs, cs', e1, _⟩
    · rw [e1] at ha0
      injection ha0 with ha0
      rw [← ha0]; exact e7
    · rw [e1] at ha0; cases ha0
  · simp only [List.mem_singleton, Prod.mk.injEq] at hm
    obtain ⟨rfl, hm⟩ := hm
    rcases he with ⟨a0, a', e1, e2, _, _, _, e6, _⟩ | ⟨cs, cs', e1, e2⟩
    · rw [e2] at hm
      injection hm with hm
      subst hm
      exact e6
    · rw [e2] at hm
      cases hm
  · simp only [List.mem_singleton, Prod.mk.injEq] at hm
    obtain ⟨rfl, hm⟩ := hm
    rcases he with ⟨a0, a', e1, e2, _, _, e5, _, _⟩ | ⟨cs, cs', e1, e2⟩
    · rw [e2] at hm
      injection hm with hm
      subst hm
      exact ⟨a0, by rw [hn, e1], by rw [← e5]; exact hfx⟩
    · rw [e2] at hm
      cases hm
  · simp only [List.mem_singleton, Prod.mk.injEq] at hm
    obtain ⟨rfl, rfl⟩ := hm
    exact hr G' _ vs' (fun _ => rfl) rfl rfl rfl ⟨te, fr, p1⟩ p2 p3 (fun k hk => setCells_far us oo k hk) (fun x => World.frozen?_setCells _ _ _ _ _) tr

theorem cell_in : (r : Row) → {x : r.den} → {j : Nat} → {c : (t : Ty) × t.den} → r.cell x j = some c → j < r.size
  | .one t, x, 0, c, _ => by simp [Row.size]
  | .one t, x, j + 1, c, hs => by cases hs
  | .cons t r, x, 0, c, _ => by simp [Row.size]
  | .cons t r, x, j + 1, c, hs => by
    have := cell_in r (x := x.2) (j := j) hs
    simp only [Row.size]; omega

/-- A row, one cell of which is written. -/
theorem relRow_put {Z : Nat → Prop} : (r : Row) → {vs vs' : Array Value} → {oo : Nat} → {x : r.den} → {j : Nat} → {t : Ty} → {y : t.den} → {x' : r.den} → {u : Value} → r.put x j t y = some x' → RelRow w Z r vs oo x → RelCell w Z t u y →
    vs'[oo + j]? = some u → (∀ k, k < r.size → k ≠ j → vs'[oo + k]? = vs[oo + k]?) → RelRow w Z r vs' oo x'
  | .one t, vs, vs', oo, x, 0, t', y, x', u, hs, hr, hc, hu, hk => by
    simp only [Row.put] at hs
    split at hs
    · rename_i e
      subst e
      have hs := Option.some.inj hs
      subst hs
      simp only [RelRow]
      exact ⟨u, hu, hc⟩
    · cases hs
  | .one t, vs, vs', oo, x, j + 1, t', y, x', u, hs, hr, hc, hu, hk => by cases hs
  | .cons t r, vs, vs', oo, x, 0, t', y, x', u, hs, hr, hc, hu, hk => by
    simp only [Row.put] at hs
    split at hs
    · rename_i e
      subst e
      have hs := Option.some.inj hs
      subst hs
      simp only [RelRow] at hr ⊢
      refine ⟨⟨u, hu, hc⟩, RelRow.alike r (fun k hkl => ?_) hr.2⟩
      have := hk (k + 1) (by simp only [Row.size]; omega) (by omega)
      rwa [show oo + (k + 1) = oo + 1 + k by omega] at this
    · cases hs
  | .cons t r, vs, vs', oo, x, j + 1, t', y, x', u, hs, hr, hc, hu, hk => by
    simp only [Row.put] at hs
    cases hq : r.put x.2 j t' y with
    | none => rw [hq] at hs; cases hs
    | some z =>
      rw [hq] at hs
      have hs := Option.some.inj hs
      subst hs
      simp only [RelRow] at hr ⊢
      obtain ⟨⟨v, h1, h2⟩, h3⟩ := hr
      refine ⟨⟨v, ?_, h2⟩, relRow_put r hq h3 hc (by rw [show oo + 1 + j = oo + (j + 1) by omega]; exact hu) (fun k hkl hkj => ?_)⟩
      · have := hk 0 (by simp [Row.size]) (by omega)
        simp only [Nat.add_zero] at this
        rw [this]; exact h1
      · have := hk (k + 1) (by simp only [Row.size]; omega) (by omega)
        rwa [show oo + (k + 1) = oo + 1 + k by omega] at this

theorem relRow_in {Z : Nat → Prop} : (r : Row) → {vs : Array Value} → {oo : Nat} → {x : r.den} → RelRow w Z r vs oo x → ∀ k, k < r.size → oo + k < vs.size
  | .one t, vs, oo, x, hr, k, hk => by
    simp only [RelRow] at hr
    obtain ⟨v, h1, _⟩ := hr
    simp only [Row.size] at hk
    have := (Array.getElem?_eq_some_iff.1 h1).1
    omega
  | .cons t r, vs, oo, x, hr, k, hk => by
    simp only [RelRow] at hr
    obtain ⟨⟨v, h1, _⟩, h3⟩ := hr
    simp only [Row.size] at hk
    have := (Array.getElem?_eq_some_iff.1 h1).1
    cases k with
    | zero => omega
    | succ k =>
      have := relRow_in r h3 k (by omega)
      omega

/-- A row, some cells of which are written. -/
theorem putRow_rel {q : Nat → Ent} {r : Row} {oo : Nat} (hh : RelH G w h) (hq : ∀ n, q n ≠ .gone → h[n]? = some (q n)) : ∀ (l : List BV) (us : List Value) (j : Nat) (x : r.den) (d : RowIn r) (ks : List Nat) (vs vs' : Array Value),
    putRow q r x j l = some d → us.length = l.length → (∀ (i : Nat) (b : BV), l[i]? = some b → ∃ u, us[i]? = some u ∧ RelB G w h u b) → (∀ m, m ∈ d.gives → m ∈ ks) → RelRow w (GZ G ks) r vs oo x →
    (∀ k, k < r.size → vs'[oo + k]? = if j ≤ k ∧ k < j + us.length then us[k - j]? else vs[oo + k]?) → RelRow w (GZ G ks) r vs' oo d.x ∧ (∀ b, b ∈ l → b.known = true) ∧ (l ≠ [] → j + l.length ≤ r.size)
  | [], us, j, x, d, ks, vs, vs', hs, hul, hc, hks, hr, hv => by
    simp only [putRow, Option.some.injEq] at hs
    subst hs
    have : us = [] := List.length_eq_zero_iff.1 hul
    subst this
    refine ⟨RelRow.alike r (fun k hk => ?_) hr, by simp, by simp⟩
    rw [hv k hk]
    simp only [List.length_nil, Nat.add_zero]
    rw [if_neg (by omega)]
  | b :: l, us, j, x, d, ks, vs, vs', hs, hul, hc, hks, hr, hv => by
    simp only [putRow] at hs
    cases h1 : r.cell x j with
    | none => rw [h1] at hs; cases hs
    | some c =>
      obtain ⟨t, z⟩ := c
      rw [h1] at hs
      simp only at hs
      cases h2 : toCell q t b with
      | none => rw [h2] at hs; cases hs
      | some c =>
        rw [h2] at hs
        simp only at hs
        cases h3 : r.put x j t c.x with
        | none => rw [h3] at hs; cases hs
        | some y =>
          rw [h3] at hs
          simp only at hs
          cases h4 : putRow q r y (j + 1) l with
          | none => rw [h4] at hs; cases hs
          | some d' =>
            rw [h4] at hs
            simp only [Option.some.injEq] at hs
            subst hs
            have hjr := cell_in r h1
            cases us with
            | nil => simp at hul
            | cons u us =>
              simp only [List.length_cons, Nat.add_right_cancel_iff] at hul
              obtain ⟨u', e1, e2⟩ := hc 0 b rfl
              simp only [List.getElem?_cons_zero, Option.some.injEq] at e1
              subst e1
              have hcell := (toCell_rel hh hq t h2 e2).gz (ks' := ks) fun m hm => hks m (by simp [hm])
              have hin := relRow_in r hr j hjr
              have hr1 : RelRow w (GZ G ks) r (vs.setIfInBounds (oo + j) u) oo y := relRow_put r h3 hr hcell (Array.getElem?_setIfInBounds_self_of_lt hin) (fun k hk hkj => Array.getElem?_setIfInBounds_ne (by omega))
              obtain ⟨r1, r2, r3⟩ := putRow_rel hh hq l us (j + 1) y d' ks _ vs' h4 hul (fun i b' hi => by
                have := hc (i + 1) b' (by simpa using hi)
                simpa using this) (fun m hm => hks m (by simp [hm])) hr1 (fun k hk => by
                rw [hv k hk]
                simp only [List.length_cons]
                by_cases hA : j + 1 ≤ k ∧ k < j + 1 + us.length
                · rw [if_pos hA, if_pos (by omega), show k - j = (k - (j + 1)) + 1 by omega, List.getElem?_cons_succ]
                · rw [if_neg hA]
                  by_cases hB : k = j
                  · subst hB
                    rw [if_pos (by omega), Nat.sub_self, Array.getElem?_setIfInBounds_self_of_lt hin]; rfl
                  · rw [if_neg (by omega), Array.getElem?_setIfInBounds_ne (by omega)])
              refine ⟨r1, fun b' hb' => ?_, fun _ => ?_⟩
              · rcases List.mem_cons.1 hb' with rfl | hb'
                · exact litRows_rel.toCell_known h2
                · exact r2 b' hb'
              · simp only [List.length_cons]
                rcases l with _ | ⟨b2, l⟩
                · simp only [List.length_nil]; omega
                · have := r3 (by simp)
                  omega
end
end Go.Sx

/- What one operation does: the store. -/
set_option linter.unusedVariables false
set_option linter.unusedSimpArgs false
namespace Go.Sx

section
variable {P : Program} {pars : Nat} {G : Gh} {w : World} {h : List Ent} {ev : Operand → Value} {o : Oper}

theorem constV_rel {t : TypeId} {v : Value} {b : BV} (hs : constV P t v = some b) : RelB G w h v b := by
  unfold constV at hs
  split at hs
  · cases hs; rfl
  · cases hs; rfl
  · cases hs; rfl
  · cases hr : (elemOfB P t).bind (rowOf P) with
    | none => rw [hr] at hs; cases hs
    | some r =>
      rw [hr] at hs
      simp only [Option.map_some, Option.some.injEq] at hs
      subst hs
      exact ⟨none, rfl⟩
  · cases hs; rfl
  · cases hs

theorem get_cells_toList {v : Value} {cs : List BV} (hc : ∀ (i : Nat) (b : BV), cs[i]? = some b → ∃ u, v.cells[i]? = some u ∧ u.oneCell' = true ∧ RelB G w h u b) (hsz : v.cells.size = cs.length) : ∀ u ∈ v.cells.toList, u.oneCell' = true := by
  intro u hu
  obtain ⟨i, hi, rfl⟩ := List.getElem_of_mem hu
  rw [Array.length_toList] at hi
  obtain ⟨u', h1, h2, _⟩ := hc i (cs[i]'(by omega)) (List.getElem?_eq_getElem _)
  rw [Array.getElem?_eq_getElem hi] at h1
  simp only [Option.some.injEq] at h1
  rw [Array.getElem_toList, h1]; exact h2

theorem op_store {t : TypeId} {x y : Operand} {q : Nat → Ent} {g : Bool} {δ : Delta} {xv : TV} {yv : CV} (ho : o.op = .store t x y) (hh : RelH G w h) (hq : ∀ n, q n ≠ .gone → h[n]? = some (q n))
    (hx : RelTV G w h (ev x) xv) (hy : RelCV G w h (ev y) yv) (hs : storeD P t q xv yv = some (g, δ)) : OpOk P pars G w h ev o δ := by
  unfold storeD at hs
  split at hs
  · rename_i n off
    cases hn : q n <;> rw [hn] at hs <;> simp only [reduceCtorEq] at hs
    rename_i cs
    have harr := hq n (by rw [hn]; simp)
    rw [hn] at harr
    cases hc : (yv.cells.all BV.known && (P.underlying t).isSome && Nat.beq yv.cells.length (P.cellsOf t) && Nat.ble (off + yv.cells.length) cs.length) with
    | false => rw [hc] at hs; cases hs
    | true =>
      rw [hc] at hs
      simp only [cond_true, Option.some.injEq, Prod.mk.injEq] at hs
      obtain ⟨rfl, rfl⟩ := hs
      simp only [Bool.and_eq_true] at hc
      obtain ⟨⟨⟨k1, k2⟩, k3⟩, k4⟩ := hc
      have k3 := Nat.eq_of_beq_eq_true k3
      have k4 := Nat.le_of_ble_eq_true k4
      obtain ⟨c1, c2⟩ := cv_cells k1 hy
      obtain ⟨cs', hcs', hv⟩ := hx
      rw [harr] at hcs'
      injection hcs' with hcs'
      injection hcs' with hcs'
      subst hcs'
      obtain ⟨z1, vs, b1, b2, b3⟩ : RelBox G w h n cs := hh.ent n _ harr
      have hth := hh.thaw (G.blk n).1 (by rw [z1]; simp) (by rw [z1]; simp) vs b1
      have hrun := run_storeVar' (P := P) (w := w) (b := (G.blk n).1) (oo := (G.blk n).2 + off) (v := ev y) k2 (by rw [c1, k3]) b1 (by rw [c1]; omega) hth (get_cells_toList c2 c1)
      have hul : (ev y).cells.toList.length = yv.cells.length := by rw [Array.length_toList, c1]
      refine ⟨undef, _, .inr ⟨by simp only [execOp, ho, hv, Instr.storeAt]; simp only [Instr.sureAddr, Sem.run_bind, Sem.run_pure, Result.andThen_ok, hrun]; rfl, rfl⟩, ?_⟩
      refine done_write (F := []) hh harr (by simp) (by simp) (by simp) b1 (.inr z1) (by rw [hul]; omega) (.inr ⟨cs, _, rfl, rfl⟩) (fun G' w' vs' e1 e2 e3 e4 e5 e6 e7 e8 e9 tr => ?_)
      refine ⟨by rw [e1, e2, z1]; rfl, vs', by rw [e2]; exact e5, by rw [e2, putCells_length, e6]; exact b2, fun i b hi => ?_⟩
      rw [e2, e7, hul]
      rw [putCells_get _ _ _ _ k4] at hi
      by_cases hA : off ≤ i ∧ i < off + yv.cells.length
      · rw [if_pos hA] at hi
        obtain ⟨u, p1, p2, p3⟩ := c2 _ _ hi
        refine ⟨u, ?_, p2, relB_same tr p3⟩
        rw [if_pos (by omega), show (G.blk n).2 + i - ((G.blk n).2 + off) = i - off by omega, Array.getElem?_toList]
        exact p1
      · rw [if_neg hA] at hi
        obtain ⟨u, p1, p2, p3⟩ := b3 _ _ hi
        exact ⟨u, by rw [if_neg (by omega)]; exact p1, p2, relB_same tr p3⟩
  · rename_i n i j
    cases hn : q n <;> rw [hn] at hs <;> simp only [reduceCtorEq] at hs
    rename_i a
    have harr := hq n (by rw [hn]; simp)
    rw [hn] at harr
    cases hc : (a.own && a.plain && (P.underlying t).isSome && Nat.beq yv.cells.length (P.cellsOf t) && Nat.ble (j + yv.cells.length) a.row.size) with
    | false => rw [hc] at hs; cases hs
    | true =>
      rw [hc] at hs
      simp only [cond_true] at hs
      simp only [Bool.and_eq_true] at hc
      obtain ⟨⟨⟨⟨k0, k1⟩, k2⟩, k3⟩, k4⟩ := hc
      have k4 := Nat.le_of_ble_eq_true k4
      have k3 := Nat.eq_of_beq_eq_true k3
      cases hp : putRow q a.row (a.rows.getD i a.row.zero) j yv.cells with
      | none => rw [hp] at hs; cases hs
      | some d =>
        rw [hp] at hs
        simp only at hs
        cases hng : d.gives.contains n with
        | true => rw [hng] at hs; cases hs
        | false =>
          rw [hng] at hs
          simp only [cond_false, Option.some.injEq, Prod.mk.injEq] at hs
          obtain ⟨rfl, rfl⟩ := hs
          have hng := not_mem_of_contains hng
          obtain ⟨a', ad0, ha', hi, hb0, hv⟩ := hx
          rw [harr] at ha'
          injection ha' with ha'
          injection ha' with ha'
          subst ha'
          obtain ⟨ad, vs, h1, h2, h3, h4, h5, h6⟩ := arr_elem (relArr_of hh harr) hi
          rw [hb0] at h1
          injection h1 with h1
          subst h1
          simp only [ZArr, k0, if_true] at h3
          have hk := putRow_known _ _ _ _ hp
          obtain ⟨c1, c2⟩ := cv_cells (List.all_eq_true.2 hk) hy
          have hul : (ev y).cells.toList.length = yv.cells.length := by rw [Array.length_toList, c1]
          have hth := hh.thaw ad0.block (by rw [h3]; simp) (by rw [h3]; simp) vs h4
          obtain ⟨f1, f2, f3, f4⟩ := frz_spec hq d.gives
          have hnF : n ∉ (frzSets q d.gives).map (·.1) := fun hm => by
            obtain ⟨y, hy, e⟩ := List.mem_map.1 hm
            exact hng (e ▸ f4 y hy)
          have hle : i * a.row.size + a.row.size ≤ G.cap n * a.row.size := by
            have : i + 1 ≤ G.cap n := by
              have := (relArr_of hh harr).2.2.1
              omega
            have := Nat.mul_le_mul_right a.row.size this
            rwa [Nat.add_mul, Nat.one_mul] at this
          have hrun := run_storeVar' (P := P) (w := w) (b := ad0.block) (oo := ad0.off + i * a.row.size + j) (v := ev y) k2 (by rw [c1, k3]) h4 (by rw [c1]; omega) hth (get_cells_toList c2 c1)
          refine ⟨undef, _, .inr ⟨by simp only [execOp, ho, hv, Instr.storeAt]; simp only [Instr.sureAddr, Sem.run_bind, Sem.run_pure, Result.andThen_ok, hrun]; rfl, rfl⟩, ?_⟩
          refine done_write (F := frzSets q d.gives) hh harr hnF f2 f1 h4 (.inl h3) (by rw [hul]; omega) (.inl ⟨a, _, rfl, rfl, rfl, by simp, rfl, k0, k0⟩) (fun G' w' vs' e1 e2 e3 e4 e5 e6 e7 e8 e9 tr => ?_)
          obtain ⟨r1, r2, r3, r4⟩ := relArr_of hh harr
          have hgz : ∀ b, b < w.heap.size → GZ G d.gives b → G'.zone b = .frz ∧ w'.heap[b]? = w.heap[b]? := by
            intro b hb hz
            refine ⟨?_, e8 b ?_⟩
            · rw [e1]
              exact gz_frz hq (putRow_gives _ _ _ _ hp) hz
            · rintro rfl
              rcases hz with hz | ⟨m, hm, hz⟩
              · rw [hz] at h3; cases h3
              · rw [hz] at h3; injection h3 with h3; exact hng (h3 ▸ hm)
          refine ⟨⟨r1.1, fun ho hr hc ad vs2 hb hv => ?_⟩, by rw [e4]; exact r2, ?_⟩
          · rw [e3] at hb
            rw [e4] at hc
            rw [hb0] at hb
            injection hb with hb
            subst hb
            have hvv : vs2 = vs' := by
              obtain ⟨_, _, t1⟩ := hv
              obtain ⟨_, _, t2⟩ := e5
              rw [t1] at t2; injection t2 with t2; injection t2
            rw [e9, hvv, e6]
            exact r1.2 ho hr hc ad0 vs hb0 h4
          rw [e3, e4]
          refine ⟨by simpa using r3, .inr ⟨ad0, vs', hb0, h2, ?_, e5, by rw [e6]; exact h5, fun i' x' hx' => ?_⟩⟩
          · simp only [ZArr, k0, if_true]
            rw [e1, h3]
            simp only [Zone.drop, if_neg hnF]
          · rw [List.getElem?_set] at hx'
            by_cases hii : i = i'
            · subst hii
              rw [if_pos rfl, if_pos hi] at hx'
              simp only [Option.some.injEq] at hx'
              subst hx'
              obtain ⟨q1, _, _⟩ := putRow_rel (oo := ad0.off + i * a.row.size) hh hq yv.cells (ev y).cells.toList j _ d d.gives vs vs' hp hul
                (fun k b hkb => by obtain ⟨u, p1, _, p3⟩ := c2 k b hkb; exact ⟨u, by rw [Array.getElem?_toList]; exact p1, p3⟩) (fun m hm => hm)
                (RelRow.mono (fun _ _ hz => .inl hz) (fun _ _ _ => rfl) _ _ _ _ h6) (fun k hk => by
                  rw [e7]
                  by_cases hA : j ≤ k ∧ k < j + (ev y).cells.toList.length
                  · rw [if_pos hA, if_pos (by omega), show ad0.off + i * a.row.size + k - (ad0.off + i * a.row.size + j) = k - j by omega]
                  · rw [if_neg hA, if_neg (by omega)])
              exact RelRow.mono (fun b hb hz => (hgz b hb hz).1) (fun b hb hz => (hgz b hb hz).2) _ _ _ _ q1
            · rw [if_neg hii] at hx'
              rcases r4 with r4 | ⟨ad0', vs2, p1, p2, p3, p4, p5, p6⟩
              · rw [r4] at r3; omega
              · rw [hb0] at p1
                injection p1 with p1
                subst p1
                have hvv : vs2 = vs := by
                  obtain ⟨_, _, t1⟩ := p4
                  obtain ⟨_, _, t2⟩ := h4
                  rw [t1] at t2; injection t2 with t2; injection t2
                subst hvv
                refine RelRow.alike a.row (fun k hk => ?_) (RelRow.mono (fun b hb hz => (hgz b hb (.inl hz)).1) (fun b hb hz => (hgz b hb (.inl hz)).2) _ _ _ _ (p6 i' x' hx'))
                show vs'[ad0.off + i' * a.row.size + k]? = _
                rw [e7]
                have : i' * a.row.size + a.row.size ≤ i * a.row.size ∨ i * a.row.size + a.row.size ≤ i' * a.row.size := by
                  rcases Nat.lt_or_gt_of_ne hii with hlt | hlt
                  · have := Nat.mul_le_mul_right a.row.size hlt
                    rw [Nat.succ_mul] at this
                    exact .inr this
                  · have := Nat.mul_le_mul_right a.row.size hlt
                    rw [Nat.succ_mul] at this
                    exact .inl this
                rw [if_neg (by omega)]
  · cases hs
where
  putRow_gives {q : Nat → Ent} {r : Row} : (l : List BV) → (x : r.den) → (j : Nat) → (d : RowIn r) → putRow q r x j l = some d → ∀ m, m ∈ d.gives → ∃ a, q m = .arr a
  | [], x, j, d, hs, m, hm => by
    simp only [putRow, Option.some.injEq] at hs
    subst hs
    cases hm
  | b' :: l, x, j, d, hs, m, hm => by
    simp only [putRow] at hs
    cases h1 : r.cell x j with
    | none => rw [h1] at hs; cases hs
    | some c =>
      obtain ⟨t, z⟩ := c
      rw [h1] at hs
      simp only at hs
      cases h2 : toCell q t b' with
      | none => rw [h2] at hs; cases hs
      | some c =>
        rw [h2] at hs
        simp only at hs
        cases h3 : r.put x j t c.x with
        | none => rw [h3] at hs; cases hs
        | some y =>
          rw [h3] at hs
          simp only at hs
          cases h4 : putRow q r y (j + 1) l with
          | none => rw [h4] at hs; cases hs
          | some d' =>
            rw [h4] at hs
            simp only [Option.some.injEq] at hs
            subst hs
            rcases List.mem_append.1 hm with hm | hm
            · exact toCell_gives h2 hm
            · exact putRow_gives l _ _ _ h4 m hm
  putRow_known {q : Nat → Ent} {r : Row} : (l : List BV) → (x : r.den) → (j : Nat) → (d : RowIn r) → putRow q r x j l = some d → ∀ b, b ∈ l → b.known = true
  | [], x, j, d, hs, b, hb => by cases hb
  | b' :: l, x, j, d, hs, b, hb => by
    simp only [putRow] at hs
    cases h1 : r.cell x j with
    | none => rw [h1] at hs; cases hs
    | some c =>
      obtain ⟨t, z⟩ := c
      rw [h1] at hs
      simp only at hs
      cases h2 : toCell q t b' with
      | none => rw [h2] at hs; cases hs
      | some c =>
        rw [h2] at hs
        simp only at hs
        cases h3 : r.put x j t c.x with
        | none => rw [h3] at hs; cases hs
        | some y =>
          rw [h3] at hs
          simp only at hs
          cases h4 : putRow q r y (j + 1) l with
          | none => rw [h4] at hs; cases hs
          | some d' =>
            rcases List.mem_cons.1 hb with rfl | hb
            · exact litRows_rel.toCell_known h2
            · exact putRow_known l _ _ _ h4 b hb
end
end Go.Sx

/- What one operation does: append. -/
set_option linter.unusedVariables false
set_option linter.unusedSimpArgs false
namespace Go.Sx

section
variable {P : Program}

theorem run_append_fit {w : World} {t u ty e : TypeId} {i : TypeInfo} {base : Option Addr} {sLen sCap n : Nat} {x : Value} {news : Array Value} {at_ : Array TypeId} (ha0 : at_[0]? = some t) (ha1 : at_[1]? = some u) (ht : P.underlying t = some (.slice e)) (hu : (∃ e', P.underlying u = some (.slice e')) ∨ P.underlying u = some .string)
    (hi : P.info? e = some i) (hn : (Builtin.lenOf x).run P w = .ok n w) (hx : (Builtin.firstCells i.size n x).run P w = .ok news w) (hfit : sLen + n ≤ sCap) {w' : World}
    (hst : (match base with | some a => (storeCells (a.add (sLen * i.size)) news.toList).run P w | none => .ok () w) = .ok () w') :
    (Builtin.append_ at_ ty #[.slice base sLen sCap, x]).run P w = .ok (.slice base (sLen + n) sCap) w' := by
  rcases hu with ⟨e', hu⟩ | hu
  · cases base with
    | none =>
      simp only at hst
      simp [Builtin.append_, ha0, ha1, run_underlying ht, run_underlying hu, sizeOf, typeInfo, hi, hn, hx, hfit] 
      injection hst
    | some a =>
      simp only at hst
      simp [Builtin.append_, ha0, ha1, run_underlying ht, run_underlying hu, sizeOf, typeInfo, hi, hn, hx, hfit, hst]
  · cases base with
    | none =>
      simp only at hst
      simp [Builtin.append_, ha0, ha1, run_underlying ht, run_underlying hu, sizeOf, typeInfo, hi, hn, hx, hfit] 
      injection hst
    | some a =>
      simp only at hst
      simp [Builtin.append_, ha0, ha1, run_underlying ht, run_underlying hu, sizeOf, typeInfo, hi, hn, hx, hfit, hst]

theorem run_append_more {w : World} {t u ty e : TypeId} {i : TypeInfo} {z : Value} {base : Option Addr} {sLen sCap n : Nat} {x : Value} {olds news : Array Value} {at_ : Array TypeId} (ha0 : at_[0]? = some t) (ha1 : at_[1]? = some u) (ht : P.underlying t = some (.slice e)) (hu : (∃ e', P.underlying u = some (.slice e')) ∨ P.underlying u = some .string)
    (hi : P.info? e = some i) (hz : i.zero = some z) (hn : ∀ w : World, (Builtin.lenOf x).run P w = .ok n w) (ho : (Builtin.firstCells i.size sLen (.slice base sLen sCap)).run P w.drew = .ok olds w.drew) (hx : (Builtin.firstCells i.size n x).run P w.drew = .ok news w.drew)
    (hg : sCap < sLen + n) (h63 : ((sLen + n : Nat) : Int) ≤ 9223372036854775807) (hfit : Builtin.nextslicecap (sLen + n) sCap * i.bytes ≤ 281474976710656) :
    (Builtin.append_ at_ ty #[.slice base sLen sCap, x]).run P w = .ok (.slice (some ⟨w.heap.size, 0, none⟩) (sLen + n) (grownCap w (sLen + n) sCap e))
        (w.drew.alloc (.cells (olds ++ news ++ Builtin.zeroCells z.cells (grownCap w (sLen + n) sCap e - (sLen + n))) e)) := by
  have hn0 : ¬ (sLen + n ≤ sCap) := by omega
  have h63' : ¬ (9223372036854775807 < ((sLen : Int) + (n : Int))) := by omega
  have h48' : ¬ (281474976710656 < Builtin.nextslicecap (sLen + n) sCap * i.bytes) := by omega
  rcases hu with ⟨e', hu⟩ | hu
  · simp [Builtin.append_, ha0, ha1, run_underlying ht, run_underlying hu, sizeOf, typeInfo, zeroValue, hi, hz, hn, hn0, h63', h48', Question.forced, ho, hx, newRow, grownCap]
  · simp [Builtin.append_, ha0, ha1, run_underlying ht, run_underlying hu, sizeOf, typeInfo, zeroValue, hi, hz, hn, hn0, h63', h48', Question.forced, ho, hx, newRow, grownCap]
end
end Go.Sx

/- What one operation does: append, joined; the slice with a capacity. -/
set_option linter.unusedVariables false
set_option linter.unusedSimpArgs false
namespace Go.Sx

section
variable {P : Program} {pars : Nat} {G : Gh} {w : World} {h : List Ent} {ev : Operand → Value} {o : Oper}

theorem relCell_one {Z : Nat → Prop} : {t : Ty} → {v : Value} → {x : t.den} → RelCell w Z t v x → v.oneCell' = true
  | .int k, v, x, hr => by simp only [RelCell] at hr; subst hr; rfl
  | .bool, v, x, hr => by simp only [RelCell] at hr; subst hr; rfl
  | .str, v, x, hr => by simp only [RelCell] at hr; subst hr; rfl
  | .sl r, v, x, hr => by obtain ⟨_, _, rfl, _⟩ := relCell_sl.1 hr; rfl

theorem relRow_one {Z : Nat → Prop} : (r : Row) → {vs : Array Value} → {oo : Nat} → {x : r.den} → RelRow w Z r vs oo x → ∀ k, k < r.size → ∃ u, vs[oo + k]? = some u ∧ u.oneCell' = true
  | .one t, vs, oo, x, hr, k, hk => by
    simp only [RelRow] at hr
    obtain ⟨v, h1, h2⟩ := hr
    simp only [Row.size] at hk
    have : k = 0 := by omega
    subst this
    exact ⟨v, h1, relCell_one h2⟩
  | .cons t r, vs, oo, x, hr, k, hk => by
    simp only [RelRow] at hr
    obtain ⟨⟨v, h1, h2⟩, h3⟩ := hr
    simp only [Row.size] at hk
    cases k with
    | zero => exact ⟨v, h1, relCell_one h2⟩
    | succ k =>
      obtain ⟨u, p1, p2⟩ := relRow_one r h3 k (by omega)
      exact ⟨u, by rw [show oo + (k + 1) = oo + 1 + k by omega]; exact p1, p2⟩

/-- Rows in an array of their own. -/
structure InRow (w : World) (Z : Nat → Prop) (r : Row) (news : Array Value) (xs : List r.den) : Prop where
  size : news.size = xs.length * r.size
  row : ∀ (i : Nat) (x : r.den), xs[i]? = some x → RelRow w Z r news (i * r.size) x

theorem InRow.one {Z : Nat → Prop} {r : Row} {news : Array Value} {xs : List r.den} (hi : InRow w Z r news xs) : ∀ u ∈ news.toList, u.oneCell' = true := by
  intro u hu
  obtain ⟨j, hj, rfl⟩ := List.getElem_of_mem hu
  rw [Array.length_toList, hi.size] at hj
  have hp := r.size_pos
  have hlt : j / r.size < xs.length := Nat.div_lt_of_lt_mul (by rw [Nat.mul_comm]; exact hj)
  have := hi.row (j / r.size) _ (List.getElem?_eq_getElem hlt)
  obtain ⟨u, p1, p2⟩ := relRow_one r this (j % r.size) (Nat.mod_lt _ hp)
  have e : j / r.size * r.size + j % r.size = j := by rw [Nat.mul_comm]; exact Nat.div_add_mod j r.size
  rw [e] at p1
  rw [Array.getElem_toList]
  rw [Array.getElem?_eq_some_iff] at p1
  obtain ⟨_, p1⟩ := p1
  rw [p1]; exact p2

theorem cell_of_heap {w2 : World} (he : w2.heap = w.heap) (a : Addr) : w2.cell? a = w.cell? a := by
  unfold World.cell?; rw [he]

/-- What a slice holds, read. -/
theorem sl_run {Zt Z : Nat → Prop} {r : Row} {base : Option Addr} {cap : Nat} {xs : List r.den} (hs : RelSl w Zt Z r base cap xs) :
    ∃ news : Array Value, (∀ w2 : World, w2.heap = w.heap → (Builtin.firstCells r.size xs.length (.slice base xs.length cap)).run P w2 = .ok news w2) ∧ InRow w Z r news xs := by
  obtain ⟨hl, hc⟩ := hs
  rcases hc with hc | ⟨a, vs, h1, h2, h3, h4, h5, h6⟩
  · have : xs = [] := List.length_eq_zero_iff.1 (by omega)
    subst this
    refine ⟨#[], fun w2 _ => ?_, ⟨by simp, fun i x hx => by simp at hx⟩⟩
    cases base with
    | none => exact run_firstCells_none w2 _ _ _ _
    | some a => exact run_firstCells_some w2 _ _ a _ _ [] (by simp) (fun j v hj => by simp at hj)
  · subst h1
    have hle : xs.length * r.size ≤ cap * r.size := Nat.mul_le_mul_right _ hl
    have hlen : (vs.extract a.off (a.off + xs.length * r.size)).size = xs.length * r.size := by rw [Array.size_extract]; omega
    have hget : ∀ j, j < xs.length * r.size → (vs.extract a.off (a.off + xs.length * r.size))[j]? = vs[a.off + j]? := fun j hj => by
      rw [Array.getElem?_extract, if_pos (by omega)]
    refine ⟨vs.extract a.off (a.off + xs.length * r.size), fun w2 he => ?_, ⟨hlen, fun i x hx => ?_⟩⟩
    · have := run_firstCells_some (P := P) w2 r.size xs.length a xs.length cap (vs.extract a.off (a.off + xs.length * r.size)).toList (by rw [Array.length_toList, hlen]) (fun j v hj => by
        rw [Array.getElem?_toList] at hj
        have hj' : j < xs.length * r.size := by
          have := (Array.getElem?_eq_some_iff.1 hj).1
          omega
        rw [hget j hj'] at hj
        rw [cell_of_heap he, addr_eta h2, Addr.add_lit, h4.cell]
        exact hj)
      rw [Array.toArray_toList] at this
      exact this
    · refine RelRow.alike r (fun j hj => ?_) (h6 i x hx)
      have hlt : i < xs.length := (List.getElem?_eq_some_iff.1 hx).1
      have := Nat.mul_le_mul_right r.size hlt
      rw [Nat.succ_mul] at this
      rw [hget _ (by omega), Nat.add_assoc]

/-- What comes behind, read. -/
theorem behind_run {q : Nat → Ent} {r : Row} {v : Value} {yv : TV} {xs : List r.den} (hh : RelH G w h) (hq : ∀ n, q n ≠ .gone → h[n]? = some (q n)) (hy : RelTV G w h v yv) (hs : behindOf q r yv = some xs) :
    ∃ news : Array Value, (∀ w2 : World, w2.heap = w.heap → (Builtin.lenOf v).run P w2 = .ok xs.length w2 ∧ (Builtin.firstCells r.size xs.length v).run P w2 = .ok news w2) ∧ InRow w (fun b => G.zone b = .frz) r news xs := by
  have fin : ∀ {b : BV} {r' : Row} {ys : List r'.den}, RelB G w h v b → heldOf q b = some ⟨r', ys⟩ →
      ∃ news : Array Value, (∀ w2 : World, w2.heap = w.heap → (Builtin.lenOf v).run P w2 = .ok ys.length w2 ∧ (Builtin.firstCells r'.size ys.length v).run P w2 = .ok news w2) ∧ InRow w (fun b => G.zone b = .frz) r' news ys := by
    intro b r' ys hb hd
    obtain ⟨base, cap, hv, h3⟩ := held_rel hh hq hb hd
    obtain ⟨news, p1, p2⟩ := sl_run (P := P) h3
    exact ⟨news, fun w2 he => ⟨by rw [hv]; rfl, by rw [hv]; exact p1 w2 he⟩, p2⟩
  unfold behindOf at hs
  split at hs
  · rename_i s
    split at hs
    · rename_i e
      subst e
      have hs := Option.some.inj hs
      subst hs
      have hv := bv_str hy
      subst hv
      refine ⟨s.data.map (fun b => Value.int .u8 b.toNat), fun w2 _ => ⟨?_, ?_⟩, ⟨?_, fun i (x : Int) hx => ?_⟩⟩
      · show (Builtin.lenOf (.string s)).run P w2 = .ok (bytesI s).length w2
        rw [bytesI_length]; rfl
      · show (Builtin.firstCells 1 (bytesI s).length (.string s)).run P w2 = _
        rw [bytesI_length]
        simp only [Builtin.firstCells, Sem.run_pure]
        congr 1
        have : s.extract 0 s.size = s := by
          apply ByteArray.ext
          rw [ByteArray.data_extract]
          exact Array.extract_size
        rw [this]
      · show (s.data.map _).size = (bytesI s).length * 1
        rw [bytesI_length, Nat.mul_one, Array.size_map]; rfl
      · have hx : (bytesI s)[i]? = some x := hx
        simp only [RelRow, RelCell, Row.size, Nat.mul_one]
        refine ⟨_, ?_, rfl⟩
        unfold bytesI at hx
        rw [List.getElem?_map, Array.getElem?_toList] at hx
        rw [Array.getElem?_map]
        cases hq : s.data[i]? with
        | none => rw [hq] at hx; cases hx
        | some b =>
          rw [hq] at hx
          simp only [Option.map_some, Option.some.injEq] at hx
          subst hx; rfl
    · cases hs
  · rename_i b hns
    cases hd : heldOf q b with
    | none => rw [hd] at hs; cases hs
    | some d =>
      obtain ⟨r', ys⟩ := d
      rw [hd] at hs
      simp only at hs
      split at hs
      · rename_i e
        subst e
        have hs := Option.some.inj hs
        subst hs
        exact fin hy hd
      · cases hs
  · cases hs

theorem inRow_append {Z : Nat → Prop} {r : Row} {olds news : Array Value} {xs ys : List r.den} (h1 : InRow w Z r olds xs) (h2 : InRow w Z r news ys) : InRow w Z r (olds ++ news) (xs ++ ys) := by
  refine ⟨by rw [Array.size_append, h1.size, h2.size, List.length_append, Nat.add_mul], fun i x hx => ?_⟩
  by_cases hi : i < xs.length
  · rw [List.getElem?_append_left hi] at hx
    refine RelRow.alike r (fun j hj => ?_) (h1.row i x hx)
    have := Nat.mul_le_mul_right r.size hi
    rw [Nat.succ_mul] at this
    rw [Array.getElem?_append_left (by rw [h1.size]; omega)]
  · rw [List.getElem?_append_right (by omega)] at hx
    refine RelRow.alike r (fun j hj => ?_) (h2.row _ x hx)
    have e : i * r.size = xs.length * r.size + (i - xs.length) * r.size := by rw [← Nat.add_mul]; congr 1; omega
    rw [Array.getElem?_append_right (by rw [h1.size]; omega), h1.size]
    congr 1; omega

theorem inRow_more {Z : Nat → Prop} {r : Row} {news more : Array Value} {xs : List r.den} (h1 : InRow w Z r news xs) (i : Nat) (x : r.den) (hx : xs[i]? = some x) : RelRow w Z r (news ++ more) (i * r.size) x := by
  refine RelRow.alike r (fun j hj => ?_) (h1.row i x hx)
  have hi : i < xs.length := (List.getElem?_eq_some_iff.1 hx).1
  have := Nat.mul_le_mul_right r.size hi
  rw [Nat.succ_mul] at this
  rw [Array.getElem?_append_left (by rw [h1.size]; omega)]

/-- A row of its own goes on under its name, elsewhere perhaps. -/
theorem done_own {n : Nat} {a : Arr} {rows' : List a.row.den} {base' : Option Addr} {cap' : Nat} {w' : World} (hh : RelH G w h) (hn : h[n]? = some (.arr a)) (hown : a.own = true)
    (hsize : w.heap.size ≤ w'.heap.size) (hos : w'.os = w.os) (ht : w'.tape = w.tape) (hu : w'.output = w.output) (hold : ∀ b, b < w.heap.size → G.zone b ≠ .top n → w'.heap[b]? = w.heap[b]?)
    (hth : ∀ b, (b < w.heap.size → G.zone b = .top n) → ∀ vs, Blk w' b vs → ∀ i, i < vs.size → w'.frozen? ⟨b, i, none⟩ = false)
    (hr : RelSl w' (fun b => b < w.heap.size → G.zone b = .top n) (fun b => b < w.heap.size ∧ G.zone b = .frz) a.row base' cap' rows') (hcl : CleanAt w' a.row base' cap') :
    Done pars G w h { val := .c (.v (.ref n)), kills := [n], sets := [(n, .arr (.mk' true a.row rows'))] } (.slice base' rows'.length cap') w' := by
  have hlt : n < h.length := by
    rcases Nat.lt_or_ge n h.length with h1 | h1
    · exact h1
    · rw [List.getElem?_eq_none h1] at hn; cases hn
  have hget : (newHeap h { val := .c (.v (.ref n)), kills := [n], sets := [(n, Ent.arr (.mk' true a.row rows'))] })[n]? = some (.arr (.mk' true a.row rows')) := by
    unfold newHeap
    refine setAll_mem _ _ (n, Ent.arr (.mk' true a.row rows')) (by simp) (by simp) ?_
    have := newHeap_length h { val := .c (.v (.ref n)), kills := [n], sets := [(n, Ent.arr (.mk' true a.row rows'))] }
    unfold newHeap at this
    rw [setAll_length] at this
    rw [this]; exact hlt
  let G' : Gh := { G with zone := fun b => if b < w.heap.size then G.zone b else .top n, base := updF G.base n base', cap := updF G.cap n cap' }
  have tr : Trans [n] (fun m => m = n) G w h G' w' (newHeap h { val := .c (.v (.ref n)), kills := [n], sets := [(n, Ent.arr (.mk' true a.row rows'))] }) := by
    refine ⟨⟨hsize, hos, ht, hu, fun b hb hz => ⟨by simp only [G', if_pos hb]; exact hz, hold b hb (by rw [hz]; simp)⟩, fun b hb hz => ⟨by simp only [G', if_pos hb]; exact hz, hold b hb (by rw [hz]; simp)⟩⟩, fun m b hm hb hz => ⟨by simp only [G', if_pos hb], hold b hb ?_⟩, fun m hm => ?_, fun m hm => by simpa using hm, fun m hm => ?_, fun m a hT hk _ => ?_, fun m cs hT hk _ => ?_, fun b hz hz' vs hb i hi => ?_⟩
    · intro e
      rcases hz with hz | hz <;> rw [e] at hz
      · injection hz with hz; exact hm hz.symm
      · cases hz
    · simp only [G']
      rw [updF_ne _ _ hm, updF_ne _ _ hm]
      simp
    · exact newHeap_other rfl (by simpa using hm) (by intro x hx e; simp only [List.mem_singleton] at hx; subst hx; exact hm e.symm)
    · subst hT; simp at hk
    · subst hT; simp at hk
    · by_cases hbl : b < w.heap.size
      · simp only [G', if_pos hbl] at hz hz'
        by_cases ht : G.zone b = .top n
        · exact hth b (fun _ => ht) vs hb i hi
        · have h1 := hold b hbl ht
          have := hh.thaw b hz hz' vs (hb.same h1.symm) i hi
          unfold World.frozen? at *
          rw [h1]; exact this
      · exact hth b (fun e => absurd e hbl) vs hb i hi
  refine ⟨G', _, tr, fun m e hT hm => ?_, ⟨.mk' true a.row rows', hget, by simp [G', updF_same, Arr.mk']⟩, fun _ _ => rfl, fun m a0 hT hm hf => ?_, fun m a0 hT ha0 h0 => ?_⟩
  · subst hT
    rw [hget] at hm
    injection hm with hm
    subst hm
    refine ⟨⟨rfl, fun _ => by simp only [G', updF_same]; exact hcl⟩, fun hv => (by simp [Arr.mk'] at hv), ?_⟩
    simp only [G', updF_same]
    refine hr.mono (fun b hb hz => ⟨?_, rfl⟩) (fun b hb hz => ⟨?_, rfl⟩)
    · by_cases hbl : b < w.heap.size
      · simp only [ZArr, if_pos hbl, Arr.mk', if_true]; exact hz hbl
      · simp only [ZArr, if_neg hbl, Arr.mk', if_true]
    · simp only [if_pos hz.1]; exact hz.2
  · subst hT
    rw [hget] at hm
    injection hm with hm
    injection hm with hm
    subst hm
    cases hf
  · subst hT
    rw [hn] at ha0
    injection ha0 with ha0
    injection ha0 with ha0
    subst ha0
    rw [hown] at h0
    cases h0

/-- A row of no element under a name of its own. -/
theorem done_empty {nm : Nat} {r : Row} {base : Option Addr} (hh : RelH G w h) (hf : h[nm]? = some .gone) (hp : pars ≤ nm) {cap : Nat} (hc : cap = 0) {rows : List r.den} (hrows : rows = []) :
    Done pars G w h { val := .c (.v (.ref nm)), sets := [(nm, .arr (.mk' true r rows))] } (.slice base 0 cap) w := by
  subst hrows hc
  have hlt : nm < h.length := by
    rcases Nat.lt_or_ge nm h.length with h1 | h1
    · exact h1
    · rw [List.getElem?_eq_none h1] at hf; cases hf
  have hget : (newHeap h { val := .c (.v (.ref nm)), sets := [(nm, Ent.arr (.mk' true r []))] })[nm]? = some (.arr (.mk' true r [])) := setAll_mem _ _ (nm, Ent.arr (.mk' true r [])) (by simp) (by simp) hlt
  refine done_fresh0 (G' := { G with base := updF G.base nm base, cap := updF G.cap nm 0 }) hh (by simp) (by simpa using hf) (by simpa using hp) (Nat.le_refl _) rfl rfl rfl (fun _ _ => rfl) (fun _ _ => rfl) (fun n hn => ?_) (fun b hb vs hv => absurd hv.lt (by omega)) (fun n a hm => ?_) (fun _ n e hm => ?_) (fun tr => ?_)
  · have h1 : n ≠ nm := fun e => hn _ List.mem_cons_self e.symm
    simp only
    rw [updF_ne _ _ h1, updF_ne _ _ h1]
    simp
  · simp only [List.mem_singleton, Prod.mk.injEq, Ent.arr.injEq] at hm
    rw [hm.2]; rfl
  · simp only [List.mem_singleton, Prod.mk.injEq] at hm
    obtain ⟨rfl, rfl⟩ := hm
    refine ⟨⟨rfl, fun _ _ hc => (hc (by simp only [updF_same])).elim⟩, fun hv => (by simp [Arr.mk'] at hv), ?_⟩
    simp only [updF_same]
    exact ⟨by simp [Arr.mk'], .inl rfl⟩
  · exact ⟨.mk' true r [], hget, by simp [updF_same, Arr.mk']⟩
end
end Go.Sx

/- What one operation does: append, joined; the slice with a capacity. -/
set_option linter.unusedVariables false
set_option linter.unusedSimpArgs false
namespace Go.Sx

section
variable {P : Program} {pars : Nat} {G : Gh} {w : World} {h : List Ent} {ev : Operand → Value} {o : Oper}

theorem own_slice {n : Nat} {a : Arr} (hh : RelH G w h) (hn : h[n]? = some (.arr a)) (ho : a.own = true) : RelSl w (fun b => G.zone b = .top n) (fun b => G.zone b = .frz) a.row (G.base n) (G.cap n) a.rows := by
  have := (relArr_of hh hn).2.2
  unfold ZArr at this
  simpa only [ho, if_true] using this

theorem sub_sl {Zt Z : Nat → Prop} {r : Row} {base : Option Addr} {cap lo len : Nat} {rows : List r.den} {bb : Option Addr} (hs : RelSl w Zt Z r base cap rows) (hle : lo + len ≤ rows.length) (hb : cap ≠ lo → bb = base.map (·.add (lo * r.size))) :
    RelSl w Zt Z r bb (cap - lo) ((rows.drop lo).take len) := by
  obtain ⟨h3, h4⟩ := hs
  have hlen : ((rows.drop lo).take len).length = len := by rw [List.length_take, List.length_drop]; omega
  refine ⟨by rw [hlen]; omega, ?_⟩
  by_cases hc : cap = lo
  · exact .inl (by omega)
  · rcases h4 with h4 | ⟨ad, vs, p1, p2, p3, p4, p5, p6⟩
    · omega
    · refine .inr ⟨⟨ad.block, ad.off + lo * r.size, none⟩, vs, ?_, rfl, p3, p4, ?_, fun i y hy => ?_⟩
      · rw [hb hc, p1]
        simp only [Option.map_some, Option.some.injEq]
        rw [addr_eta p2, Addr.add_lit]
      · have : ad.off + lo * r.size + (cap - lo) * r.size = ad.off + cap * r.size := by
          rw [Nat.add_assoc, ← Nat.add_mul, Nat.add_sub_cancel' (by omega)]
        show ad.off + lo * r.size + (cap - lo) * r.size ≤ vs.size
        omega
      · rw [List.getElem?_take, List.getElem?_drop] at hy
        split at hy
        · have := p6 _ _ hy
          rw [Nat.add_mul, ← Nat.add_assoc] at this
          exact this
        · cases hy

theorem le_cap_bytes {n c b : Nat} (hn : c < n) (hm : n ≤ most) (hb : b ≤ 1024) : Builtin.nextslicecap n c * b ≤ 281474976710656 := by
  refine growslice_fits hn ?_
  have : n * b ≤ 4294967296 * 1024 := Nat.mul_le_mul hm hb
  omega

theorem lenOf_any {x : Value} {n : Nat} (h1 : (Builtin.lenOf x).run P w = .ok n w) (w2 : World) : (Builtin.lenOf x).run P w2 = .ok n w2 := by
  cases x <;> first | (simp [Builtin.lenOf] at h1 ⊢; exact h1) | (simp [Builtin.lenOf] at h1)

theorem sub_clean {Zt Z : Nat → Prop} {r : Row} {base : Option Addr} {cap lo : Nat} {rows : List r.den} {bb : Option Addr} (hs : RelSl w Zt Z r base cap rows) (h : CleanAt w r base cap) (hb : cap ≠ lo → bb = base.map (·.add (lo * r.size))) : CleanAt w r bb (cap - lo) := by
  intro hr hc ad vs hbb hv
  rcases hs.2 with h0 | ⟨a, vs', p1, p2, p3, p4, _⟩
  · omega
  · have := hb (by omega)
    rw [this, p1] at hbb
    simp only [Option.map_some, Option.some.injEq] at hbb
    have e : ad.block = a.block := by rw [← hbb, addr_eta p2, Addr.add_lit]
    rw [e] at hv ⊢
    exact h hr (by omega) a vs p1 hv

/-- append, onto a row of its own. -/
theorem append_core {t u e ty : TypeId} {i : TypeInfo} {z : Value} {at_ : Array TypeId} {n : Nat} {r : Row} {base : Option Addr} {cap : Nat} {rows xs : List r.den} {x : Value} {news : Array Value}
    (hh : RelH G w h) (ha0 : at_[0]? = some t) (ha1 : at_[1]? = some u) (ht : P.underlying t = some (.slice e)) (hu : (∃ e', P.underlying u = some (.slice e')) ∨ P.underlying u = some .string)
    (hi : P.info? e = some i) (hz : i.zero = some z) (hsz : i.size = r.size) (hzs : z.cells.size = r.size) (hby : i.bytes ≤ 1024)
    (hs : RelSl w (fun b => G.zone b = .top n) (fun b => G.zone b = .frz) r base cap rows) (hcl : CleanAt w r base cap)
    (hx : ∀ w2 : World, w2.heap = w.heap → (Builtin.lenOf x).run P w2 = .ok xs.length w2 ∧ (Builtin.firstCells r.size xs.length x).run P w2 = .ok news w2) (hin : InRow w (fun b => G.zone b = .frz) r news xs) (hm : rows.length + xs.length ≤ most) :
    ∃ base' cap' w', (Builtin.append_ at_ ty #[.slice base rows.length cap, x]).run P w = .ok (.slice base' (rows ++ xs).length cap') w' ∧
      w.heap.size ≤ w'.heap.size ∧ w'.os = w.os ∧ w'.tape = w.tape ∧ w'.output = w.output ∧ (∀ b, b < w.heap.size → G.zone b ≠ .top n → w'.heap[b]? = w.heap[b]?) ∧
      (∀ b, (b < w.heap.size → G.zone b = .top n) → ∀ vs, Blk w' b vs → ∀ i, i < vs.size → w'.frozen? ⟨b, i, none⟩ = false) ∧
      RelSl w' (fun b => b < w.heap.size → G.zone b = .top n) (fun b => b < w.heap.size ∧ G.zone b = .frz) r base' cap' (rows ++ xs) ∧ CleanAt w' r base' cap' := by
  have hoth : ∀ b, (b < w.heap.size → G.zone b = .top n) → ∀ vs, Blk w b vs → ∀ i, i < vs.size → w.frozen? ⟨b, i, none⟩ = false := fun b hb vs hv i hi => hh.thaw b (by rw [hb hv.lt]; simp) (by rw [hb hv.lt]; simp) vs hv i hi
  by_cases hfit : rows.length + xs.length ≤ cap
  · obtain ⟨hl, hc⟩ := hs
    rcases hc with hc | ⟨a, vs, p1, p2, p3, p4, p5, p6⟩
    · have hx0 : xs = [] := List.length_eq_zero_iff.1 (by omega)
      have hr0 : rows = [] := List.length_eq_zero_iff.1 (by omega)
      subst hx0 hr0 hc
      have hn0 : news = #[] := Array.eq_empty_of_size_eq_zero (by rw [hin.size]; simp)
      subst hn0
      refine ⟨base, 0, w, ?_, Nat.le_refl _, rfl, rfl, rfl, fun _ _ _ => rfl, hoth, ⟨by simp, .inl rfl⟩, fun _ h => absurd rfl h⟩
      exact run_append_fit ha0 ha1 ht hu hi (hx w rfl).1 (by rw [hsz]; exact (hx w rfl).2) (by simp) (by cases base <;> rfl)
    · subst p1
      have hle : rows.length * r.size + xs.length * r.size ≤ cap * r.size := by rw [← Nat.add_mul]; exact Nat.mul_le_mul_right _ hfit
      have hnl : news.toList.length = xs.length * r.size := by rw [Array.length_toList, hin.size]
      have hth := hh.thaw a.block (by rw [p3]; simp) (by rw [p3]; simp) vs p4
      have hst := run_storeCells_cells (P := P) a.block (a.off + rows.length * r.size) news.toList 0 w (fun j hj => by
          rw [p4.cell, Array.getElem?_eq_getElem (by omega)]; rfl) (fun j hj => hth _ (by omega)) hin.one
      rw [Nat.add_zero] at hst
      have hb4 := p4
      obtain ⟨te, fr, hb'⟩ := p4
      obtain ⟨vs', c1, c2, c3⟩ := setCells_blk news.toList (a.off + rows.length * r.size) w vs hb' (by omega)
      obtain ⟨s1, s2, s3, s4⟩ := setCells_same a.block news.toList (a.off + rows.length * r.size) w
      refine ⟨some a, cap, w.setCells a.block (a.off + rows.length * r.size) news.toList, ?_, by rw [s4]; exact Nat.le_refl _, s1, s2, s3, fun b hb hz => setCells_far _ _ _ (fun e => hz (e ▸ p3)), fun b hb vs2 hv i hi => ?_, ?_, fun hr hc ad vs2 hb hv => ?_⟩
      rotate_left 3
      · injection hb with hb
        subst hb
        obtain ⟨_, _, hv⟩ := hv
        rw [c1] at hv
        injection hv with hv
        injection hv with hv
        subst hv
        rw [World.frozen?_setCells, c2]
        exact hcl hr hc a vs rfl hb4
      · rw [List.length_append]
        refine run_append_fit ha0 ha1 ht hu hi (hx w rfl).1 (by rw [hsz]; exact (hx w rfl).2) hfit ?_
        simp only [hsz]
        rw [addr_eta p2, Addr.add_lit]
        exact hst
      · rw [World.frozen?_setCells]
        by_cases hbb : b = a.block
        · subst hbb
          obtain ⟨_, _, hv⟩ := hv
          rw [c1] at hv
          injection hv with hv
          injection hv with hv
          subst hv
          exact hth i (by rw [c2] at hi; exact hi)
        · have h1 := setCells_far (g := a.block) news.toList (a.off + rows.length * r.size) (w := w) b hbb
          exact hoth b hb vs2 (hv.same h1.symm) i hi
      · refine ⟨by rw [List.length_append]; exact hfit, .inr ⟨a, vs', rfl, p2, fun _ => p3, ⟨te, fr, c1⟩, by rw [c2]; exact p5, fun i x hx' => ?_⟩⟩
        have hmono : ∀ {vs2 : Array Value} {oo : Nat} {y : r.den}, RelRow w (fun b => G.zone b = .frz) r vs2 oo y → RelRow (w.setCells a.block (a.off + rows.length * r.size) news.toList) (fun b => b < w.heap.size ∧ G.zone b = .frz) r vs2 oo y := fun hr =>
          RelRow.mono (fun b hb hz => ⟨hb, hz⟩) (fun b hb hz => setCells_far _ _ _ (fun e => by subst e; rw [p3] at hz; cases hz)) _ _ _ _ hr
        by_cases hlt : i < rows.length
        · rw [List.getElem?_append_left hlt] at hx'
          refine RelRow.alike r (fun j hj => ?_) (hmono (p6 i x hx'))
          have := Nat.mul_le_mul_right r.size hlt
          rw [Nat.succ_mul] at this
          rw [c3, if_neg (by omega)]
        · rw [List.getElem?_append_right (by omega)] at hx'
          have hlt2 : i - rows.length < xs.length := (List.getElem?_eq_some_iff.1 hx').1
          refine RelRow.alike r (fun j hj => ?_) (hmono (hin.row _ x hx'))
          have e1 : i * r.size = rows.length * r.size + (i - rows.length) * r.size := by rw [← Nat.add_mul]; congr 1; omega
          have := Nat.mul_le_mul_right r.size hlt2
          rw [Nat.succ_mul] at this
          rw [c3, if_pos (by omega), Array.getElem?_toList]
          congr 1; omega
  · obtain ⟨olds, o1, o2⟩ := sl_run (P := P) hs
    have hrun := run_append_more (ty := ty) (w := w) ha0 ha1 ht hu hi hz (x := x) (lenOf_any (hx w rfl).1) (by rw [hsz]; exact o1 w.drew rfl) (by rw [hsz]; exact (hx w.drew rfl).2) (by omega : cap < rows.length + xs.length) (by have : most = 4294967296 := rfl; omega) (le_cap_bytes (by omega) hm hby)
    have hge := grownCap_ge w (rows.length + xs.length) cap e
    have hio := inRow_append o2 hin
    refine ⟨some ⟨w.heap.size, 0, none⟩, grownCap w (rows.length + xs.length) cap e, w.drew.alloc (.cells (olds ++ news ++ Builtin.zeroCells z.cells (grownCap w (rows.length + xs.length) cap e - (rows.length + xs.length))) e), by rw [List.length_append]; exact hrun, by rw [alloc_size]; exact Nat.le_succ _, rfl, rfl, rfl, fun b hb _ => alloc_old w.drew _ hb, fun b hb vs hv i hi => ?_, ?_, fun _ _ ad vs hb hv => ?_⟩
    rotate_left 2
    · injection hb with hb
      subst hb
      unfold World.frozen?
      simp only [show (w.drew.alloc (.cells (olds ++ news ++ Builtin.zeroCells z.cells (grownCap w (rows.length + xs.length) cap e - (rows.length + xs.length))) e)).heap[w.heap.size]? = _ from alloc_new w.drew _]
      simp
    · rcases Nat.lt_or_ge b w.heap.size with h1 | h1
      · have h2 := alloc_old w.drew (.cells (olds ++ news ++ Builtin.zeroCells z.cells (grownCap w (rows.length + xs.length) cap e - (rows.length + xs.length))) e) (b := b) h1
        have := hoth b hb vs (hv.same h2.symm) i hi
        unfold World.frozen? at *
        rw [h2]; exact this
      · exact alloc_thaw w.drew _ e (0, 0) (by intro i _; simp) b h1 vs hv i hi
    · refine ⟨by rw [List.length_append]; exact hge, .inr ⟨⟨w.heap.size, 0, none⟩, _, rfl, rfl, fun hb => absurd hb (Nat.lt_irrefl _), ⟨e, (0, 0), alloc_new w.drew _⟩, ?_, fun i x hx' => ?_⟩⟩
      · show 0 + _ ≤ _
        rw [Nat.zero_add, Array.size_append, hio.size, List.length_append]
        have : (Builtin.zeroCells z.cells (grownCap w (rows.length + xs.length) cap e - (rows.length + xs.length))).size = (grownCap w (rows.length + xs.length) cap e - (rows.length + xs.length)) * r.size := by
          simp [Builtin.zeroCells, hzs]
        rw [this, ← Nat.add_mul]
        exact Nat.mul_le_mul_right _ (by omega)
      · show RelRow _ _ r _ (0 + i * r.size) x
        rw [Nat.zero_add]
        exact RelRow.mono (w := w) (fun b hb hz => ⟨hb, hz⟩) (fun b hb hz => alloc_old w.drew _ hb) _ _ _ _ (inRow_more hio i x hx')

theorem op_append {t u : TypeId} {x y : Operand} {at_ : Array TypeId} {nm : Nat} {q : Nat → Ent} {g : Bool} {δ : Delta} {xv yv : TV} (ho : o.op = .call { callee := .builtin .append, args := #[x, y], argTypes := at_ })
    (ha0 : at_[0]? = some t) (ha1 : at_[1]? = some u) (hu : (∃ e', P.underlying u = some (.slice e')) ∨ P.underlying u = some .string) (hh : RelH G w h) (hq : ∀ n, q n ≠ .gone → h[n]? = some (q n))
    (hx : RelTV G w h (ev x) xv) (hy : RelTV G w h (ev y) yv) (hf : h[nm]? = some .gone) (hp : pars ≤ nm) (hs : appendD P nm t q xv yv = some (g, δ)) (hg : g = true) : OpOk P pars G w h ev o δ := by
  subst hg
  have fin : ∀ {v : Value} {w' : World}, (Builtin.append_ at_ o.type #[ev x, ev y]).run P w = .ok v w' → (execOp ev o).run P w = .ok (.value v) w' := by
    intro v w' hr
    simp [execOp, ho, resolve, invoke, builtin, hr]
  unfold appendD at hs
  split at hs
  · rename_i b
    cases he : elemOfB P t with
    | none => rw [he] at hs; cases hs
    | some e =>
      rw [he] at hs
      simp only at hs
      have ht := elemOf_some he
      cases hby : Nat.ble ((P.info? e).elim 1000000 (·.bytes)) 1024 with
      | false => rw [hby] at hs; cases hs
      | true =>
        rw [hby] at hs
        simp only [cond_true] at hs
        split at hs
        · rename_i n
          cases hn : q n <;> rw [hn] at hs <;> simp only [reduceCtorEq] at hs
          rename_i a
          have harr := hq n (by rw [hn]; simp)
          rw [hn] at harr
          cases hc : (a.own && a.plain && zeroSz P e a.row.size) with
          | false => rw [hc] at hs; cases hs
          | true =>
            rw [hc] at hs
            simp only [cond_true] at hs
            simp only [Bool.and_eq_true] at hc
            obtain ⟨⟨k0, k1⟩, k2⟩ := hc
            obtain ⟨i, z, i1, i2, i3, i4⟩ := zeroSz_spec k2
            have hbytes := elim_spec i1 hby
            obtain ⟨a', ha', hv⟩ := hx
            rw [harr] at ha'
            injection ha' with ha'
            injection ha' with ha'
            subst ha'
            cases hb : behindOf q a.row yv with
            | none => rw [hb] at hs; cases hs
            | some xs =>
              rw [hb] at hs
              simp only at hs
              obtain ⟨news, b1, b2⟩ := behind_run (P := P) hh hq hy hb
              have hsl := own_slice hh harr k0
              cases hvt : a.virt with
              | true =>
                rw [hvt] at hs
                simp only [cond_true, Option.some.injEq, Prod.mk.injEq, decide_eq_true_eq] at hs
                obtain ⟨hm, rfl⟩ := hs
                have hcap := (relArr_of hh harr).2.1 hvt
                have hr0 : a.rows = [] := List.length_eq_zero_iff.1 (by have := hsl.1; omega)
                rcases xs with _ | ⟨x0, xs⟩
                · have hn0 : news = #[] := Array.eq_empty_of_size_eq_zero (by rw [b2.size]; simp)
                  subst hn0
                  have hrun := run_append_fit (w := w) (base := G.base n) (sLen := 0) (sCap := 0) (n := 0) (x := ev y) (news := #[]) (ty := o.type) (w' := w) ha0 ha1 ht hu i1 (b1 w rfl).1 (by rw [i4]; exact (b1 w rfl).2) (Nat.le_refl _) (by cases G.base n <;> rfl)
                  refine ⟨_, w, .inl (fin (v := .slice (G.base n) (0 + 0) 0) ?_), ?_⟩
                  · rw [hv, hr0, hcap]
                    exact hrun
                  · exact done_empty hh hf hp rfl (by rw [hr0]; rfl)
                · have hge := grownCap_ge w (0 + (x0 :: xs).length) 0 e
                  have hrun := run_append_more (w := w) (base := G.base n) (sLen := 0) (sCap := 0) (x := ev y) (ty := o.type) (olds := #[]) (news := news) ha0 ha1 ht hu i1 i2 (n := (x0 :: xs).length) (lenOf_any (b1 w rfl).1) (by
                      obtain ⟨olds, o1, o2⟩ := sl_run (P := P) hsl
                      have := o1 w.drew rfl
                      have hl : olds = #[] := Array.eq_empty_of_size_eq_zero (by rw [o2.size, hr0]; simp)
                      rw [hr0, hcap, hl] at this
                      rw [i4]; exact this) (by rw [i4]; exact (b1 w.drew rfl).2) (by simp) (by have : most = 4294967296 := rfl; rw [hr0] at hm; simp only [List.length_nil] at hm; omega) (le_cap_bytes (by simp) (by rw [hr0] at hm; simpa using hm) hbytes)
                  refine ⟨_, _, .inl (fin (by rw [hv, hr0, hcap]; exact hrun)), ?_⟩
                  have hd := done_newrow (pars := pars) (r := a.row) (rows := a.rows ++ (x0 :: xs)) (cells := #[] ++ news ++ Builtin.zeroCells z.cells (grownCap w (0 + (x0 :: xs).length) 0 e - (0 + (x0 :: xs).length))) (e := e) (fr := (0, 0)) (cap := grownCap w (0 + (x0 :: xs).length) 0 e) (nm := nm) (g := []) (q := fun _ => .gone)
                    (w' := w.drew.alloc (.cells (#[] ++ news ++ Builtin.zeroCells z.cells (grownCap w (0 + (x0 :: xs).length) 0 e - (0 + (x0 :: xs).length))) e)) hh (fun _ e => absurd rfl e) (fun m hm => by cases hm) rfl rfl rfl rfl (by intro i _; simp) (by intro _; simp) (by rw [hr0]; simpa using hge) ?_ hf hp (fun j y' hj => ?_)
                  · have e1 : (a.rows ++ (x0 :: xs)).length = 0 + (x0 :: xs).length := by rw [hr0]; simp
                    rw [e1] at hd
                    exact hd
                  · rw [Array.size_append, Array.size_append, b2.size]
                    have : (Builtin.zeroCells z.cells (grownCap w (0 + (x0 :: xs).length) 0 e - (0 + (x0 :: xs).length))).size = (grownCap w (0 + (x0 :: xs).length) 0 e - (0 + (x0 :: xs).length)) * a.row.size := by
                      simp [Builtin.zeroCells, i3]
                    rw [this]
                    simp only [Array.size_empty, Nat.zero_add]
                    simp only [Nat.zero_add] at hge
                    rw [← Nat.add_mul]
                    exact Nat.mul_le_mul_right _ (by omega)
                  · rw [hr0] at hj
                    have h2 : InRow w (GZ G []) a.row (#[] ++ news) (x0 :: xs) := by
                      rw [Array.empty_append]
                      exact ⟨b2.size, fun i x hx => RelRow.mono (fun _ _ hz => .inl hz) (fun _ _ _ => rfl) _ _ _ _ (b2.row i x hx)⟩
                    exact inRow_more h2 j y' (by simpa using hj)
              | false =>
                rw [hvt] at hs
                simp only [cond_false, Option.some.injEq, Prod.mk.injEq, decide_eq_true_eq] at hs
                obtain ⟨hm, rfl⟩ := hs
                obtain ⟨base', cap', w', r1, r2, r3, r4, r5, r6, r7, r8, r9⟩ := append_core (ty := o.type) hh ha0 ha1 ht hu i1 i2 i4 i3 hbytes hsl ((relArr_of hh harr).1.2 k0) b1 b2 hm
                exact ⟨_, w', .inl (fin (by rw [hv]; exact r1)), done_own hh harr k0 r2 r3 r4 r5 r6 r7 r8 r9⟩
        · rename_i n lo len
          cases hn : q n <;> rw [hn] at hs <;> simp only [reduceCtorEq] at hs
          rename_i a
          have harr := hq n (by rw [hn]; simp)
          rw [hn] at harr
          cases hc : (a.own && a.plain && zeroSz P e a.row.size) with
          | false => rw [hc] at hs; cases hs
          | true =>
            rw [hc] at hs
            simp only [cond_true] at hs
            simp only [Bool.and_eq_true] at hc
            obtain ⟨⟨k0, k1⟩, k2⟩ := hc
            obtain ⟨i, z, i1, i2, i3, i4⟩ := zeroSz_spec k2
            have hbytes := elim_spec i1 hby
            obtain ⟨a', bb, ha', hle, hv, hbb⟩ := hx
            rw [harr] at ha'
            injection ha' with ha'
            injection ha' with ha'
            subst ha'
            cases hb : behindOf q a.row yv with
            | none => rw [hb] at hs; cases hs
            | some xs =>
              rw [hb] at hs
              simp only [Option.some.injEq, Prod.mk.injEq, decide_eq_true_eq] at hs
              obtain ⟨hm, rfl⟩ := hs
              obtain ⟨news, b1, b2⟩ := behind_run (P := P) hh hq hy hb
              have hsl0 := own_slice hh harr k0
              have hsl := sub_sl hsl0 hle hbb
              have hlen : ((a.rows.drop lo).take len).length = len := by rw [List.length_take, List.length_drop]; omega
              obtain ⟨base', cap', w', r1, r2, r3, r4, r5, r6, r7, r8, r9⟩ := append_core (ty := o.type) hh ha0 ha1 ht hu i1 i2 i4 i3 hbytes hsl (sub_clean hsl0 ((relArr_of hh harr).1.2 k0) hbb) b1 b2 (by rw [hlen]; exact hm)
              exact ⟨_, w', .inl (fin (by rw [hv]; rw [hlen] at r1; exact r1)), done_own hh harr k0 r2 r3 r4 r5 r6 r7 r8 r9⟩
        · rename_i r
          cases hc : zeroSz P e r.size with
          | false => rw [hc] at hs; cases hs
          | true =>
            rw [hc] at hs
            simp only [cond_true] at hs
            obtain ⟨i, z, i1, i2, i3, i4⟩ := zeroSz_spec hc
            have hbytes := elim_spec i1 hby
            obtain ⟨base, hv⟩ := hx
            cases hb : behindOf q r yv with
            | none => rw [hb] at hs; cases hs
            | some xs =>
              rw [hb] at hs
              simp only [Option.some.injEq, Prod.mk.injEq, decide_eq_true_eq] at hs
              obtain ⟨hm, rfl⟩ := hs
              obtain ⟨news, b1, b2⟩ := behind_run (P := P) hh hq hy hb
              have hsl : RelSl w (fun _ => True) (fun b => G.zone b = .frz) r base 0 ([] : List r.den) := ⟨Nat.le_refl _, .inl rfl⟩
              rcases xs with _ | ⟨x0, xs⟩
              · have hn0 : news = #[] := Array.eq_empty_of_size_eq_zero (by rw [b2.size]; simp)
                subst hn0
                have hrun := run_append_fit (w := w) (base := base) (sLen := 0) (sCap := 0) (n := 0) (x := ev y) (news := #[]) (ty := o.type) (w' := w) ha0 ha1 ht hu i1 (b1 w rfl).1 (by rw [i4]; exact (b1 w rfl).2) (Nat.le_refl _) (by cases base <;> rfl)
                refine ⟨_, w, .inl (fin (v := .slice base (0 + 0) 0) ?_), ?_⟩
                · rw [hv]; exact hrun
                · exact done_empty hh hf hp rfl rfl
              · have hge := grownCap_ge w (0 + (x0 :: xs).length) 0 e
                have hrun := run_append_more (w := w) (base := base) (sLen := 0) (sCap := 0) (x := ev y) (ty := o.type) (olds := #[]) (news := news) ha0 ha1 ht hu i1 i2 (n := (x0 :: xs).length) (lenOf_any (b1 w rfl).1) (by
                    obtain ⟨olds, o1, o2⟩ := sl_run (P := P) hsl
                    have := o1 w.drew rfl
                    have hl : olds = #[] := Array.eq_empty_of_size_eq_zero (by rw [o2.size]; simp)
                    rw [hl] at this
                    rw [i4]; exact this) (by rw [i4]; exact (b1 w.drew rfl).2) (by simp) (by have : most = 4294967296 := rfl; omega) (le_cap_bytes (by simp) (by simpa using hm) hbytes)
                refine ⟨_, _, .inl (fin (by rw [hv]; exact hrun)), ?_⟩
                have hd := done_newrow (pars := pars) (r := r) (rows := x0 :: xs) (cells := #[] ++ news ++ Builtin.zeroCells z.cells (grownCap w (0 + (x0 :: xs).length) 0 e - (0 + (x0 :: xs).length))) (e := e) (fr := (0, 0)) (cap := grownCap w (0 + (x0 :: xs).length) 0 e) (nm := nm) (g := []) (q := fun _ => .gone)
                  (w' := w.drew.alloc (.cells (#[] ++ news ++ Builtin.zeroCells z.cells (grownCap w (0 + (x0 :: xs).length) 0 e - (0 + (x0 :: xs).length))) e)) hh (fun _ e => absurd rfl e) (fun m hm => by cases hm) rfl rfl rfl rfl (by intro i _; simp) (by intro _; simp) (by simpa using hge) ?_ hf hp (fun j y' hj => ?_)
                · simp only [Nat.zero_add] at hd ⊢
                  exact hd
                · rw [Array.size_append, Array.size_append, b2.size]
                  have : (Builtin.zeroCells z.cells (grownCap w (0 + (x0 :: xs).length) 0 e - (0 + (x0 :: xs).length))).size = (grownCap w (0 + (x0 :: xs).length) 0 e - (0 + (x0 :: xs).length)) * r.size := by
                    simp [Builtin.zeroCells, i3]
                  rw [this]
                  simp only [Array.size_empty, Nat.zero_add]
                  simp only [Nat.zero_add] at hge
                  rw [← Nat.add_mul]
                  exact Nat.mul_le_mul_right _ (by omega)
                · have h2 : InRow w (GZ G []) r (#[] ++ news) (x0 :: xs) := by
                    rw [Array.empty_append]
                    exact ⟨b2.size, fun i x hx => RelRow.mono (fun _ _ hz => .inl hz) (fun _ _ _ => rfl) _ _ _ _ (b2.row i x hx)⟩
                  exact inRow_more h2 j y' hj
        · cases hs
  · cases hs
end
end Go.Sx

/- What one operation does: joined. -/
set_option linter.unusedVariables false
set_option linter.unusedSimpArgs false
namespace Go.Sx

section
variable {P : Program} {pars : Nat} {G : Gh} {w : World} {h : List Ent} {ev : Operand → Value} {o : Oper}

theorem slice3_run {t e : TypeId} {st n c : Nat} {b : Option Addr} {u m : Int} {k k' : IntKind} (hu : P.underlying t = some (.slice e)) (hst : st = P.cellsOf e) (hpos : 0 < st) (h0 : 0 ≤ u) (h1 : u ≤ n) (hm : m = u) (hc : n ≤ c) (w : World) :
    (Instr.sliceAt t (.slice b n c) none (some (.int k u)) (some (.int k' m))).run P w = .ok (.slice (if u.toNat = 0 then b else b.map (·.add 0)) u.toNat u.toNat) w := by
  subst hm
  obtain ⟨inf, hi', hsz⟩ := info_of_cells (P := P) (t := e) (by omega)
  have hb : (Instr.sliceBounds true n c none (some (.int k m)) (some (.int k' m))).run P w = .ok (0, m.toNat, m.toNat) w := by
    simp only [Instr.sliceBounds, Sem.run_bind, Sem.run_pure, Result.andThen_ok]
    rw [run_sliceBound w k' m c _ (by omega) (by omega)]
    simp only [Result.andThen_ok]
    rw [run_sliceBound w k m m.toNat _ (by omega) (by omega)]
    simp
  simp only [Instr.sliceAt, Sem.run_bind, run_underlying hu, Result.andThen_ok, Instr.slice, hb, run_sizeOf' hi', hsz, ← hst, Sem.run_pure]
  simp

theorem addr_add0 {a : Addr} (hs : a.spot = none) : a.add 0 = a := by rw [addr_eta hs, Addr.add_lit]; rfl

theorem slice0_ok {t e : TypeId} {z : Option Operand} {y : Operand} {zz : Operand} {r : Row} {base : Option Addr} {n c : Nat} {ku km : IntKind} {u m : Int} (ho : o.op = .slice t y none (some zz) z) (hz : ∃ z', z = some z' ∧ ev z' = .int km m) (hh : RelH G w h) (he : elemOfB P t = some e) (hr : r.size = P.cellsOf e) (hv : ev y = .slice base n c) (hu : ev zz = .int ku u) (hc : n ≤ c) (h0 : u = 0) (h1 : m = 0) :
    OpOk P pars G w h ev o { val := .c (.v (.emp r)) } := by
  obtain ⟨z', rfl, hz⟩ := hz
  subst h0 h1
  have hrun := slice3_run (P := P) (b := base) (n := n) (c := c) (k := ku) (k' := km) (elemOf_some he) hr r.size_pos (Int.le_refl 0) (Int.natCast_nonneg n) rfl hc w
  refine ok_val hh (v := .slice base 0 0) ?_ ⟨base, rfl⟩
  simp only [execOp, ho, Option.map_some, Option.map_none]
  rw [hv, hu, hz]
  simp only [Sem.run_bind, hrun, Result.andThen_ok]
  rfl

theorem op_slice3 {t : TypeId} {x z : Operand} {lo hi : Option Operand} {q : Nat → Ent} {g : Bool} {δ : Delta} {ρ : Operand → TV} (ho : o.op = .slice t x lo hi (some z)) (hh : RelH G w h) (hq : ∀ n, q n ≠ .gone → h[n]? = some (q n))
    (hρ : ∀ y, RelTV G w h (ev y) (ρ y)) (hs : sliceD P t q (ρ x) (lo.map ρ) (hi.map ρ) (some (ρ z)) = some (g, δ)) (hg : g = true) : OpOk P pars G w h ev o δ := by
  subst hg
  have hx := hρ x
  generalize ρ x = xv at hx hs
  have hz := hρ z
  generalize ρ z = zv at hz hs
  unfold sliceD at hs
  split at hs
  · rename_i e; cases e
  · rename_i b ku u km m e1 e2 e3
    cases lo with
    | some lo => cases e1
    | none =>
      cases hi with
      | none => cases e2
      | some hi =>
        simp only [Option.map_some, Option.some.injEq] at e2 e3
        subst e3
        have hyv := hρ hi
        rw [e2] at hyv
        have hyv := bv_int hyv
        have hzv := bv_int hz
        have emp : ∀ {e : TypeId} {r : Row} {base : Option Addr} {n c : Nat}, elemOfB P t = some e → r.size = P.cellsOf e → ev x = .slice base n c → n ≤ c → okIf (decide (u = 0) && decide (m = 0)) (.emp r) = some (true, δ) → OpOk P pars G w h ev o δ := by
          intro e r base n c he hr hv hc hs
          simp only [okIf, Option.some.injEq, Prod.mk.injEq, Bool.and_eq_true, decide_eq_true_eq] at hs
          obtain ⟨⟨g1, g2⟩, rfl⟩ := hs
          exact slice0_ok ho ⟨z, rfl, hzv⟩ hh he hr hv hyv hc g1 g2
        cases he : elemOfB P t with
        | none => rw [he] at hs; cases b <;> simp at hs
        | some e =>
        rw [he] at hs
        simp only at hs
        split at hs
        · rename_i n e0 ee
          simp only [Option.some.injEq] at ee
          subst ee
          have ⟨a, hn⟩ : ∃ a, q n = .arr a := by
            cases hn : q n with
            | gone => rw [hn] at hs; simp at hs
            | box cs => rw [hn] at hs; simp at hs
            | arr a => exact ⟨a, rfl⟩
          rw [hn] at hs
          have harr := hq n (by rw [hn]; simp)
          rw [hn] at harr
          simp only at hs
          obtain ⟨a', ha', hv⟩ := hx
          rw [harr] at ha'
          injection ha' with ha'
          injection ha' with ha'
          subst ha'
          cases hc : (a.plain && Nat.beq a.row.size (P.cellsOf e)) with
          | false => rw [hc] at hs; cases hs
          | true =>
          rw [hc] at hs
          simp only [cond_true] at hs
          simp only [Bool.and_eq_true] at hc
          obtain ⟨k1, k2⟩ := hc
          have k2 := Nat.eq_of_beq_eq_true k2
          cases hown : a.own with
          | false =>
            rw [hown] at hs
            exact emp he k2 hv (relArr_of hh harr).2.2.1 hs
          | true =>
            rw [hown] at hs
            have k0 := hown
            simp only [cond_true, Option.some.injEq, Prod.mk.injEq, Bool.and_eq_true, decide_eq_true_eq, beq_iff_eq] at hs
            obtain ⟨⟨g1, g2, g3⟩, rfl⟩ := hs
            obtain ⟨hl, hcc⟩ := own_slice hh harr k0
            have hrun := slice3_run (P := P) (b := G.base n) (c := G.cap n) (k := ku) (k' := km) (elemOf_some he) k2 a.row.size_pos g1 g2 g3 hl w
            have hlen : (a.rows.take u.toNat).length = u.toNat := by rw [List.length_take]; omega
            refine ⟨.slice (if u.toNat = 0 then G.base n else (G.base n).map (·.add 0)) u.toNat u.toNat, w, .inl (by simp only [execOp, ho, Option.map_some, Option.map_none]; rw [hv, hyv, hzv]; simp only [Sem.run_bind, hrun, Result.andThen_ok]; rfl), ?_⟩
            have hcl0 : CleanAt w a.row (if u.toNat = 0 then G.base n else (G.base n).map (·.add 0)) u.toNat := by
              intro hr hc ad vs hb hv
              rw [if_neg hc] at hb
              have hcl := (relArr_of hh harr).1.2 k0
              rcases hcc with hcc | ⟨a0, vs0, p1, p2, _⟩
              · have : a.rows.length ≤ G.cap n := hl
                omega
              · rw [p1, Option.map_some, addr_add0 p2] at hb
                injection hb with hb
                subst hb
                exact hcl hr (by have : a.rows.length ≤ G.cap n := hl; omega) a0 vs p1 hv
            have hd := done_own (pars := pars) (n := n) (a := a) (rows' := a.rows.take u.toNat) (base' := if u.toNat = 0 then G.base n else (G.base n).map (·.add 0)) (cap' := u.toNat) (w' := w) hh harr k0 (Nat.le_refl _) rfl rfl rfl (fun _ _ _ => rfl)
              (fun b hb vs hv i hi => hh.thaw b (by rw [hb hv.lt]; simp) (by rw [hb hv.lt]; simp) vs hv i hi) ⟨by rw [hlen]; exact Nat.le_refl _, ?_⟩ hcl0
            · rw [hlen] at hd; exact hd
            · by_cases hu0 : u.toNat = 0
              · exact .inl hu0
              · rcases hcc with hcc | ⟨ad, vs, p1, p2, p3, p4, p5, p6⟩
                · have : a.rows.length ≤ G.cap n := hl
                  omega
                · refine .inr ⟨ad, vs, by rw [if_neg hu0, p1, Option.map_some, addr_add0 p2], p2, fun _ => p3, p4, ?_, fun i y hy => ?_⟩
                  · have h1 : u.toNat ≤ G.cap n := by have : a.rows.length ≤ G.cap n := hl; omega
                    have := Nat.mul_le_mul_right a.row.size h1
                    omega
                  · rw [List.getElem?_take] at hy
                    split at hy
                    · exact RelRow.mono (fun b hb hz => ⟨hb, hz⟩) (fun _ _ _ => rfl) _ _ _ _ (p6 i y hy)
                    · cases hy
        · rename_i n l0 len e0 ee
          simp only [Option.some.injEq] at ee
          subst ee
          have ⟨a, hn⟩ : ∃ a, q n = .arr a := by
            cases hn : q n with
            | gone => rw [hn] at hs; simp at hs
            | box cs => rw [hn] at hs; simp at hs
            | arr a => exact ⟨a, rfl⟩
          rw [hn] at hs
          have harr := hq n (by rw [hn]; simp)
          rw [hn] at harr
          simp only at hs
          obtain ⟨a', bb, ha', hle, hv, _⟩ := hx
          rw [harr] at ha'
          injection ha' with ha'
          injection ha' with ha'
          subst ha'
          cases hc : (a.plain && Nat.beq a.row.size (P.cellsOf e)) with
          | false => rw [hc] at hs; cases hs
          | true =>
          rw [hc] at hs
          simp only [cond_true] at hs
          simp only [Bool.and_eq_true] at hc
          have hl : a.rows.length ≤ G.cap n := (relArr_of hh harr).2.2.1
          exact emp he (Nat.eq_of_beq_eq_true hc.2) hv (by omega) hs
        · rename_i ho' r xs e0 ee
          simp only [Option.some.injEq] at ee
          subst ee
          obtain ⟨base, cap, hv, hsl⟩ := relCell_sl.1 (show RelCell w (fun b => G.zone b = .frz) (.sl r) (ev x) xs from hx)
          cases hc : Nat.beq r.size (P.cellsOf e) with
          | false => rw [hc] at hs; cases hs
          | true =>
          rw [hc] at hs
          exact emp he (Nat.eq_of_beq_eq_true hc) hv hsl.1 hs
        · rename_i r e0 ee
          simp only [Option.some.injEq] at ee
          subst ee
          obtain ⟨base, hv⟩ := hx
          cases hc : Nat.beq r.size (P.cellsOf e) with
          | false => rw [hc] at hs; cases hs
          | true =>
          rw [hc] at hs
          exact emp he (Nat.eq_of_beq_eq_true hc) hv (Nat.le_refl _) hs
        · cases hs
  · cases hs

theorem capsOf_rel {ρ : Operand → TV} (hρ : ∀ y, RelTV G w h (ev y) (ρ y)) : ∀ (l : List Operand) {cs : List CapV}, capsOf (l.map ρ) = some cs → l.length = cs.length ∧ ∀ (i : Nat) (c : CapV), cs[i]? = some c → ∃ x, l[i]? = some x ∧ RelCap G h (ev x) c
  | [], cs, hs => by
    simp only [List.map_nil, capsOf, Option.some.injEq] at hs
    subst hs
    exact ⟨rfl, fun i c hi => by simp at hi⟩
  | x :: l, cs, hs => by
    have hx := hρ x
    simp only [List.map_cons] at hs
    generalize ρ x = xv at hx hs
    unfold capsOf at hs
    split at hs
    · rename_i e; cases e
    · rename_i b l' e
      injection e with e1 e2
      subst e1 e2
      split at hs
      · rename_i a r h1 h2
        simp only [Option.some.injEq] at hs
        subst hs
        obtain ⟨p1, p2⟩ := capsOf_rel hρ l h2
        refine ⟨by simp [p1], fun i c hi => ?_⟩
        cases i with
        | zero =>
          simp only [List.getElem?_cons_zero, Option.some.injEq] at hi
          subst hi
          refine ⟨x, rfl, ?_⟩
          split at h1 <;> simp only [Option.some.injEq, reduceCtorEq] at h1 <;> subst h1
          · exact hx
          · exact hx
          · exact hx
          · exact hx
          · exact hx
        | succ i =>
          simp only [List.getElem?_cons_succ] at hi ⊢
          exact p2 i c hi
      · cases hs
    · cases hs

end
end Go.Sx

/- What one operation does: any one that is no call of a function. -/
set_option linter.unusedVariables false
set_option linter.unusedSimpArgs false
namespace Go.Sx

section
variable {P : Program} {pars : Nat} {G : Gh} {w : World} {h : List Ent} {ev : Operand → Value} {o : Oper}

theorem op_const {t : TypeId} {v : Value} {nm : Nat} {g : Bool} {δ : Delta} (ho : o.op = .move (.const v) ∨ o.op = .assign (.const v)) (hev : ev (.const v) = v) (hh : RelH G w h) (hs : constD P nm t v = some (g, δ)) (hf : h[nm]? = some .gone) (hp : pars ≤ nm) : OpOk P pars G w h ev o δ := by
  unfold constD at hs
  split at hs
  · simp only [okV, Option.some.injEq, Prod.mk.injEq] at hs
    obtain ⟨_, rfl⟩ := hs
    exact op_move ho hh (by rw [hev]; rfl)
  · simp only [okV, Option.some.injEq, Prod.mk.injEq] at hs
    obtain ⟨_, rfl⟩ := hs
    exact op_move ho hh (by rw [hev]; rfl)
  · simp only [okV, Option.some.injEq, Prod.mk.injEq] at hs
    obtain ⟨_, rfl⟩ := hs
    exact op_move ho hh (by rw [hev]; rfl)
  · split at hs
    · simp only [Option.some.injEq, Prod.mk.injEq] at hs
      obtain ⟨_, rfl⟩ := hs
      exact op_nil ho hev hh hf hp
    · cases hs
  · simp only [okV, Option.some.injEq, Prod.mk.injEq] at hs
    obtain ⟨_, rfl⟩ := hs
    exact op_move ho hh (by rw [hev]; rfl)
  · cases hs

theorem toList_one {α : Type} {xs : Array α} {x : α} (h1 : xs.toList = [x]) : xs = #[x] := by
  rw [← Array.toArray_toList (xs := xs), h1]

theorem step_sound {nm : Nat} {q : Nat → Ent} {ρ : Operand → TV} {g : Bool} {δ : Delta} (hh : RelH G w h) (hq : ∀ n, q n ≠ .gone → h[n]? = some (q n)) (hρ : ∀ y, RelTV G w h (ev y) (ρ y)) (hev : ∀ v, ev (.const v) = v)
    (hf : ∀ m, nm ≤ m → m < nm + needs P o → h[m]? = some .gone) (hp : pars ≤ nm) (hs : step P nm ρ q o = some (g, δ)) (hg : g = true) : OpOk P pars G w h ev o δ := by
  have hf1 : needs P o = 1 → h[nm]? = some .gone := fun e => hf nm (Nat.le_refl _) (by omega)
  unfold step at hs
  split at hs
  · rename_i v ho
    exact op_const (.inl ho) (hev v) hh hs (hf1 (by simp [needs, ho])) hp
  · rename_i v ho
    exact op_const (.inr ho) (hev v) hh hs (hf1 (by simp [needs, ho])) hp
  · rename_i x _ ho
    simp only [Option.some.injEq, Prod.mk.injEq] at hs
    obtain ⟨_, rfl⟩ := hs
    exact op_move (.inl ho) hh (hρ x)
  · rename_i x _ ho
    simp only [Option.some.injEq, Prod.mk.injEq] at hs
    obtain ⟨_, rfl⟩ := hs
    exact op_move (.inr ho) hh (hρ x)
  · rename_i c a b ho
    have hc := hρ c
    have ha := hρ a
    have hb := hρ b
    split at hs
    · rename_i c' x y e1 e2 e3
      rw [e1] at hc; rw [e2] at ha; rw [e3] at hb
      simp only [okV, Option.some.injEq, Prod.mk.injEq] at hs
      obtain ⟨_, rfl⟩ := hs
      exact op_pick ho hh (bv_bool hc) (by cases c' <;> first | exact bv_bool ha | exact bv_bool hb)
    · rename_i c' x e1 e2 _
      rw [e1] at hc; rw [e2] at ha
      simp only [okIf, Option.some.injEq, Prod.mk.injEq] at hs
      obtain ⟨hc', rfl⟩ := hs
      subst hg hc'
      exact op_pick ho hh (bv_bool hc) (bv_bool ha)
    · rename_i c' y e1 e3 _
      rw [e1] at hc; rw [e3] at hb
      simp only [okIf, Option.some.injEq, Prod.mk.injEq] at hs
      obtain ⟨hc', rfl⟩ := hs
      subst hg
      cases c' with
      | true => cases hc'
      | false => exact op_pick ho hh (bv_bool hc) (bv_bool hb)
    · cases hs
  · rename_i t ho
    cases ht : tysOf P 6 t with
    | none => rw [ht] at hs; cases hs
    | some tys =>
      rw [ht] at hs
      simp only at hs
      cases hz : zeroOk P t tys with
      | false => rw [hz] at hs; cases hs
      | true =>
        rw [hz] at hs
        simp only [cond_true, boxD, Option.some.injEq, Prod.mk.injEq] at hs
        obtain ⟨_, rfl⟩ := hs
        exact op_alloc ho hh hz (fun m h1 h2 => hf m h1 (by simp only [needs, ho, ht, Option.getD_some]; exact h2)) hp
  · rename_i t x ho
    have hx := hρ x
    split at hs
    · rename_i xv e1
      rw [e1] at hx
      cases hc : (xv.cells.all BV.known && Nat.beq xv.cells.length (P.cellsOf t)) with
      | false => rw [hc] at hs; cases hs
      | true =>
        rw [hc] at hs
        simp only [cond_true, boxD, Option.some.injEq, Prod.mk.injEq] at hs
        obtain ⟨_, rfl⟩ := hs
        simp only [Bool.and_eq_true] at hc
        exact op_box ho hh hx hc.1 (hf1 (by simp [needs, ho])) hp
    · cases hs
  · rename_i t parts ho
    exact op_build ho hh hρ hs (fun m h1 h2 => hf m h1 (by simp only [needs, ho]; exact h2)) hp
  · rename_i t len parts ho
    exact op_buildSlice ho hh hq hρ (hf1 (by simp [needs, ho])) hp hs
  · rename_i t a ho
    exact op_load ho hh hq (hρ a) hs
  · rename_i t a v ho
    cases hc : constV P t v with
    | none => rw [hc] at hs; cases hs
    | some b =>
      rw [hc] at hs
      simp only [Option.bind_some] at hs
      exact op_store ho hh hq (hρ a) (yv := .v b) (by rw [hev]; exact constV_rel hc) hs
  · rename_i t a x _ ho
    have hx := hρ x
    split at hs
    · rename_i xv e1
      rw [e1] at hx
      exact op_store ho hh hq (hρ a) hx hs
    · cases hs
  · rename_i x ho
    have hx := hρ x
    split at hs
    · rename_i n off e1
      rw [e1] at hx
      simp only [okV, Option.some.injEq, Prod.mk.injEq] at hs
      obtain ⟨_, rfl⟩ := hs
      have hx' := hx
      obtain ⟨_, _, hv⟩ := hx'
      exact op_nilCheck ho hh hv hx
    · rename_i n i j e1
      rw [e1] at hx
      simp only [okV, Option.some.injEq, Prod.mk.injEq] at hs
      obtain ⟨_, rfl⟩ := hs
      have hx' := hx
      obtain ⟨_, _, _, _, _, hv⟩ := hx'
      exact op_nilCheck ho hh hv hx
    · rename_i s r y j e1
      rw [e1] at hx
      simp only [okV, Option.some.injEq, Prod.mk.injEq] at hs
      obtain ⟨_, rfl⟩ := hs
      cases s with
      | some s => exact hx.elim
      | none =>
        have hx' := hx
        obtain ⟨_, _, _, hv, _⟩ := hx'
        exact op_nilCheck ho hh hv hx
    · cases hs
  · rename_i op t x y u ho
    have hx := hρ x
    have hy := hρ y
    generalize ρ x = xv at hx hs
    generalize ρ y = yv at hy hs
    have hs0 := hs
    unfold binD at hs
    split at hs
    · exact op_bin_int ho hh (bv_int hx) (bv_int hy) hs0 hg
    · exact op_bin_str ho hh (bv_str hx) (bv_str hy) hs0 hg
    · exact op_bin_bool ho hh (bv_bool hx) (bv_bool hy) hs0
    · exact op_bin_agg ho hh hx hy hs0
    · cases hs
  · rename_i t x ho
    have hx := hρ x
    split at hs
    · rename_i b e1
      rw [e1] at hx
      simp only [okV, Option.some.injEq, Prod.mk.injEq] at hs
      obtain ⟨_, rfl⟩ := hs
      exact op_not ho hh (bv_bool hx)
    · cases hs
  · rename_i src dst x ho
    have hx := hρ x
    generalize ρ x = xv at hx hs
    unfold convertD at hs
    split at hs
    · rename_i k n
      split at hs
      · rename_i d k' h1 h2
        simp only [okV, Option.some.injEq, Prod.mk.injEq] at hs
        obtain ⟨_, rfl⟩ := hs
        exact op_conv_int ho hh (bv_int hx) h1 h2
      · cases hs
    · rename_i s
      split at hs
      · rename_i h1 h2
        simp only [okV, Option.some.injEq, Prod.mk.injEq] at hs
        obtain ⟨_, rfl⟩ := hs
        exact op_conv_str ho hh (bv_str hx) h1 h2
      · rename_i e h1 h2
        split at hs
        · rename_i h3
          simp only [Option.some.injEq, Prod.mk.injEq] at hs
          obtain ⟨_, rfl⟩ := hs
          exact op_bytes ho hh (bv_str hx) h1 h2 h3 (hf1 (by simp [needs, ho])) hp
        · cases hs
      · cases hs
    · rename_i b _ _
      split at hs
      · rename_i e h1 h2
        split at hs
        · rename_i xs h3 h4
          simp only [okV, Option.some.injEq, Prod.mk.injEq] at hs
          obtain ⟨_, rfl⟩ := hs
          exact op_conv_bytes ho hh hq hx h4 h1 h3 h2
        · cases hs
      · cases hs
    · cases hs
  · rename_i f first caps ho
    cases hfe : first.isEmpty with
    | false => rw [hfe] at hs; cases hs
    | true =>
      rw [hfe] at hs
      simp only [cond_true] at hs
      have : first = #[] := Array.isEmpty_iff.1 hfe
      subst this
      cases hc : capsOf (caps.toList.map ρ) with
      | none => rw [hc] at hs; cases hs
      | some l =>
        rw [hc] at hs
        simp only [Option.bind_some, okV, Option.some.injEq, Prod.mk.injEq] at hs
        obtain ⟨_, rfl⟩ := hs
        obtain ⟨p1, p2⟩ := capsOf_rel hρ _ hc
        exact op_makeFunc ho hh (by simpa using p1) (fun i c hi => by
          obtain ⟨x, q1, q2⟩ := p2 i c hi
          exact ⟨x, by simpa using q1, q2⟩)
  · rename_i t l c ho
    exact op_makeSlice ho hh (hρ l) (hρ c) hs hg (hf1 (by simp [needs, ho])) hp
  · rename_i t x lo hi mx ho
    cases mx with
    | none => exact op_slice ho hh hq hρ hs hg
    | some z => exact op_slice3 ho hh hq hρ hs hg
  · rename_i s x f ho
    exact op_fieldAddr ho hh (hρ x) hs
  · rename_i t x i ho
    exact op_indexAddr ho hh hq (hρ x) (hρ i) hs hg
  · rename_i t x i ho
    exact op_index ho hh (hρ x) (hρ i) hs hg
  · rename_i x i ho
    have hx := hρ x
    split at hs
    · rename_i xs e1
      rw [e1] at hx
      split at hs
      · rename_i c hc
        simp only [Option.some.injEq, Prod.mk.injEq] at hs
        obtain ⟨_, rfl⟩ := hs
        exact op_extract ho hh hx hc
      · cases hs
    · cases hs
  · rename_i args at_ ho
    split at hs
    · rename_i x t e1 e2
      rw [toList_one e1] at ho
      cases hl : lenD P t (ρ x) q with
      | none => rw [hl] at hs; cases hs
      | some n =>
        rw [hl] at hs
        simp only [Option.bind_some, okV, Option.some.injEq, Prod.mk.injEq] at hs
        obtain ⟨_, rfl⟩ := hs
        exact op_len ho e2 hh hq (hρ x) hl
    · cases hs
  · rename_i args at_ ho
    split at hs
    · rename_i x y t u e1 e2 e3
      have e1' : args = #[x, y] := by rw [← Array.toArray_toList (xs := args), e1]
      subst e1'
      split at hs
      · rename_i e hu
        exact op_append ho e2 e3 (.inl ⟨e, hu⟩) hh hq (hρ x) (hρ y) (hf1 (by simp [needs, ho])) hp hs hg
      · rename_i hu
        exact op_append ho e2 e3 (.inr hu) hh hq (hρ x) (hρ y) (hf1 (by simp [needs, ho])) hp hs hg
      · cases hs
    · cases hs
  · rename_i args at_ ho
    cases hm : minMaxD false (args.toList.map ρ) with
    | none => rw [hm] at hs; cases hs
    | some b =>
      rw [hm] at hs
      simp only [Option.bind_some, okV, Option.some.injEq, Prod.mk.injEq] at hs
      obtain ⟨_, rfl⟩ := hs
      refine op_min (mx := false) ho hh (vs := args.toList.map ρ) (by simp) (fun i v hv => ?_) hm
      rw [List.getElem?_map] at hv
      cases hq' : args.toList[i]? with
      | none => rw [hq'] at hv; cases hv
      | some x =>
        rw [hq'] at hv
        simp only [Option.map_some, Option.some.injEq] at hv
        subst hv
        exact ⟨x, by simpa using hq', hρ x⟩
  · rename_i args at_ ho
    cases hm : minMaxD true (args.toList.map ρ) with
    | none => rw [hm] at hs; cases hs
    | some b =>
      rw [hm] at hs
      simp only [Option.bind_some, okV, Option.some.injEq, Prod.mk.injEq] at hs
      obtain ⟨_, rfl⟩ := hs
      refine op_min (mx := true) ho hh (vs := args.toList.map ρ) (by simp) (fun i v hv => ?_) hm
      rw [List.getElem?_map] at hv
      cases hq' : args.toList[i]? with
      | none => rw [hq'] at hv; cases hv
      | some x =>
        rw [hq'] at hv
        simp only [Option.map_some, Option.some.injEq] at hv
        subst hv
        exact ⟨x, by simpa using hq', hρ x⟩
  · cases hs
end
end Go.Sx

/- Contracts of functions: what becomes of what is handed in. -/
set_option linter.unusedVariables false
set_option linter.unusedSimpArgs false
namespace Go.Sx

/-- Of the rows and boxes that came in: what they lie in stays (where it counts). -/
structure Keep (pars : Nat) (G : Gh) (w : World) (h : List Ent) (G' : Gh) (w' : World) (h' : List Ent) : Prop where
  blk : ∀ n, n < pars → G'.blk n = G.blk n
  upd : ∀ n a, n < pars → h'[n]? = some (.arr a) → a.fix = true → ∃ a0, h[n]? = some (.arr a0) ∧ a0.fix = true ∧ a.row = a0.row ∧ a.rows.length = a0.rows.length ∧ G'.base n = G.base n ∧ G'.cap n = G.cap n ∧ a.own = a0.own
  imm : ∀ n a0, n < pars → h[n]? = some (.arr a0) → a0.own = false → ∃ a, h'[n]? = some (.arr a) ∧ a.own = false ∧ (a = a0 ∨ a = a0.frz) ∧ G'.base n = G.base n ∧ G'.cap n = G.cap n ∧
    (a0.fix = true → ∀ b, b < w.heap.size → G.zone b = .top n → w'.heap[b]? = w.heap[b]? ∧ (a.fix = true → G'.zone b = .top n) ∧ (a.fix = false → G'.zone b = .frz))

theorem Keep.refl (pars : Nat) (G : Gh) (w : World) (h : List Ent) : Keep pars G w h G w h :=
  ⟨fun _ _ => rfl, fun n a _ ha hf => ⟨a, ha, hf, rfl, rfl, rfl, rfl, rfl⟩, fun n a0 _ ha h0 => ⟨a0, ha, h0, .inl rfl, rfl, rfl, fun h0 b _ hz => ⟨rfl, fun _ => hz, fun h1 => by rw [h1] at h0; cases h0⟩⟩⟩

theorem Arr.frz_frz (a : Arr) : a.frz.frz = a.frz := rfl

theorem Keep.trans {pars : Nat} {G G1 G2 : Gh} {w w1 w2 : World} {h h1 h2 : List Ent} (hs : w.heap.size ≤ w1.heap.size) (hx : Ext G1 w1 G2 w2) (k1 : Keep pars G w h G1 w1 h1) (k2 : Keep pars G1 w1 h1 G2 w2 h2) : Keep pars G w h G2 w2 h2 := by
  refine ⟨fun n hn => (k2.blk n hn).trans (k1.blk n hn), fun n a hn ha hf => ?_, fun n a0 hn ha h0 => ?_⟩
  · obtain ⟨a1, p1, p2, p3, p4, p5, p6, p7⟩ := k2.upd n a hn ha hf
    obtain ⟨a0, q1, q2, q3, q4, q5, q6, q7⟩ := k1.upd n a1 hn p1 p2
    exact ⟨a0, q1, q2, p3.trans q3, p4.trans q4, p5.trans q5, p6.trans q6, p7.trans q7⟩
  · obtain ⟨a1, p1, p2, p3, p4, p5, p6⟩ := k1.imm n a0 hn ha h0
    obtain ⟨a2, q1, q2, q3, q4, q5, q6⟩ := k2.imm n a1 hn p1 p2
    refine ⟨a2, q1, q2, ?_, q4.trans p4, q5.trans p5, fun hf0 b hb hz => ?_⟩
    · rcases p3 with rfl | rfl
      · exact q3
      · rcases q3 with q3 | q3
        · exact .inr q3
        · exact .inr (by rw [q3, Arr.frz_frz])
    · obtain ⟨r1, r2, r3⟩ := p6 hf0 b hb hz
      have hb1 := Nat.lt_of_lt_of_le hb hs
      cases hf1 : a1.fix with
      | true =>
        obtain ⟨s1, s2, s3⟩ := q6 hf1 b hb1 (r2 hf1)
        exact ⟨s1.trans r1, s2, s3⟩
      | false =>
        have hf2 : a2.fix = false := by
          rcases q3 with rfl | rfl
          · exact hf1
          · rfl
        obtain ⟨s1, s2⟩ := hx.frz b hb1 (r3 hf1)
        exact ⟨s2.trans r1, fun h1 => (by rw [hf2] at h1; cases h1), fun _ => s1⟩

/-- One turn. -/
theorem Done.keep {pars : Nat} {G : Gh} {w w' : World} {h : List Ent} {δ : Delta} {v : Value} (hh : RelH G w h) (hd : Done pars G w h δ v w') :
    ∃ G', Ext G w G' w' ∧ RelH G' w' (newHeap h δ) ∧ RelTV G' w' (newHeap h δ) v δ.val ∧ Keep pars G w h G' w' (newHeap h δ) ∧ (∀ u x, RelTV G w h u x → RelTV G' w' (newHeap h δ) u (x.kill δ.kills [])) := by
  obtain ⟨G', T, tr, hT, hv, hblk, hupd, himm⟩ := hd
  refine ⟨G', tr.ext, tr.relH hh hT, hv, ⟨hblk, fun n a hn ha hf => ?_, fun n a0 hn ha h0 => ?_⟩, fun u x hr => tr.relTV hr⟩
  · by_cases hTn : T n
    · obtain ⟨p0, p1, p2, p3, a0, p4, p5⟩ := hupd n a hTn ha hf
      obtain ⟨a', q1, q2, q3, _⟩ := tr.arr n a0 hTn p0 p4
      rw [ha] at q1
      injection q1 with q1
      injection q1 with q1
      subst q1
      refine ⟨a0, p4, p5, q2, q3, p2, p3, ?_⟩
      cases ho : a0.own with
      | true => exact p1
      | false =>
        have := (himm n a0 hTn p4 ho).2.1
        rw [ha] at this
        injection this with this
        injection this with this
        subst this
        cases hf
    · have he := tr.ent n hTn
      rw [ha] at he
      cases hq : h[n]? with
      | none => rw [hq] at he; cases he
      | some e0 =>
        rw [hq] at he
        simp only [Option.map_some, Option.some.injEq] at he
        cases e0 with
        | gone => cases he
        | box cs => cases he
        | arr a0 =>
          simp only [Ent.kill, Ent.arr.injEq] at he
          subst he
          exact ⟨a, rfl, hf, rfl, rfl, (tr.gh n hTn).2.1, (tr.gh n hTn).2.2, rfl⟩
  · by_cases hTn : T n
    · obtain ⟨p1, p2, p3, p4⟩ := himm n a0 hTn ha h0
      exact ⟨a0.frz, p2, rfl, .inr rfl, p3, p4.1, fun _ b hb hz => ⟨(p4.2 b hb hz).2, fun hf => (by cases hf), fun _ => (p4.2 b hb hz).1⟩⟩
    · refine ⟨a0, ?_, h0, .inl rfl, (tr.gh n hTn).2.1, (tr.gh n hTn).2.2, fun h0 b hb hz => ⟨(tr.un n b hTn hb (.inl hz)).2, fun _ => (tr.un n b hTn hb (.inl hz)).1.trans hz, fun h1 => by rw [h1] at h0; cases h0⟩⟩
      rw [tr.ent n hTn, ha]; rfl

def RelArgs (G : Gh) (w : World) (h : List Ent) (vs : Array Value) (args : List TV) : Prop := vs.size = args.length ∧ ∀ (i : Nat) (x : TV), args[i]? = some x → ∃ v, vs[i]? = some v ∧ RelTV G w h v x

/-- What a function does with these arguments. -/
structure Con (P : Program) (f : FuncId) (h0 : List Ent) (args : List TV) (out : Out) : Prop where
  able : ∃ fn, P.funcs[f]? = some fn ∧ (fn.name == "runtime.NumGoroutine") = false ∧ fn.body.isNone = false
  run : ∀ (G : Gh) (w : World) (vs : Array Value), RelH G w h0 → RelArgs G w h0 vs args →
    Calls P f vs w fun e w' => ∃ v G', e = .returned v ∧ Ext G w G' w' ∧ RelH G' w' out.2 ∧ RelTV G' w' out.2 v out.1 ∧ Keep h0.length G w h0 G' w' out.2

/-- An oracle says nothing but what is so. -/
def OOk {β : Type} (P : Program) (O : Oracle β) : Prop := ∀ f h0 args k r, O f h0 args k = some r → ∃ out, Con P f h0 args out ∧ k out.1 out.2 = some r

theorem look_spec {hp : List Ent} {l : List Nat} : ∀ n, look hp l n ≠ .gone → hp[n]? = some (look hp l n) := by
  intro n hn
  unfold look at *
  cases hc : l.contains n with
  | false => rw [hc] at hn; exact absurd rfl hn
  | true =>
    rw [hc] at hn
    simp only [cond_true] at hn ⊢
    rw [List.getD_eq_getElem?_getD] at hn ⊢
    cases hq : hp[n]? with
    | none => rw [hq] at hn; exact absurd rfl hn
    | some e => rfl

/-! handing in -/
def CapV.plainRel (u : Value) : CapV → Prop
  | .int k n => u = .int k n
  | .bool b => u = .bool b
  | .str s => u = .string s
  | _ => False

theorem CapV.plain_cap {G : Gh} {h : List Ent} {u : Value} {c : CapV} (hc : c.plainRel u) : RelCap G h u c := by cases c <;> first | exact hc | exact hc.elim

def VRel (base : Nat → Option Addr) (cap : Nat → Nat) (ents : List Ent) (v : Value) : BV → Prop
  | .int k n => v = .int k n
  | .bool b => v = .bool b
  | .str s => v = .string s
  | .ref i => ∃ a, ents[i]? = some (.arr a) ∧ v = .slice (base i) a.rows.length (cap i)
  | .fn f caps => ∃ vs : Array Value, v = .func (.func f) #[] vs ∧ vs.size = caps.length ∧ ∀ (i : Nat) (c : CapV), caps[i]? = some c → ∃ u, vs[i]? = some u ∧ c.plainRel u
  | _ => False

def Src.name : Src → Option Nat
  | .arr m | .upd m | .own m | .sub m _ _ | .box m _ _ => some m
  | .lit _ _ | .nil _ => none

def Link (G : Gh) (w : World) (h : List Ent) (base : Option Addr) (cap : Nat) (V : Value → BV → Prop) (e : Ent) : Src → Prop
  | .arr n => ∃ x, h[n]? = some (.arr x) ∧ x.plain = true ∧ e = inArr false x.row x.rows ∧ base = G.base n ∧ cap = G.cap n
  | .upd n => ∃ x, h[n]? = some (.arr x) ∧ x.plain = true ∧ x.own = true ∧ e = inArr true x.row x.rows ∧ base = G.base n ∧ cap = G.cap n
  | .sub n lo len => ∃ x, h[n]? = some (.arr x) ∧ x.plain = true ∧ lo + len ≤ x.rows.length ∧ e = inArr false x.row ((x.rows.drop lo).take len) ∧ cap = G.cap n - lo ∧ (G.cap n ≠ lo → base = (G.base n).map (·.add (lo * x.row.size)))
  | .own n => ∃ x rows, h[n]? = some (.arr x) ∧ x.own = true ∧ e = .arr (.mk' true x.row rows) ∧ (x.virt = true → cap = 0) ∧ RelSl w (fun b => G.zone b = .top n) (fun b => G.zone b = .frz) x.row base cap rows ∧ CleanAt w x.row base cap
  | .nil r => e = .arr (.mk' true r []) ∧ cap = 0
  | .lit r xs => e = inArr false r xs ∧ RelSl w (fun b => G.zone b = .frz) (fun b => G.zone b = .frz) r base cap xs
  | .box n off len => ∃ cs cs' vs, h[n]? = some (.box cs) ∧ e = .box cs' ∧ cs'.length = len ∧ off + len ≤ cs.length ∧ Blk w (G.blk n).1 vs ∧ ∀ (k : Nat) (b' : BV), cs'[k]? = some b' → ∃ u, vs[(G.blk n).2 + off + k]? = some u ∧ u.oneCell' = true ∧ V u b'

structure AOk (G : Gh) (w : World) (h : List Ent) (base : Nat → Option Addr) (cap : Nat → Nat) (a : Acc) : Prop where
  len : a.ents.length = a.srcs.length
  link : ∀ i s e, a.srcs[i]? = some s → a.ents[i]? = some e → Link G w h (base i) (cap i) (VRel base cap a.ents) e s
  nodup : (a.srcs.filterMap Src.name).Nodup
  gives : ∀ m, m ∈ a.gives ↔ Src.own m ∈ a.srcs

/-- More is handed in. -/
structure More (base : Nat → Option Addr) (cap : Nat → Nat) (a : Acc) (base' : Nat → Option Addr) (cap' : Nat → Nat) (a' : Acc) : Prop where
  ents : ∃ l, a'.ents = a.ents ++ l
  srcs : ∃ l, a'.srcs = a.srcs ++ l
  bc : ∀ i, i < a.ents.length → base' i = base i ∧ cap' i = cap i

theorem More.refl (base : Nat → Option Addr) (cap : Nat → Nat) (a : Acc) : More base cap a base cap a := ⟨⟨[], by simp⟩, ⟨[], by simp⟩, fun _ _ => ⟨rfl, rfl⟩⟩

theorem More.trans {b0 b1 b2 : Nat → Option Addr} {c0 c1 c2 : Nat → Nat} {a0 a1 a2 : Acc} (m1 : More b0 c0 a0 b1 c1 a1) (m2 : More b1 c1 a1 b2 c2 a2) : More b0 c0 a0 b2 c2 a2 := by
  obtain ⟨l1, e1⟩ := m1.ents
  obtain ⟨l2, e2⟩ := m2.ents
  obtain ⟨l3, e3⟩ := m1.srcs
  obtain ⟨l4, e4⟩ := m2.srcs
  refine ⟨⟨l1 ++ l2, by rw [e2, e1, List.append_assoc]⟩, ⟨l3 ++ l4, by rw [e4, e3, List.append_assoc]⟩, fun i hi => ?_⟩
  have h1 := m1.bc i hi
  have h2 := m2.bc i (by rw [e1, List.length_append]; omega)
  exact ⟨h2.1.trans h1.1, h2.2.trans h1.2⟩

theorem VRel.more {b0 b1 : Nat → Option Addr} {c0 c1 : Nat → Nat} {a0 a1 : Acc} (m : More b0 c0 a0 b1 c1 a1) {v : Value} {b : BV} (hv : VRel b0 c0 a0.ents v b) : VRel b1 c1 a1.ents v b := by
  cases b with
  | ref i =>
    obtain ⟨a, ha, hv⟩ := hv
    obtain ⟨l, e⟩ := m.ents
    have hi : i < a0.ents.length := (List.getElem?_eq_some_iff.1 ha).1
    exact ⟨a, by rw [e, List.getElem?_append_left hi]; exact ha, by rw [(m.bc i hi).1, (m.bc i hi).2]; exact hv⟩
  | _ => exact hv

theorem Link.mono {G : Gh} {w : World} {h : List Ent} {base : Option Addr} {cap : Nat} {V V' : Value → BV → Prop} (hV : ∀ u b, V u b → V' u b) {e : Ent} {s : Src} (hl : Link G w h base cap V e s) : Link G w h base cap V' e s := by
  cases s with
  | box n off len =>
    obtain ⟨cs, cs', vs, p1, p2, p3, p4, p5, p6⟩ := hl
    exact ⟨cs, cs', vs, p1, p2, p3, p4, p5, fun k b' hk => by obtain ⟨u, q1, q2, q3⟩ := p6 k b' hk; exact ⟨u, q1, q2, hV _ _ q3⟩⟩
  | _ => exact hl

end Go.Sx

/- Handing in. -/
set_option linter.unusedVariables false
set_option linter.unusedSimpArgs false
namespace Go.Sx

theorem findAt_spec {p : Src → Bool} : ∀ (l : List Src) (k i : Nat), findAt p k l = some i → k ≤ i ∧ ∃ s, l[i - k]? = some s ∧ p s = true
  | [], k, i, h => by cases h
  | s :: l, k, i, h => by
    simp only [findAt] at h
    cases hp : p s with
    | true =>
      rw [hp] at h
      simp only [cond_true, Option.some.injEq] at h
      subst h
      exact ⟨Nat.le_refl _, s, by simp, hp⟩
    | false =>
      rw [hp] at h
      simp only [cond_false] at h
      obtain ⟨h1, s', h2, h3⟩ := findAt_spec l (k + 1) i h
      exact ⟨by omega, s', by rw [show i - k = (i - (k + 1)) + 1 by omega, List.getElem?_cons_succ]; exact h2, h3⟩

theorem of_name {s : Src} {n : Nat} : Src.of n s = true ↔ s.name = some n := by
  cases s <;> simp [Src.of, Src.name]

theorem any_of {l : List Src} {n : Nat} (h : l.any (Src.of n) = false) : n ∉ l.filterMap Src.name := by
  intro hm
  rw [List.mem_filterMap] at hm
  obtain ⟨s, h1, h2⟩ := hm
  rw [List.any_eq_false] at h
  exact h s h1 (of_name.2 h2)

section
variable {G : Gh} {w : World} {h : List Ent}

theorem AOk.push {base : Nat → Option Addr} {cap : Nat → Nat} {a : Acc} (ha : AOk G w h base cap a) {e : Ent} {s : Src} {g : List Nat} (b : Option Addr) (c : Nat)
    (hl : Link G w h b c (VRel base cap a.ents) e s) (hn : ∀ n, s.name = some n → n ∉ a.srcs.filterMap Src.name) (hg : (g = a.gives ∧ ∀ m, s ≠ .own m) ∨ ∃ m, s = .own m ∧ g = m :: a.gives) :
    AOk G w h (updF base a.ents.length b) (updF cap a.ents.length c) (({ a with gives := g } : Acc).push e s) ∧ More base cap a (updF base a.ents.length b) (updF cap a.ents.length c) (({ a with gives := g } : Acc).push e s) := by
  have hm : More base cap a (updF base a.ents.length b) (updF cap a.ents.length c) (({ a with gives := g } : Acc).push e s) :=
    ⟨⟨[e], rfl⟩, ⟨[s], rfl⟩, fun i hi => ⟨updF_ne _ _ (by omega), updF_ne _ _ (by omega)⟩⟩
  refine ⟨⟨by simp [Acc.push, ha.len], fun i s' e' hs he => ?_, ?_, fun m => ?_⟩, hm⟩
  · simp only [Acc.push] at hs he
    by_cases hi : i < a.ents.length
    · rw [List.getElem?_append_left (by rw [← ha.len]; exact hi)] at hs
      rw [List.getElem?_append_left hi] at he
      have := ha.link i s' e' hs he
      rw [updF_ne _ _ (by omega), updF_ne _ _ (by omega)]
      exact this.mono fun u b hv => hv.more hm
    · have hi' : i = a.ents.length := by
        have := (List.getElem?_eq_some_iff.1 he).1
        simp at this
        omega
      subst hi'
      rw [List.getElem?_append_right (Nat.le_refl _), Nat.sub_self] at he
      rw [ha.len, List.getElem?_append_right (Nat.le_refl _), Nat.sub_self] at hs
      simp only [List.getElem?_cons_zero, Option.some.injEq] at hs he
      subst hs he
      rw [updF_same, updF_same]
      exact hl.mono fun u b hv => hv.more hm
  · simp only [Acc.push, List.filterMap_append]
    cases hs : s.name with
    | none => simp [List.filterMap_cons, hs]; exact ha.nodup
    | some n =>
      simp only [List.filterMap_cons, hs, List.filterMap_nil]
      rw [List.nodup_append]
      refine ⟨ha.nodup, by simp, fun x hx y hy => ?_⟩
      simp only [List.mem_singleton] at hy
      subst hy
      rintro rfl
      exact hn x hs hx
  · simp only [Acc.push, List.mem_append, List.mem_singleton]
    rcases hg with ⟨rfl, hno⟩ | ⟨m', rfl, rfl⟩
    · rw [ha.gives]
      exact ⟨.inl, fun h1 => h1.elim id fun h2 => absurd h2.symm (hno m)⟩
    · rw [List.mem_cons, ha.gives]
      constructor
      · rintro (rfl | h1)
        · exact .inr rfl
        · exact .inl h1
      · rintro (h1 | h1)
        · exact .inr h1
        · injection h1 with h1; exact .inl h1

/-- What conv does, to the value of a cell. -/
theorem conv_ok {base : Nat → Option Addr} {cap : Nat → Nat} {q : Nat → Ent} {a a' : Acc} {pm : PM} {b b' : BV} {v : Value} (hh : RelH G w h) (hq : ∀ n, q n ≠ .gone → h[n]? = some (q n)) (ha : AOk G w h base cap a)
    (hv : RelB G w h v b) (hs : conv q pm b a = some (b', a')) : ∃ base' cap', AOk G w h base' cap' a' ∧ More base cap a base' cap' a' ∧ VRel base' cap' a'.ents v b' ∧ b'.known = true := by
  have same : ∀ {n i : Nat} {x : Arr}, h[n]? = some (.arr x) → v = .slice (G.base n) x.rows.length (G.cap n) → findAt (Src.isArr n) 0 a.srcs = some i → VRel base cap a.ents v (.ref i) := by
    intro n i x hx hvx hf
    obtain ⟨_, s, h1, h2⟩ := findAt_spec _ _ _ hf
    rw [Nat.sub_zero] at h1
    have hi : i < a.ents.length := by rw [ha.len]; exact (List.getElem?_eq_some_iff.1 h1).1
    have hl := ha.link i s _ h1 (List.getElem?_eq_getElem hi)
    cases s with
    | arr m =>
      simp only [Src.isArr] at h2
      have := Nat.eq_of_beq_eq_true h2
      subst this
      obtain ⟨x', p1, p2, p3, p4, p5⟩ := hl
      rw [hx] at p1
      injection p1 with p1
      injection p1 with p1
      subst p1
      exact ⟨_, by rw [List.getElem?_eq_getElem hi, p3]; rfl, by rw [p4, p5]; exact hvx⟩
    | upd m =>
      simp only [Src.isArr] at h2
      have := Nat.eq_of_beq_eq_true h2
      subst this
      obtain ⟨x', p1, p2, _, p3, p4, p5⟩ := hl
      rw [hx] at p1
      injection p1 with p1
      injection p1 with p1
      subst p1
      exact ⟨_, by rw [List.getElem?_eq_getElem hi, p3]; rfl, by rw [p4, p5]; exact hvx⟩
    | own m => cases h2
    | nil r => cases h2
    | sub m lo len => cases h2
    | lit r xs => cases h2
    | box m off len => cases h2
  have new : ∀ {z : Arr} {s : Src} {g : List Nat} {bb : Option Addr} {c : Nat}, Link G w h bb c (VRel base cap a.ents) (.arr z) s → (∀ n, s.name = some n → n ∉ a.srcs.filterMap Src.name) → ((g = a.gives ∧ ∀ m, s ≠ .own m) ∨ ∃ m, s = .own m ∧ g = m :: a.gives) →
      v = .slice bb z.rows.length c → ({ a with gives := g } : Acc).ref (.arr z) s = some (b', a') → ∃ base' cap', AOk G w h base' cap' a' ∧ More base cap a base' cap' a' ∧ VRel base' cap' a'.ents v b' ∧ b'.known = true := by
    intro z s g bb c hl hn hg hvx hr
    simp only [Acc.ref, Option.some.injEq, Prod.mk.injEq] at hr
    obtain ⟨rfl, rfl⟩ := hr
    obtain ⟨p1, p2⟩ := ha.push bb c hl hn hg
    refine ⟨_, _, p1, p2, ⟨z, ?_, ?_⟩, rfl⟩
    · simp [Acc.push]
    · rw [updF_same, updF_same]; exact hvx
  unfold conv at hs
  cases hfl : b.flat with
  | true =>
    rw [hfl] at hs
    simp only [cond_true, Option.some.injEq, Prod.mk.injEq] at hs
    obtain ⟨rfl, rfl⟩ := hs
    refine ⟨base, cap, ha, More.refl _ _ _, ?_, ?_⟩
    · cases b <;> first | exact hv | cases hfl
    · cases b <;> first | rfl | cases hfl
  | false =>
    rw [hfl] at hs
    simp only [cond_false] at hs
    split at hs
    · rename_i n
      cases hn : q n <;> rw [hn] at hs <;> simp only [reduceCtorEq] at hs
      rename_i x
      have harr := hq n (by rw [hn]; simp)
      rw [hn] at harr
      obtain ⟨x', hx', hvx⟩ := hv
      rw [harr] at hx'
      injection hx' with hx'
      injection hx' with hx'
      subst hx'
      cases hf : findAt (Src.isArr n) 0 a.srcs with
      | some i =>
        rw [hf] at hs
        simp only [Option.some.injEq, Prod.mk.injEq] at hs
        obtain ⟨rfl, rfl⟩ := hs
        exact ⟨base, cap, ha, More.refl _ _ _, same harr hvx hf, rfl⟩
      | none =>
      rw [hf] at hs
      simp only at hs
      cases hc : (x.plain && !(a.srcs.any (Src.of n))) with
      | false => rw [hc] at hs; cases hs
      | true =>
        rw [hc] at hs
        simp only [cond_true] at hs
        simp only [Bool.and_eq_true, Bool.not_eq_true'] at hc
        exact new (g := a.gives) (s := .arr n) ⟨x, harr, hc.1, rfl, rfl, rfl⟩ (fun m hm => by simp only [Src.name, Option.some.injEq] at hm; subst hm; exact any_of hc.2) (.inl ⟨rfl, fun m e => by cases e⟩) hvx hs
    · rename_i n lo len
      cases hn : q n <;> rw [hn] at hs <;> simp only [reduceCtorEq] at hs
      rename_i x
      have harr := hq n (by rw [hn]; simp)
      rw [hn] at harr
      obtain ⟨x', bb, hx', hle, hvx, hbb⟩ := hv
      rw [harr] at hx'
      injection hx' with hx'
      injection hx' with hx'
      subst hx'
      have hlen : ((x.rows.drop lo).take len).length = len := by rw [List.length_take, List.length_drop]; omega
      cases hc : (x.plain && !(a.srcs.any (Src.of n))) with
      | false => rw [hc] at hs; cases hs
      | true =>
        rw [hc] at hs
        simp only [cond_true] at hs
        simp only [Bool.and_eq_true, Bool.not_eq_true'] at hc
        exact new (g := a.gives) (s := .sub n lo len) ⟨x, harr, hc.1, hle, rfl, rfl, hbb⟩ (fun m hm => by simp only [Src.name, Option.some.injEq] at hm; subst hm; exact any_of hc.2) (.inl ⟨rfl, fun m e => by cases e⟩) (by rw [hlen]; exact hvx) hs
    · rename_i ho r xs
      obtain ⟨bb, c, hvx, h3⟩ := relCell_sl.1 (show RelCell w (fun b => G.zone b = .frz) (.sl r) v xs from hv)
      exact new (g := a.gives) (s := .lit r xs) ⟨rfl, h3⟩ (fun m hm => by cases hm) (.inl ⟨rfl, fun m e => by cases e⟩) hvx hs
    · rename_i r
      obtain ⟨bb, hvx⟩ := hv
      exact new (g := a.gives) (s := .lit r []) ⟨rfl, (Nat.le_refl 0 : ([] : List r.den).length ≤ 0), .inl rfl⟩ (fun m hm => by cases hm) (.inl ⟨rfl, fun m e => by cases e⟩) (c := 0) hvx hs
    · rename_i r
      obtain ⟨bb, hvx⟩ := hv
      exact new (g := a.gives) (s := .nil r) ⟨rfl, rfl⟩ (fun m hm => by cases hm) (.inl ⟨rfl, fun m e => by cases e⟩) (bb := bb) (c := 0) hvx hs
    · rename_i n
      cases hn : q n <;> rw [hn] at hs <;> simp only [reduceCtorEq] at hs
      rename_i x
      have harr := hq n (by rw [hn]; simp)
      rw [hn] at harr
      obtain ⟨x', hx', hvx⟩ := hv
      rw [harr] at hx'
      injection hx' with hx'
      injection hx' with hx'
      subst hx'
      cases hc : (x.own && x.plain && !(a.srcs.any (Src.of n))) with
      | false => rw [hc] at hs; cases hs
      | true =>
        rw [hc] at hs
        simp only [cond_true] at hs
        simp only [Bool.and_eq_true, Bool.not_eq_true'] at hc
        exact new (g := n :: a.gives) (s := .own n) ⟨x, x.rows, harr, hc.1.1, rfl, (relArr_of hh harr).2.1, own_slice hh harr hc.1.1, (relArr_of hh harr).1.2 hc.1.1⟩ (fun m hm => by simp only [Src.name, Option.some.injEq] at hm; subst hm; exact any_of hc.2) (.inr ⟨n, rfl, rfl⟩) hvx hs
    · rename_i n lo len
      cases hn : q n <;> rw [hn] at hs <;> simp only [reduceCtorEq] at hs
      rename_i x
      have harr := hq n (by rw [hn]; simp)
      rw [hn] at harr
      obtain ⟨x', bb, hx', hle, hvx, hbb⟩ := hv
      rw [harr] at hx'
      injection hx' with hx'
      injection hx' with hx'
      subst hx'
      have hlen : ((x.rows.drop lo).take len).length = len := by rw [List.length_take, List.length_drop]; omega
      cases hc : (x.own && x.plain && !(a.srcs.any (Src.of n))) with
      | false => rw [hc] at hs; cases hs
      | true =>
        rw [hc] at hs
        simp only [cond_true] at hs
        simp only [Bool.and_eq_true, Bool.not_eq_true'] at hc
        exact new (g := n :: a.gives) (s := .own n) ⟨x, _, harr, hc.1.1, rfl, fun hv => by rw [(relArr_of hh harr).2.1 hv, Nat.zero_sub], sub_sl (own_slice hh harr hc.1.1) hle hbb, sub_clean (own_slice hh harr hc.1.1) ((relArr_of hh harr).1.2 hc.1.1) hbb⟩ (fun m hm => by simp only [Src.name, Option.some.injEq] at hm; subst hm; exact any_of hc.2) (.inr ⟨n, rfl, rfl⟩) (by show v = .slice bb (List.take len (List.drop lo x.rows)).length _; rw [hlen]; exact hvx) hs
    · rename_i n
      cases hn : q n <;> rw [hn] at hs <;> simp only [reduceCtorEq] at hs
      rename_i x
      have harr := hq n (by rw [hn]; simp)
      rw [hn] at harr
      obtain ⟨x', hx', hvx⟩ := hv
      rw [harr] at hx'
      injection hx' with hx'
      injection hx' with hx'
      subst hx'
      cases hf : findAt (Src.isArr n) 0 a.srcs with
      | some i =>
        rw [hf] at hs
        simp only [Option.some.injEq, Prod.mk.injEq] at hs
        obtain ⟨rfl, rfl⟩ := hs
        exact ⟨base, cap, ha, More.refl _ _ _, same harr hvx hf, rfl⟩
      | none =>
      rw [hf] at hs
      simp only at hs
      cases hc : (x.own && x.plain && !(a.srcs.any (Src.of n))) with
      | false => rw [hc] at hs; cases hs
      | true =>
        rw [hc] at hs
        simp only [cond_true] at hs
        simp only [Bool.and_eq_true, Bool.not_eq_true'] at hc
        exact new (g := a.gives) (s := .upd n) ⟨x, harr, hc.1.2, hc.1.1, rfl, rfl, rfl⟩ (fun m hm => by simp only [Src.name, Option.some.injEq] at hm; subst hm; exact any_of hc.2) (.inl ⟨rfl, fun m e => by cases e⟩) hvx hs
    · rename_i f caps
      cases hc : caps.all CapV.flat with
      | false => rw [hc] at hs; cases hs
      | true =>
        rw [hc] at hs
        simp only [cond_true, Option.some.injEq, Prod.mk.injEq] at hs
        obtain ⟨rfl, rfl⟩ := hs
        refine ⟨base, cap, ha, More.refl _ _ _, ?_, rfl⟩
        obtain ⟨vs, h1, h2, h3⟩ := hv
        refine ⟨vs, h1, h2, fun i c hi => ?_⟩
        obtain ⟨u, u1, u2⟩ := h3 i c hi
        have := List.all_eq_true.1 hc c (List.mem_of_getElem? hi)
        refine ⟨u, u1, ?_⟩
        cases c with
        | ref n => cases this
        | ptr n off => cases this
        | _ => exact u2
    · cases hs
end
end Go.Sx

/- Handing in: all arguments. -/
set_option linter.unusedVariables false
set_option linter.unusedSimpArgs false
namespace Go.Sx

section
variable {G : Gh} {w : World} {h : List Ent}

theorem convs_ok {q : Nat → Ent} {ms : List PM} (hh : RelH G w h) (hq : ∀ n, q n ≠ .gone → h[n]? = some (q n)) (get : Nat → Option Value) : ∀ (l l' : List BV) (i o : Nat) (a a' : Acc) (base : Nat → Option Addr) (cap : Nat → Nat), AOk G w h base cap a →
    (∀ (k : Nat) (b : BV), l[k]? = some b → ∃ u, get (o + k) = some u ∧ u.oneCell' = true ∧ RelB G w h u b) → convs q ms i l a = some (l', a') →
    ∃ base' cap', AOk G w h base' cap' a' ∧ More base cap a base' cap' a' ∧ l'.length = l.length ∧ ∀ (k : Nat) (b' : BV), l'[k]? = some b' → ∃ u, get (o + k) = some u ∧ u.oneCell' = true ∧ VRel base' cap' a'.ents u b'
  | [], l', i, o, a, a', base, cap, ha, hg, hs => by
    simp only [convs, Option.some.injEq, Prod.mk.injEq] at hs
    obtain ⟨rfl, rfl⟩ := hs
    exact ⟨base, cap, ha, More.refl _ _ _, rfl, fun k b' hk => by simp at hk⟩
  | b :: l, l', i, o, a, a', base, cap, ha, hg, hs => by
    simp only [convs] at hs
    cases h1 : conv q (ms.getD i .imm) b a with
    | none => rw [h1] at hs; cases hs
    | some x =>
      obtain ⟨b1, a1⟩ := x
      rw [h1] at hs
      simp only at hs
      cases h2 : convs q ms (i + 1) l a1 with
      | none => rw [h2] at hs; cases hs
      | some y =>
        obtain ⟨l1, a2⟩ := y
        rw [h2] at hs
        simp only [Option.some.injEq, Prod.mk.injEq] at hs
        obtain ⟨rfl, rfl⟩ := hs
        obtain ⟨u, u1, u2, u3⟩ := hg 0 b rfl
        obtain ⟨base1, cap1, p1, p2, p3, p4⟩ := conv_ok hh hq ha u3 h1
        obtain ⟨base2, cap2, q1, q2, q3, q4⟩ := convs_ok hh hq get l l1 (i + 1) (o + 1) a1 a2 base1 cap1 p1 (fun k b hk => by
          have := hg (k + 1) b (by simpa using hk)
          rwa [show o + (k + 1) = o + 1 + k by omega] at this) h2
        refine ⟨base2, cap2, q1, p2.trans q2, by simp [q3], fun k b' hk => ?_⟩
        cases k with
        | zero =>
          simp only [List.getElem?_cons_zero, Option.some.injEq] at hk
          subst hk
          exact ⟨u, u1, u2, p3.more q2⟩
        | succ k =>
          simp only [List.getElem?_cons_succ] at hk
          have := q4 k b' hk
          rwa [show o + 1 + k = o + (k + 1) by omega] at this

/-- An argument, as the callee has it. -/
def ARel (G : Gh) (base : Nat → Option Addr) (cap : Nat → Nat) (a : Acc) (v : Value) : TV → Prop
  | .c (.v (.ptrB i 0)) => ∃ n off len, a.srcs[i]? = some (.box n off len) ∧ v = .pointer (some ⟨(G.blk n).1, (G.blk n).2 + off, none⟩)
  | .c (.v b) => VRel base cap a.ents v b
  | .c (.agg cs) => ∃ vs : Array Value, v = .agg vs ∧ vs.size = cs.length ∧ ∀ (k : Nat) (b : BV), cs[k]? = some b → ∃ u, vs[k]? = some u ∧ u.oneCell' = true ∧ VRel base cap a.ents u b
  | .tup _ => False

theorem ARel.more {b0 b1 : Nat → Option Addr} {c0 c1 : Nat → Nat} {a0 a1 : Acc} (m : More b0 c0 a0 b1 c1 a1) {v : Value} {x : TV} (hv : ARel G b0 c0 a0 v x) : ARel G b1 c1 a1 v x := by
  unfold ARel at hv ⊢
  split at hv
  · obtain ⟨n, off, len, p1, p2⟩ := hv
    obtain ⟨l, e⟩ := m.srcs
    exact ⟨n, off, len, by rw [e, List.getElem?_append_left (List.getElem?_eq_some_iff.1 p1).1]; exact p1, p2⟩
  · exact VRel.more m hv
  · obtain ⟨vs, p1, p2, p3⟩ := hv
    exact ⟨vs, p1, p2, fun k b hk => by obtain ⟨u, q1, q2, q3⟩ := p3 k b hk; exact ⟨u, q1, q2, q3.more m⟩⟩
  · exact hv

theorem conv_noptr {q : Nat → Ent} {a a' : Acc} {pm : PM} {b b' : BV} (hs : conv q pm b a = some (b', a')) : ∀ i, b' ≠ .ptrB i 0 := by
  intro i e
  subst e
  unfold conv at hs
  cases hfl : b.flat with
  | true =>
    rw [hfl] at hs
    simp only [cond_true, Option.some.injEq, Prod.mk.injEq] at hs
    obtain ⟨rfl, _⟩ := hs
    cases hfl
  | false =>
    rw [hfl] at hs
    simp only [cond_false] at hs
    have hbc : ∀ {g : Bool} {o : Option (BV × Acc)} {r : BV × Acc}, (bif g then o else none) = some r → o = some r := by
      intro g o r hr
      cases g with
      | true => exact hr
      | false => cases hr
    split at hs
    · split at hs
      · split at hs
        · simp at hs
        · have := hbc hs; simp [Acc.ref] at this
      · cases hs
    · split at hs
      · have := hbc hs; simp [Acc.ref] at this
      · cases hs
    · simp [Acc.ref] at hs
    · simp [Acc.ref] at hs
    · simp [Acc.ref] at hs
    · split at hs
      · have := hbc hs; simp [Acc.ref] at this
      · cases hs
    · split at hs
      · have := hbc hs; simp [Acc.ref] at this
      · cases hs
    · split at hs
      · split at hs
        · simp at hs
        · have := hbc hs; simp [Acc.ref] at this
      · cases hs
    · have := hbc hs; simp at this
    · cases hs

theorem convArg_ok {q : Nat → Ent} {pm : PM} {a a' : Acc} {base : Nat → Option Addr} {cap : Nat → Nat} {x x' : TV} {v : Value} (hh : RelH G w h) (hq : ∀ n, q n ≠ .gone → h[n]? = some (q n)) (ha : AOk G w h base cap a)
    (hv : RelTV G w h v x) (hs : convArg q pm x a = some (x', a')) : ∃ base' cap', AOk G w h base' cap' a' ∧ More base cap a base' cap' a' ∧ ARel G base' cap' a' v x' := by
  unfold convArg at hs
  split at hs
  · rename_i n off
    split at hs
    · rename_i sz ms
      obtain ⟨cs0, hcs0, hvx⟩ := hv
      split at hs
      · rename_i i hf
        simp only [Option.some.injEq, Prod.mk.injEq] at hs
        obtain ⟨rfl, rfl⟩ := hs
        obtain ⟨_, s, h1, h2⟩ := findAt_spec _ _ _ hf
        rw [Nat.sub_zero] at h1
        cases s with
        | box m o l =>
          simp only [Src.isBox, Bool.and_eq_true] at h2
          have e1 := Nat.eq_of_beq_eq_true h2.1
          have e2 := Nat.eq_of_beq_eq_true h2.2.1
          subst e1 e2
          exact ⟨base, cap, ha, More.refl _ _ _, m, o, l, h1, hvx⟩
        | _ => cases h2
      · cases hn : q n <;> rw [hn] at hs <;> simp only [reduceCtorEq] at hs
        rename_i cs
        have hbx := hq n (by rw [hn]; simp)
        rw [hn] at hbx
        cases hle : (Nat.beq off 0 && Nat.beq sz cs.length) with
        | false => rw [hle] at hs; cases hs
        | true =>
          rw [hle] at hs
          simp only [cond_true] at hs
          simp only [Bool.and_eq_true] at hle
          have ho := Nat.eq_of_beq_eq_true hle.1
          have hsz := Nat.eq_of_beq_eq_true hle.2
          subst ho
          cases hc : convs q ms 0 cs a with
          | none => rw [hc] at hs; cases hs
          | some y =>
            obtain ⟨cs', a1⟩ := y
            rw [hc] at hs
            simp only at hs
            cases hany : a1.srcs.any (Src.of n) with
            | true => rw [hany] at hs; cases hs
            | false =>
              rw [hany] at hs
              simp only [cond_false, Option.some.injEq, Prod.mk.injEq] at hs
              obtain ⟨rfl, rfl⟩ := hs
              obtain ⟨z1, vs, b1, b2, b3⟩ : RelBox G w h n cs := hh.ent n _ hbx
              obtain ⟨base1, cap1, p1, p2, p3, p4⟩ := convs_ok hh hq (fun k => vs[k]?) cs cs' 0 (G.blk n).2 a a1 base cap ha (fun k b hk => by
                exact b3 k b hk) hc
              have hlen : cs'.length = sz := by rw [p3, hsz]
              obtain ⟨r1, r2⟩ := p1.push (e := .box cs') (s := .box n 0 sz) (g := a1.gives) none 0 ⟨cs, cs', vs, hbx, rfl, hlen, by omega, b1, p4⟩ (fun m hm => by simp only [Src.name, Option.some.injEq] at hm; subst hm; exact any_of hany) (.inl ⟨rfl, fun m e => by cases e⟩)
              refine ⟨_, _, r1, p2.trans r2, n, 0, sz, ?_, hvx⟩
              simp [Acc.push, p1.len]
    · cases hs
  · rename_i b hnp
    cases hc : conv q pm b a with
    | none => rw [hc] at hs; cases hs
    | some y =>
      obtain ⟨b', a1⟩ := y
      rw [hc] at hs
      simp only [Option.some.injEq, Prod.mk.injEq] at hs
      obtain ⟨rfl, rfl⟩ := hs
      obtain ⟨base1, cap1, p1, p2, p3, p4⟩ := conv_ok hh hq ha hv hc
      refine ⟨base1, cap1, p1, p2, ?_⟩
      unfold ARel
      split
      · rename_i i e
        simp only [TV.c.injEq, CV.v.injEq] at e
        exact absurd e (conv_noptr hc i)
      · rename_i b'' _ e
        simp only [TV.c.injEq, CV.v.injEq] at e
        subst e
        exact p3
      · rename_i e; cases e
      · rename_i e; cases e
  · rename_i cs
    cases hc : convs q (cs.map fun _ => pm) 0 cs a with
    | none => rw [hc] at hs; cases hs
    | some y =>
      obtain ⟨cs', a1⟩ := y
      rw [hc] at hs
      simp only [Option.some.injEq, Prod.mk.injEq] at hs
      obtain ⟨rfl, rfl⟩ := hs
      obtain ⟨vs, e1, e2, e3⟩ := hv
      obtain ⟨base1, cap1, p1, p2, p3, p4⟩ := convs_ok hh hq (fun k => vs[k]?) cs cs' 0 0 a a1 base cap ha (fun k b hk => by rw [Nat.zero_add]; exact e3 k b hk) hc
      exact ⟨base1, cap1, p1, p2, vs, e1, by rw [e2, p3], fun k b hk => by have := p4 k b hk; rwa [Nat.zero_add] at this⟩
  · cases hs

theorem convArgs_ok {q : Nat → Ent} (hh : RelH G w h) (hq : ∀ n, q n ≠ .gone → h[n]? = some (q n)) (get : Nat → Option Value) : ∀ (l l' : List TV) (ms : List PM) (o : Nat) (a a' : Acc) (base : Nat → Option Addr) (cap : Nat → Nat), AOk G w h base cap a →
    (∀ (k : Nat) (x : TV), l[k]? = some x → ∃ u, get (o + k) = some u ∧ RelTV G w h u x) → convArgs q ms l a = some (l', a') →
    ∃ base' cap', AOk G w h base' cap' a' ∧ More base cap a base' cap' a' ∧ l'.length = l.length ∧ ∀ (k : Nat) (x' : TV), l'[k]? = some x' → ∃ u, get (o + k) = some u ∧ ARel G base' cap' a' u x'
  | [], l', ms, o, a, a', base, cap, ha, hg, hs => by
    simp only [convArgs, Option.some.injEq, Prod.mk.injEq] at hs
    obtain ⟨rfl, rfl⟩ := hs
    exact ⟨base, cap, ha, More.refl _ _ _, rfl, fun k b' hk => by simp at hk⟩
  | x :: l, l', ms, o, a, a', base, cap, ha, hg, hs => by
    simp only [convArgs] at hs
    cases h1 : convArg q (ms.headD .imm) x a with
    | none => rw [h1] at hs; cases hs
    | some y =>
      obtain ⟨x1, a1⟩ := y
      rw [h1] at hs
      simp only at hs
      cases h2 : convArgs q ms.tail l a1 with
      | none => rw [h2] at hs; cases hs
      | some y =>
        obtain ⟨l1, a2⟩ := y
        rw [h2] at hs
        simp only [Option.some.injEq, Prod.mk.injEq] at hs
        obtain ⟨rfl, rfl⟩ := hs
        obtain ⟨u, u1, u3⟩ := hg 0 x rfl
        obtain ⟨base1, cap1, p1, p2, p3⟩ := convArg_ok hh hq ha u3 h1
        obtain ⟨base2, cap2, q1, q2, q3, q4⟩ := convArgs_ok hh hq get l l1 ms.tail (o + 1) a1 a2 base1 cap1 p1 (fun k b hk => by
          have := hg (k + 1) b (by simpa using hk)
          rwa [show o + (k + 1) = o + 1 + k by omega] at this) h2
        refine ⟨base2, cap2, q1, p2.trans q2, by simp [q3], fun k b' hk => ?_⟩
        cases k with
        | zero =>
          simp only [List.getElem?_cons_zero, Option.some.injEq] at hk
          subst hk
          exact ⟨u, u1, p3.more q2⟩
        | succ k =>
          simp only [List.getElem?_cons_succ] at hk
          have := q4 k b' hk
          rwa [show o + 1 + k = o + (k + 1) by omega] at this
end
end Go.Sx

/- The callee's view. -/
set_option linter.unusedVariables false
set_option linter.unusedSimpArgs false
namespace Go.Sx

def Src.isRow (n : Nat) : Src → Bool
  | .arr m | .upd m | .own m | .sub m _ _ => Nat.beq m n
  | _ => false
def Src.isBx (n : Nat) : Src → Bool
  | .box m _ _ => Nat.beq m n
  | _ => false

def isVirt (h : List Ent) (n : Nat) : Bool := match h[n]? with | some (.arr x) => x.virt | _ => false

def zin (h : List Ent) (srcs : List Src) : Zone → Zone
  | .frz => .frz
  | .hid => .hid
  | .top n => bif isVirt h n then .hid else match findAt (Src.isRow n) 0 srcs with | some i => .top i | none => .hid
  | .box n => match findAt (Src.isBx n) 0 srcs with | some i => .box i | none => .hid

theorem isRow_name {s : Src} {n : Nat} (h : s.isRow n = true) : s.name = some n := by
  cases s <;> simp only [Src.isRow, Bool.false_eq_true] at h <;> simp only [Src.name, Option.some.injEq] <;> exact Nat.eq_of_beq_eq_true h
theorem isBx_name {s : Src} {n : Nat} (h : s.isBx n = true) : s.name = some n := by
  cases s <;> simp only [Src.isBx, Bool.false_eq_true] at h <;> simp only [Src.name, Option.some.injEq] <;> exact Nat.eq_of_beq_eq_true h

theorem findAt_none {p : Src → Bool} : ∀ (l : List Src) (k : Nat), findAt p k l = none → ∀ s, s ∈ l → p s = false
  | [], k, h, s, hs => by cases hs
  | x :: l, k, h, s, hs => by
    simp only [findAt] at h
    cases hp : p x with
    | true => rw [hp] at h; cases h
    | false =>
      rw [hp] at h
      rcases List.mem_cons.1 hs with rfl | hs
      · exact hp
      · exact findAt_none l (k + 1) h s hs

/-- One name, one place. -/
theorem name_unique : ∀ {l : List Src}, (l.filterMap Src.name).Nodup → ∀ {i j : Nat} {s t : Src} {n : Nat}, l[i]? = some s → l[j]? = some t → s.name = some n → t.name = some n → i = j
  | [], _, i, j, s, t, n, h1, h2, h3, h4 => by simp at h1
  | x :: l, hd, i, j, s, t, n, h1, h2, h3, h4 => by
    have hd' : (l.filterMap Src.name).Nodup := by
      simp only [List.filterMap_cons] at hd
      split at hd
      · exact hd
      · exact (List.nodup_cons.1 hd).2
    have hno : x.name = some n → ∀ (k : Nat) (u : Src), l[k]? = some u → u.name ≠ some n := by
      intro hx k u hk hu
      simp only [List.filterMap_cons, hx, List.nodup_cons] at hd
      exact hd.1 (List.mem_filterMap.2 ⟨u, List.mem_of_getElem? hk, hu⟩)
    cases i with
    | zero =>
      simp only [List.getElem?_cons_zero, Option.some.injEq] at h1
      subst h1
      cases j with
      | zero => rfl
      | succ j => simp only [List.getElem?_cons_succ] at h2; exact absurd h4 (hno h3 j t h2)
    | succ i =>
      simp only [List.getElem?_cons_succ] at h1
      cases j with
      | zero =>
        simp only [List.getElem?_cons_zero, Option.some.injEq] at h2
        subst h2
        exact absurd h3 (hno h4 i s h1)
      | succ j =>
        simp only [List.getElem?_cons_succ] at h2
        rw [name_unique hd' h1 h2 h3 h4]

theorem findAt_of {p : Src → Bool} {l : List Src} {n : Nat} (hd : (l.filterMap Src.name).Nodup) (hp : ∀ s, p s = true → s.name = some n) {i : Nat} {s : Src} (hi : l[i]? = some s) (hs : p s = true) : findAt p 0 l = some i := by
  cases hf : findAt p 0 l with
  | none => have := findAt_none l 0 hf s (List.mem_of_getElem? hi); rw [hs] at this; cases this
  | some j =>
    obtain ⟨_, t, h1, h2⟩ := findAt_spec _ _ _ hf
    rw [Nat.sub_zero] at h1
    rw [name_unique hd h1 hi (hp t h2) (hp s hs)]

section
variable {G : Gh} {w : World} {h : List Ent}

def Gh.callee (G : Gh) (h : List Ent) (srcs : List Src) (base : Nat → Option Addr) (cap : Nat → Nat) : Gh :=
  { zone := fun b => zin h srcs (G.zone b), blk := fun i => match srcs[i]? with | some (.box n off _) => ((G.blk n).1, (G.blk n).2 + off) | _ => (0, 0), base := base, cap := cap }

theorem zin_live {srcs : List Src} {z : Zone} (h1 : zin h srcs z ≠ .frz) (h2 : zin h srcs z ≠ .hid) : z ≠ .frz ∧ z ≠ .hid := by
  cases z with
  | frz => exact absurd rfl h1
  | hid => exact absurd rfl h2
  | top n => exact ⟨by simp, by simp⟩
  | box n => exact ⟨by simp, by simp⟩

theorem callee_relB {base : Nat → Option Addr} {cap : Nat → Nat} {a : Acc} {v : Value} {b : BV} (hv : VRel base cap a.ents v b) : RelB (G.callee h a.srcs base cap) w a.ents v b := by
  cases b with
  | fn f caps =>
    obtain ⟨vs, h1, h2, h3⟩ := hv
    exact ⟨vs, h1, h2, fun i c hi => by obtain ⟨u, u1, u2⟩ := h3 i c hi; exact ⟨u, u1, CapV.plain_cap u2⟩⟩
  | int k n => exact hv
  | bool b => exact hv
  | str s => exact hv
  | ref n => exact hv
  | _ => exact hv.elim

theorem callee_relH {base : Nat → Option Addr} {cap : Nat → Nat} {a : Acc} (hh : RelH G w h) (ha : AOk G w h base cap a) : RelH (G.callee h a.srcs base cap) w a.ents := by
  have hfr : ∀ b, b < w.heap.size → G.zone b = .frz → (G.callee h a.srcs base cap).zone b = .frz ∧ w.heap[b]? = w.heap[b]? := fun b _ hz => ⟨by simp only [Gh.callee, hz]; rfl, rfl⟩
  refine ⟨fun i e he => ?_, fun b h1 h2 vs hb k hk => ?_⟩
  · have hi : i < a.srcs.length := by rw [← ha.len]; exact (List.getElem?_eq_some_iff.1 he).1
    have hs := List.getElem?_eq_getElem hi
    generalize a.srcs[i] = s at hs
    have hl := ha.link i s e hs he
    have htop : ∀ n, s.isRow n = true → isVirt h n = false → ∀ b, G.zone b = .top n → (G.callee h a.srcs base cap).zone b = .top i := by
      intro n hn hv b hz
      simp only [Gh.callee, hz, zin, hv, cond_false]
      rw [findAt_of ha.nodup (fun s => isRow_name) hs hn]
    have hvirt : ∀ {n : Nat} {x : Arr}, h[n]? = some (.arr x) → isVirt h n = x.virt := by intro n x hx; unfold isVirt; rw [hx]
    cases s with
    | arr n =>
      obtain ⟨x, p1, p2, rfl, p4, p5⟩ := hl
      obtain ⟨r1, r2, r3⟩ := relArr_of hh p1
      refine ⟨⟨rfl, fun ho => (by cases ho)⟩, fun hv => (by cases hv), ?_⟩
      show RelSl w _ _ x.row (base i) (cap i) x.rows
      rw [p4, p5]
      cases hv : x.virt with
      | true => exact ⟨r3.1, .inl (r2 hv)⟩
      | false =>
        refine r3.mono (fun b hb hz => ⟨?_, rfl⟩) hfr
        have ht := htop n (by simp [Src.isRow]) (by rw [hvirt p1, hv])
        have hz' : G.zone b = .frz ∨ G.zone b = .top n := by
          unfold ZArr at hz
          split at hz
          · exact .inr hz
          · split at hz
            · exact hz
            · exact .inl hz
        simp only [ZArr, Bool.false_eq_true, if_false, if_true]
        rcases hz' with hz' | hz'
        · exact .inl (hfr b hb hz').1
        · exact .inr (ht b hz')
    | upd n =>
      obtain ⟨x, p1, p2, p0, rfl, p4, p5⟩ := hl
      have r3 := own_slice hh p1 p0
      refine ⟨⟨rfl, fun _ => by show CleanAt w x.row (base i) (cap i); rw [p4, p5]; exact (relArr_of hh p1).1.2 p0⟩, fun hv => (by cases hv), ?_⟩
      show RelSl w _ _ x.row (base i) (cap i) x.rows
      rw [p4, p5]
      cases hv : x.virt with
      | true => exact ⟨r3.1, .inl ((relArr_of hh p1).2.1 hv)⟩
      | false =>
        refine r3.mono (fun b hb hz => ⟨?_, rfl⟩) hfr
        have ht := htop n (by simp [Src.isRow]) (by rw [hvirt p1, hv])
        simp only [ZArr, if_true]
        exact ht b hz
    | own n =>
      obtain ⟨x, rows, p1, p0, rfl, r2, r3, r4⟩ := hl
      refine ⟨⟨rfl, fun _ => r4⟩, fun hv => (by cases hv), ?_⟩
      show RelSl w _ _ x.row (base i) (cap i) rows
      cases hv : x.virt with
      | true => exact ⟨r3.1, .inl (r2 hv)⟩
      | false =>
        refine r3.mono (fun b hb hz => ⟨?_, rfl⟩) hfr
        have ht := htop n (by simp [Src.isRow]) (by rw [hvirt p1, hv])
        simp only [ZArr, if_true]
        exact ht b hz
    | sub n lo len =>
      obtain ⟨x, p1, p2, hle, rfl, p4, p5⟩ := hl
      obtain ⟨r1, r2, r3⟩ := relArr_of hh p1
      refine ⟨⟨rfl, fun ho => (by cases ho)⟩, fun hv => (by cases hv), ?_⟩
      show RelSl w _ _ x.row (base i) (cap i) ((x.rows.drop lo).take len)
      rw [p4]
      have r4 := sub_sl r3 hle p5
      cases hv : x.virt with
      | true => exact ⟨r4.1, .inl (by rw [r2 hv]; omega)⟩
      | false =>
        refine r4.mono (fun b hb hz => ⟨?_, rfl⟩) hfr
        have ht := htop n (by simp [Src.isRow]) (by rw [hvirt p1, hv])
        have hz' : G.zone b = .frz ∨ G.zone b = .top n := by
          unfold ZArr at hz
          split at hz
          · exact .inr hz
          · split at hz
            · exact hz
            · exact .inl hz
        simp only [ZArr, Bool.false_eq_true, if_false, if_true]
        rcases hz' with hz' | hz'
        · exact .inl (hfr b hb hz').1
        · exact .inr (ht b hz')
    | nil r =>
      obtain ⟨rfl, r3⟩ := hl
      refine ⟨⟨rfl, fun _ _ h => absurd r3 h⟩, fun hv => (by cases hv), ?_⟩
      show RelSl w _ _ r (base i) (cap i) ([] : List r.den)
      exact ⟨Nat.zero_le _, .inl r3⟩
    | lit r xs =>
      obtain ⟨rfl, r3⟩ := hl
      refine ⟨⟨rfl, fun ho => (by cases ho)⟩, fun hv => (by cases hv), ?_⟩
      show RelSl w _ _ r (base i) (cap i) xs
      refine r3.mono (fun b hb hz => ⟨?_, rfl⟩) hfr
      simp only [ZArr, Bool.false_eq_true, if_false, if_true]
      exact .inl (hfr b hb hz).1
    | box n off len =>
      obtain ⟨cs, cs', vs, p1, rfl, p3, p4, p5, p6⟩ := hl
      obtain ⟨z1, vs2, b1, b2, b3⟩ : RelBox G w h n cs := hh.ent n _ p1
      have hvv : vs2 = vs := by
        obtain ⟨_, _, t1⟩ := b1
        obtain ⟨_, _, t2⟩ := p5
        rw [t1] at t2; injection t2 with t2; injection t2
      subst hvv
      have hblk : (G.callee h a.srcs base cap).blk i = ((G.blk n).1, (G.blk n).2 + off) := by simp only [Gh.callee, hs]
      refine ⟨?_, vs2, by rw [hblk]; exact b1, by rw [hblk]; simp only; omega, fun k b' hk => ?_⟩
      · rw [hblk]
        simp only [Gh.callee, z1, zin]
        rw [findAt_of ha.nodup (fun s => isBx_name) hs (by simp [Src.isBx])]
      · rw [hblk]
        obtain ⟨u, q1, q2, q3⟩ := p6 k b' hk
        exact ⟨u, q1, q2, callee_relB q3⟩
  · obtain ⟨h3, h4⟩ := zin_live h1 h2
    exact hh.thaw b h3 h4 vs hb k hk

theorem callee_relTV {base : Nat → Option Addr} {cap : Nat → Nat} {a : Acc} (ha : AOk G w h base cap a) {v : Value} {x : TV} (hv : ARel G base cap a v x) : RelTV (G.callee h a.srcs base cap) w a.ents v x := by
  unfold ARel at hv
  split at hv
  · rename_i i
    obtain ⟨n, off, len, p1, p2⟩ := hv
    have hi : i < a.ents.length := by rw [ha.len]; exact (List.getElem?_eq_some_iff.1 p1).1
    obtain ⟨cs, cs', vs, _, q2, _⟩ := ha.link i _ _ p1 (List.getElem?_eq_getElem hi)
    refine ⟨cs', by rw [List.getElem?_eq_getElem hi, q2], ?_⟩
    have hblk : (G.callee h a.srcs base cap).blk i = ((G.blk n).1, (G.blk n).2 + off) := by simp only [Gh.callee, p1]
    rw [hblk, Nat.add_zero]; exact p2
  · exact callee_relB hv
  · obtain ⟨vs, p1, p2, p3⟩ := hv
    exact ⟨vs, p1, p2, fun k b hk => by obtain ⟨u, q1, q2, q3⟩ := p3 k b hk; exact ⟨u, q1, q2, callee_relB q3⟩⟩
  · exact hv.elim
end
end Go.Sx

/- Coming back: names. -/
set_option linter.unusedVariables false
set_option linter.unusedSimpArgs false
namespace Go.Sx

theorem addNew_spec {n : Nat} {l : List Nat} (hd : l.Nodup) : (addNew n l).Nodup ∧ ∀ m, m ∈ addNew n l ↔ m ∈ l ∨ m = n := by
  unfold addNew
  cases hc : l.contains n with
  | true =>
    have := List.contains_iff_mem.1 hc
    exact ⟨hd, fun m => ⟨.inl, fun h => h.elim id fun e => e ▸ this⟩⟩
  | false =>
    have hc := not_mem_of_contains hc
    simp only [cond_false]
    refine ⟨?_, fun m => by simp⟩
    rw [List.nodup_append]
    exact ⟨hd, by simp, fun x hx y hy e => by simp only [List.mem_singleton] at hy; subst hy e; exact hc hx⟩

theorem newNames_spec (srcs : List Src) (l : List Nat) : (newNames srcs l).Nodup ∧ ∀ j, j ∈ newNames srcs l ↔ j ∈ l ∧ isNew srcs j = true := by
  unfold newNames
  suffices ∀ (l acc : List Nat), acc.Nodup → (l.foldl (fun acc j => bif isNew srcs j then addNew j acc else acc) acc).Nodup ∧ ∀ j, j ∈ l.foldl (fun acc j => bif isNew srcs j then addNew j acc else acc) acc ↔ j ∈ acc ∨ (j ∈ l ∧ isNew srcs j = true) by
    obtain ⟨h1, h2⟩ := this l [] List.nodup_nil
    exact ⟨h1, fun j => by rw [h2]; simp⟩
  intro l
  induction l with
  | nil => intro acc h; exact ⟨h, fun j => by simp⟩
  | cons x l ih =>
    intro acc hacc
    simp only [List.foldl_cons]
    cases hx : isNew srcs x with
    | true =>
      obtain ⟨a1, a2⟩ := addNew_spec (n := x) hacc
      obtain ⟨h1, h2⟩ := ih (addNew x acc) a1
      refine ⟨h1, fun j => ?_⟩
      simp only [cond_true]
      rw [h2, a2]
      constructor
      · rintro ((h | rfl) | h)
        · exact .inl h
        · exact .inr ⟨List.mem_cons_self, hx⟩
        · exact .inr ⟨List.mem_cons_of_mem _ h.1, h.2⟩
      · rintro (h | ⟨h, h'⟩)
        · exact .inl (.inl h)
        · rcases List.mem_cons.1 h with rfl | h
          · exact .inl (.inr rfl)
          · exact .inr ⟨h, h'⟩
    | false =>
      obtain ⟨h1, h2⟩ := ih acc hacc
      refine ⟨h1, fun j => ?_⟩
      simp only [cond_false]
      rw [h2]
      constructor
      · rintro (h | h)
        · exact .inl h
        · exact .inr ⟨List.mem_cons_of_mem _ h.1, h.2⟩
      · rintro (h | ⟨h, h'⟩)
        · exact .inl h
        · rcases List.mem_cons.1 h with rfl | h
          · rw [hx] at h'; cases h'
          · exact .inr ⟨h, h'⟩

theorem posOf_some : ∀ {l : List Nat} {j k i : Nat}, posOf j i l = some k → i ≤ k ∧ l[k - i]? = some j
  | [], j, k, i, h => by cases h
  | x :: l, j, k, i, h => by
    simp only [posOf] at h
    cases hx : Nat.beq x j with
    | true =>
      rw [hx] at h
      simp only [cond_true, Option.some.injEq] at h
      subst h
      exact ⟨Nat.le_refl _, by simp [Nat.eq_of_beq_eq_true hx]⟩
    | false =>
      rw [hx] at h
      simp only [cond_false] at h
      obtain ⟨h1, h2⟩ := posOf_some h
      exact ⟨by omega, by rw [show k - i = (k - (i + 1)) + 1 by omega, List.getElem?_cons_succ]; exact h2⟩

theorem posOf_none : ∀ {l : List Nat} {j i : Nat}, posOf j i l = none → j ∉ l
  | [], j, i, h => by simp
  | x :: l, j, i, h => by
    simp only [posOf] at h
    cases hx : Nat.beq x j with
    | true => rw [hx] at h; cases h
    | false =>
      rw [hx] at h
      simp only [cond_false] at h
      have := posOf_none h
      intro hm
      rcases List.mem_cons.1 hm with rfl | hm
      · rw [Nat.beq_refl] at hx; cases hx
      · exact this hm

theorem nodup_idx {α : Type} : ∀ {l : List α}, l.Nodup → ∀ {i j : Nat} {x : α}, l[i]? = some x → l[j]? = some x → i = j
  | [], _, i, j, x, h1, _ => by simp at h1
  | y :: l, hd, i, j, x, h1, h2 => by
    rw [List.nodup_cons] at hd
    cases i with
    | zero =>
      simp only [List.getElem?_cons_zero, Option.some.injEq] at h1
      subst h1
      cases j with
      | zero => rfl
      | succ j => simp only [List.getElem?_cons_succ] at h2; exact absurd (List.mem_of_getElem? h2) hd.1
    | succ i =>
      simp only [List.getElem?_cons_succ] at h1
      cases j with
      | zero =>
        simp only [List.getElem?_cons_zero, Option.some.injEq] at h2
        subst h2
        exact absurd (List.mem_of_getElem? h1) hd.1
      | succ j =>
        simp only [List.getElem?_cons_succ] at h2
        rw [nodup_idx hd.2 h1 h2]

theorem posOf_of {l : List Nat} (hd : l.Nodup) {j k : Nat} (hk : l[k]? = some j) : posOf j 0 l = some k := by
  cases hp : posOf j 0 l with
  | none => exact absurd (List.mem_of_getElem? hk) (posOf_none hp)
  | some i =>
    obtain ⟨_, h1⟩ := posOf_some hp
    rw [Nat.sub_zero] at h1
    rw [nodup_idx hd h1 hk]

theorem isNew_false {srcs : List Src} {j : Nat} (h : isNew srcs j = false) : ∃ s, srcs[j]? = some s ∧ ∀ n, s ≠ .own n := by
  unfold isNew at h
  cases hs : srcs[j]? with
  | none => rw [hs] at h; cases h
  | some s =>
    rw [hs] at h
    exact ⟨s, rfl, fun n e => by subst e; cases h⟩

theorem backSets_spec {q : Nat → Ent} {nm : Nat} {a : Acc} {news : List Nat} {ents : List Ent} : ∀ (l : List Src) (i : Nat) (L : List (Nat × Ent)), backSets q nm a news ents i l = some L →
    (∀ y ∈ L, ∃ k s M, l[k]? = some s ∧ backOne q nm a news ents[i + k]? s = some M ∧ y ∈ M) ∧ ∀ (k : Nat) (s : Src), l[k]? = some s → ∃ M, backOne q nm a news ents[i + k]? s = some M ∧ ∀ y ∈ M, y ∈ L
  | [], i, L, h => by
    simp only [backSets, Option.some.injEq] at h
    subst h
    exact ⟨fun y hy => (by cases hy), fun k s hk => (by simp at hk)⟩
  | s :: l, i, L, h => by
    simp only [backSets] at h
    cases h1 : backOne q nm a news ents[i]? s with
    | none => rw [h1] at h; cases h
    | some M =>
      cases h2 : backSets q nm a news ents (i + 1) l with
      | none => rw [h1, h2] at h; cases h
      | some N =>
        rw [h1, h2] at h
        simp only [Option.some.injEq] at h
        subst h
        obtain ⟨p1, p2⟩ := backSets_spec l (i + 1) N h2
        refine ⟨fun y hy => ?_, fun k s' hk => ?_⟩
        · rcases List.mem_append.1 hy with hy | hy
          · exact ⟨0, s, M, rfl, h1, hy⟩
          · obtain ⟨k, s', M', q1, q2, q3⟩ := p1 y hy
            exact ⟨k + 1, s', M', by simpa using q1, by rw [show i + (k + 1) = i + 1 + k by omega]; exact q2, q3⟩
        · cases k with
          | zero =>
            simp only [List.getElem?_cons_zero, Option.some.injEq] at hk
            subst hk
            exact ⟨M, h1, fun y hy => List.mem_append_left _ hy⟩
          | succ k =>
            simp only [List.getElem?_cons_succ] at hk
            obtain ⟨M', q1, q2⟩ := p2 k s' hk
            exact ⟨M', by rw [show i + (k + 1) = i + 1 + k by omega]; exact q1, fun y hy => List.mem_append_right _ (q2 y hy)⟩

/-- What comes back of one source, case by case. -/
theorem backOne_box {q : Nat → Ent} {nm : Nat} {a : Acc} {news : List Nat} {e : Option Ent} {n off len : Nat} {M : List (Nat × Ent)} (h : backOne q nm a news e (.box n off len) = some M) :
    ∃ cs cs' ds, q n = .box cs ∧ e = some (.box cs') ∧ off = 0 ∧ cs'.length = len ∧ len = cs.length ∧ embeds nm a.srcs news cs' = some ds ∧ M = [(n, .box ds)] := by
  simp only [backOne] at h
  cases hn : q n with
  | gone => rw [hn] at h; simp at h
  | arr x => rw [hn] at h; simp at h
  | box cs =>
    rw [hn] at h
    cases e with
    | none => simp at h
    | some e =>
      cases e with
      | gone => simp at h
      | arr x => simp at h
      | box cs' =>
        simp only at h
        cases hc : (Nat.beq off 0 && Nat.beq cs'.length len && Nat.beq len cs.length) with
        | false => rw [hc] at h; cases h
        | true =>
          rw [hc] at h
          simp only [cond_true] at h
          simp only [Bool.and_eq_true] at hc
          cases hd : embeds nm a.srcs news cs' with
          | none => rw [hd] at h; cases h
          | some ds =>
            rw [hd] at h
            simp only [Option.some.injEq] at h
            exact ⟨cs, cs', ds, rfl, rfl, Nat.eq_of_beq_eq_true hc.1.1, Nat.eq_of_beq_eq_true hc.1.2, Nat.eq_of_beq_eq_true hc.2, hd, h.symm⟩

theorem backOne_upd {q : Nat → Ent} {nm : Nat} {a : Acc} {news : List Nat} {e : Option Ent} {n : Nat} {M : List (Nat × Ent)} (h : backOne q nm a news e (.upd n) = some M) :
    ∃ (x y : Arr), q n = .arr x ∧ e = some (.arr y) ∧ y.own = true ∧ y.fix = true ∧ M = [(n, .arr { y with virt := x.virt, fix := x.fix })] := by
  simp only [backOne] at h
  cases hn : q n with
  | gone => rw [hn] at h; simp at h
  | box x => rw [hn] at h; simp at h
  | arr x =>
    rw [hn] at h
    cases e with
    | none => simp at h
    | some e =>
      cases e with
      | gone => simp at h
      | box y => simp at h
      | arr y =>
        simp only at h
        cases hc : (y.own && y.fix) with
        | false => rw [hc] at h; cases h
        | true =>
          rw [hc] at h
          simp only [cond_true, Option.some.injEq] at h
          simp only [Bool.and_eq_true] at hc
          exact ⟨x, y, rfl, rfl, hc.1, hc.2, h.symm⟩

theorem backOne_imm {q : Nat → Ent} {nm : Nat} {a : Acc} {news : List Nat} {e : Option Ent} {s : Src} {n : Nat} {M : List (Nat × Ent)} (hs : s = .arr n ∨ ∃ lo len, s = .sub n lo len) (h : backOne q nm a news e s = some M) :
    ∃ (x y : Arr), q n = .arr x ∧ e = some (.arr y) ∧ y.own = false ∧ ((y.fix = true ∨ x.virt = true) ∧ M = [] ∨ y.fix = false ∧ x.virt = false ∧ M = [(n, .arr x.frz)]) := by
  have key : (match (generalizing := false) q n, e with
    | .arr x, some (.arr y) => bif y.own then none else bif y.fix || x.virt then some [] else some [(n, Ent.arr x.frz)]
    | _, _ => none) = some M → ∃ (x y : Arr), q n = .arr x ∧ e = some (.arr y) ∧ y.own = false ∧ ((y.fix = true ∨ x.virt = true) ∧ M = [] ∨ y.fix = false ∧ x.virt = false ∧ M = [(n, .arr x.frz)]) := by
    intro h
    cases hn : q n with
    | gone => rw [hn] at h; simp at h
    | box x => rw [hn] at h; simp at h
    | arr x =>
      rw [hn] at h
      cases e with
      | none => simp at h
      | some e =>
        cases e with
        | gone => simp at h
        | box y => simp at h
        | arr y =>
          simp only at h
          cases ho : y.own with
          | true => rw [ho] at h; cases h
          | false =>
            rw [ho] at h
            simp only [cond_false] at h
            refine ⟨x, y, rfl, rfl, ho, ?_⟩
            cases hf : y.fix <;> cases hv : x.virt <;> rw [hf, hv] at h <;> simp only [Bool.or_true, Bool.or_false, Bool.or_self, cond_true, cond_false, Option.some.injEq] at h <;> subst h <;> simp
  rcases hs with rfl | ⟨lo, len, rfl⟩
  · exact key h
  · exact key h

theorem newSets_spec {nm : Nat} {ents : List Ent} : ∀ (l : List Nat) (i : Nat) (L : List (Nat × Ent)), newSets nm ents i l = some L →
    (∀ y ∈ L, ∃ (k j : Nat) (z : Arr), l[k]? = some j ∧ ents[j]? = some (.arr z) ∧ (z.own = true ∨ z.fix = false) ∧ y = (nm + (i + k), .arr { z with fix := false })) ∧
    (∀ (k j : Nat), l[k]? = some j → ∃ z : Arr, ents[j]? = some (.arr z) ∧ (nm + (i + k), Ent.arr { z with fix := false }) ∈ L) ∧ L.map (·.1) = (List.range' (nm + i) l.length)
  | [], i, L, h => by
    simp only [newSets, Option.some.injEq] at h
    subst h
    exact ⟨fun y hy => (by cases hy), fun k s hk => (by simp at hk), rfl⟩
  | j :: l, i, L, h => by
    simp only [newSets] at h
    cases he : ents[j]? with
    | none => rw [he] at h; simp at h
    | some e =>
      cases h2 : newSets nm ents (i + 1) l with
      | none => rw [he, h2] at h; cases e <;> simp at h
      | some N =>
        rw [he, h2] at h
        cases e with
        | gone => simp at h
        | box cs => simp at h
        | arr z =>
          simp only at h
          cases hc : (z.own || !z.fix) with
          | false => rw [hc] at h; cases h
          | true =>
            rw [hc] at h
            simp only [cond_true, Option.some.injEq] at h
            subst h
            obtain ⟨p1, p2, p3⟩ := newSets_spec l (i + 1) N h2
            refine ⟨fun y hy => ?_, fun k j' hk => ?_, ?_⟩
            · rcases List.mem_cons.1 hy with rfl | hy
              · refine ⟨0, j, z, rfl, he, ?_, rfl⟩
                cases ho : z.own with
                | true => exact .inl rfl
                | false => rw [ho] at hc; cases hf : z.fix <;> rw [hf] at hc <;> first | exact .inr rfl | cases hc
              · obtain ⟨k, j', z', q1, q2, q3, q4⟩ := p1 y hy
                exact ⟨k + 1, j', z', by simpa using q1, q2, q3, by rw [show i + (k + 1) = i + 1 + k by omega]; exact q4⟩
            · cases k with
              | zero =>
                simp only [List.getElem?_cons_zero, Option.some.injEq] at hk
                subst hk
                exact ⟨z, he, List.mem_cons_self⟩
              | succ k =>
                simp only [List.getElem?_cons_succ] at hk
                obtain ⟨z', q1, q2⟩ := p2 k j' hk
                exact ⟨z', q1, by rw [show i + (k + 1) = i + 1 + k by omega]; exact List.mem_cons_of_mem _ q2⟩
            · simp only [List.map_cons, p3, List.length_cons, List.range'_succ]
              rfl
end Go.Sx

/- Coming back: the caller's view. -/
set_option linter.unusedVariables false
set_option linter.unusedSimpArgs false
namespace Go.Sx

def zout (srcs : List Src) (news : List Nat) (nm : Nat) : Zone → Zone
  | .frz => .frz
  | .hid => .frz
  | .top j => match posOf j 0 news with
    | some k => .top (nm + k)
    | none => match srcs[j]? with
      | some (.arr n) | some (.upd n) | some (.sub n _ _) => .top n
      | _ => .frz
  | .box j => match srcs[j]? with
    | some (.box n _ _) => .box n
    | _ => .frz

open Classical in
noncomputable def Gh.back (G : Gh) (w : World) (h : List Ent) (srcs : List Src) (news : List Nat) (nm : Nat) (G2 : Gh) : Gh :=
  { zone := fun b => if b < w.heap.size ∧ zin h srcs (G.zone b) = .hid then G.zone b else zout srcs news nm (G2.zone b),
    blk := G.blk,
    base := fun m => if nm ≤ m ∧ m < nm + news.length then G2.base (news.getD (m - nm) 0) else G.base m,
    cap := fun m => if nm ≤ m ∧ m < nm + news.length then G2.cap (news.getD (m - nm) 0) else G.cap m }

/-- All that is known when a call has come back. -/
structure Came (G : Gh) (w : World) (h : List Ent) (q : Nat → Ent) (nm : Nat) (a : Acc) (base : Nat → Option Addr) (cap : Nat → Nat) (G2 : Gh) (w' : World) (ents : List Ent) (news : List Nat) (L1 L2 : List (Nat × Ent)) : Prop where
  hh : RelH G w h
  hq : ∀ n, q n ≠ .gone → h[n]? = some (q n)
  ok : AOk G w h base cap a
  ext : Ext (G.callee h a.srcs base cap) w G2 w'
  h2 : RelH G2 w' ents
  keep : Keep a.ents.length (G.callee h a.srcs base cap) w a.ents G2 w' ents
  nd : news.Nodup
  new : ∀ j, j ∈ news → isNew a.srcs j = true
  back : backSets q nm a news ents 0 a.srcs = some L1
  made : newSets nm ents 0 news = some L2
  free : ∀ m, nm ≤ m → m < nm + news.length → h[m]? = some .gone

section
variable {G : Gh} {w : World} {h : List Ent} {q : Nat → Ent} {nm : Nat} {a : Acc} {base : Nat → Option Addr} {cap : Nat → Nat} {G2 : Gh} {w' : World} {ents : List Ent} {news : List Nat} {L1 L2 : List (Nat × Ent)}

theorem Came.shown (c : Came G w h q nm a base cap G2 w' ents news L1 L2) {b : Nat} (hz : G2.zone b ≠ .hid) : (G.back w h a.srcs news nm G2).zone b = zout a.srcs news nm (G2.zone b) := by
  simp only [Gh.back]
  rw [if_neg]
  rintro ⟨hb, hi⟩
  exact hz (c.ext.hid b hb hi).1

theorem Came.hidden (c : Came G w h q nm a base cap G2 w' ents news L1 L2) {b : Nat} (hb : b < w.heap.size) (hi : zin h a.srcs (G.zone b) = .hid) : (G.back w h a.srcs news nm G2).zone b = G.zone b ∧ w'.heap[b]? = w.heap[b]? := by
  simp only [Gh.back]
  rw [if_pos ⟨hb, hi⟩]
  exact ⟨rfl, (c.ext.hid b hb hi).2⟩

theorem Came.frz (c : Came G w h q nm a base cap G2 w' ents news L1 L2) {b : Nat} (hz : G2.zone b = .frz) : (G.back w h a.srcs news nm G2).zone b = .frz := by
  rw [c.shown (by rw [hz]; simp), hz]; rfl

/-- A frozen block of the caller. -/
theorem Came.old_frz (c : Came G w h q nm a base cap G2 w' ents news L1 L2) {b : Nat} (hb : b < w.heap.size) (hz : G.zone b = .frz) : (G.back w h a.srcs news nm G2).zone b = .frz ∧ w'.heap[b]? = w.heap[b]? := by
  have := c.ext.frz b hb (by simp only [Gh.callee, hz]; rfl)
  exact ⟨c.frz this.1, this.2⟩

theorem Came.notnew (c : Came G w h q nm a base cap G2 w' ents news L1 L2) {j : Nat} {s : Src} (hs : a.srcs[j]? = some s) (hno : ∀ n, s ≠ .own n) (hni : ∀ r, s ≠ .nil r) : posOf j 0 news = none := by
  cases hp : posOf j 0 news with
  | none => rfl
  | some k =>
    obtain ⟨_, h1⟩ := posOf_some hp
    rw [Nat.sub_zero] at h1
    have := c.new j (List.mem_of_getElem? h1)
    unfold isNew at this
    rw [hs] at this
    cases s <;> first | (cases this; done) | exact absurd rfl (hno _) | exact absurd rfl (hni _)

theorem Came.old_name (c : Came G w h q nm a base cap G2 w' ents news L1 L2) {n : Nat} {e : Ent} (hn : h[n]? = some e) (he : e ≠ .gone) : ¬ (nm ≤ n ∧ n < nm + news.length) := by
  rintro ⟨h1, h2⟩
  rw [c.free n h1 h2] at hn
  injection hn with hn
  exact he hn.symm

theorem Came.old_bc (c : Came G w h q nm a base cap G2 w' ents news L1 L2) {n : Nat} (hn : ¬ (nm ≤ n ∧ n < nm + news.length)) : (G.back w h a.srcs news nm G2).base n = G.base n ∧ (G.back w h a.srcs news nm G2).cap n = G.cap n := by
  simp only [Gh.back, if_neg hn, and_self]

theorem Came.new_bc (c : Came G w h q nm a base cap G2 w' ents news L1 L2) {k j : Nat} (hk : news[k]? = some j) : (G.back w h a.srcs news nm G2).base (nm + k) = G2.base j ∧ (G.back w h a.srcs news nm G2).cap (nm + k) = G2.cap j := by
  have hl := (List.getElem?_eq_some_iff.1 hk).1
  have : news.getD (nm + k - nm) 0 = j := by
    rw [show nm + k - nm = k by omega, List.getD_eq_getElem?_getD, hk]; rfl
  have hc : nm ≤ nm + k ∧ nm + k < nm + news.length := ⟨by omega, by omega⟩
  simp only [Gh.back, if_pos hc, this, and_self]

/-- A row that was handed in to be read. -/
theorem Came.imm (c : Came G w h q nm a base cap G2 w' ents news L1 L2) {i : Nat} {s : Src} (hs : a.srcs[i]? = some s) {r : Row} {rows : List r.den} (he : a.ents[i]? = some (inArr false r rows)) :
    ∃ y : Arr, ents[i]? = some (.arr y) ∧ y.own = false ∧ y.row = r ∧ y.rows.length = rows.length ∧ G2.base i = base i ∧ G2.cap i = cap i ∧
      ∀ b, b < w.heap.size → zin h a.srcs (G.zone b) = .top i → w'.heap[b]? = w.heap[b]? ∧ (y.fix = true → G2.zone b = .top i) ∧ (y.fix = false → G2.zone b = .frz) := by
  obtain ⟨y, p1, p2, p3, p4, p5, p6⟩ := c.keep.imm i _ (List.getElem?_eq_some_iff.1 he).1 he rfl
  refine ⟨y, p1, p2, ?_, ?_, p4, p5, p6 rfl⟩
  · rcases p3 with rfl | rfl <;> rfl
  · rcases p3 with rfl | rfl <;> rfl

/-- A row that was handed in to be written. -/
theorem Came.upd (c : Came G w h q nm a base cap G2 w' ents news L1 L2) {i : Nat} {y : Arr} (he : ents[i]? = some (.arr y)) (hf : y.fix = true) (hi : i < a.ents.length) :
    ∃ a0 : Arr, a.ents[i]? = some (.arr a0) ∧ y.row = a0.row ∧ y.rows.length = a0.rows.length ∧ G2.base i = base i ∧ G2.cap i = cap i := by
  obtain ⟨a0, p1, _, p3, p4, p5, p6, _⟩ := c.keep.upd i y hi he hf
  exact ⟨a0, p1, p3, p4, p5, p6⟩

/-- What comes back of the i-th source. -/
theorem Came.at (c : Came G w h q nm a base cap G2 w' ents news L1 L2) {i : Nat} {s : Src} (hs : a.srcs[i]? = some s) : ∃ M, backOne q nm a news ents[i]? s = some M ∧ ∀ y ∈ M, y ∈ L1 := by
  have := (backSets_spec _ _ _ c.back).2 i s hs
  rwa [Nat.zero_add] at this

theorem Came.of (c : Came G w h q nm a base cap G2 w' ents news L1 L2) {y : Nat × Ent} (hy : y ∈ L1) : ∃ (i : Nat) (s : Src) (M : List (Nat × Ent)), a.srcs[i]? = some s ∧ backOne q nm a news ents[i]? s = some M ∧ y ∈ M := by
  obtain ⟨k, s, M, h1, h2, h3⟩ := (backSets_spec _ _ _ c.back).1 y hy
  rw [Nat.zero_add] at h2
  exact ⟨k, s, M, h1, h2, h3⟩

end
end Go.Sx

/- Coming back: what is turned. -/
set_option linter.unusedVariables false
set_option linter.unusedSimpArgs false
namespace Go.Sx

theorem backOne_keys {q : Nat → Ent} {nm : Nat} {a : Acc} {news : List Nat} {e : Option Ent} {s : Src} {M : List (Nat × Ent)} (h : backOne q nm a news e s = some M) : List.Sublist (M.map (·.1)) (s.name.toList) := by
  cases s with
  | box n off len => obtain ⟨cs, cs', ds, _, _, _, _, _, _, rfl⟩ := backOne_box h; exact List.Sublist.refl _
  | upd n => obtain ⟨x, y, _, _, _, _, rfl⟩ := backOne_upd h; exact List.Sublist.refl _
  | arr n =>
    obtain ⟨x, y, _, _, _, ⟨_, rfl⟩ | ⟨_, _, rfl⟩⟩ := backOne_imm (.inl rfl) h
    · exact List.nil_sublist _
    · exact List.Sublist.refl _
  | sub n lo len =>
    obtain ⟨x, y, _, _, _, ⟨_, rfl⟩ | ⟨_, _, rfl⟩⟩ := backOne_imm (.inr ⟨lo, len, rfl⟩) h
    · exact List.nil_sublist _
    · exact List.Sublist.refl _
  | lit r xs => simp only [backOne, Option.some.injEq] at h; subst h; exact List.nil_sublist _
  | nil r => simp only [backOne, Option.some.injEq] at h; subst h; exact List.nil_sublist _
  | own n => simp only [backOne, Option.some.injEq] at h; subst h; exact List.nil_sublist _

theorem backSets_keys {q : Nat → Ent} {nm : Nat} {a : Acc} {news : List Nat} {ents : List Ent} : ∀ (l : List Src) (i : Nat) (L : List (Nat × Ent)), backSets q nm a news ents i l = some L → List.Sublist (L.map (·.1)) (l.filterMap Src.name)
  | [], i, L, h => by
    simp only [backSets, Option.some.injEq] at h
    subst h
    exact List.Sublist.refl _
  | s :: l, i, L, h => by
    simp only [backSets] at h
    cases h1 : backOne q nm a news ents[i]? s with
    | none => rw [h1] at h; cases h
    | some M =>
      cases h2 : backSets q nm a news ents (i + 1) l with
      | none => rw [h1, h2] at h; cases h
      | some N =>
        rw [h1, h2] at h
        simp only [Option.some.injEq] at h
        subst h
        have p1 := backOne_keys h1
        have p2 := backSets_keys l (i + 1) N h2
        rw [List.map_append]
        have e : (s :: l).filterMap Src.name = s.name.toList ++ l.filterMap Src.name := by
          simp only [List.filterMap_cons]
          cases s.name <;> rfl
        rw [e]
        exact List.Sublist.append p1 p2

section
variable {pars : Nat} {G : Gh} {w : World} {h : List Ent} {q : Nat → Ent} {nm : Nat} {a : Acc} {base : Nat → Option Addr} {cap : Nat → Nat} {G2 : Gh} {w' : World} {ents : List Ent} {news : List Nat} {L1 L2 : List (Nat × Ent)}

/-- Whose entries come back: boxes, rows written, rows captured. -/
theorem Came.back_inv (c : Came G w h q nm a base cap G2 w' ents news L1 L2) {y : Nat × Ent} (hy : y ∈ L1) :
    (∃ (i off len : Nat) (cs cs' ds : List BV), a.srcs[i]? = some (.box y.1 off len) ∧ h[y.1]? = some (.box cs) ∧ ents[i]? = some (.box cs') ∧ cs'.length = cs.length ∧ off = 0 ∧ embeds nm a.srcs news cs' = some ds ∧ y.2 = .box ds) ∨
    (∃ (i : Nat) (x z : Arr), a.srcs[i]? = some (.upd y.1) ∧ h[y.1]? = some (.arr x) ∧ ents[i]? = some (.arr z) ∧ z.own = true ∧ z.fix = true ∧ y.2 = .arr { z with virt := x.virt, fix := x.fix }) ∨
    (∃ (i : Nat) (s : Src) (x z : Arr), a.srcs[i]? = some s ∧ (s = .arr y.1 ∨ ∃ lo len, s = .sub y.1 lo len) ∧ h[y.1]? = some (.arr x) ∧ ents[i]? = some (.arr z) ∧ z.own = false ∧ z.fix = false ∧ x.virt = false ∧ y.2 = .arr x.frz) := by
  obtain ⟨i, s, M, h1, h2, h3⟩ := c.of hy
  have hqq : ∀ {n : Nat} {e : Ent}, q n = e → e ≠ .gone → h[n]? = some e := fun hn he => by have := c.hq _ (by rw [hn]; exact he); rwa [hn] at this
  cases s with
  | box n off len =>
    obtain ⟨cs, cs', ds, p1, p2, p3, p4, p5, p6, rfl⟩ := backOne_box h2
    simp only [List.mem_singleton] at h3
    subst h3
    exact .inl ⟨i, off, len, cs, cs', ds, h1, hqq p1 (by simp), p2, by omega, p3, p6, rfl⟩
  | upd n =>
    obtain ⟨x, z, p1, p2, p3, p4, rfl⟩ := backOne_upd h2
    simp only [List.mem_singleton] at h3
    subst h3
    exact .inr (.inl ⟨i, x, z, h1, hqq p1 (by simp), p2, p3, p4, rfl⟩)
  | arr n =>
    obtain ⟨x, z, p1, p2, p3, ⟨_, rfl⟩ | ⟨p4, p5, rfl⟩⟩ := backOne_imm (.inl rfl) h2
    · cases h3
    · simp only [List.mem_singleton] at h3
      subst h3
      exact .inr (.inr ⟨i, _, x, z, h1, .inl rfl, hqq p1 (by simp), p2, p3, p4, p5, rfl⟩)
  | sub n lo len =>
    obtain ⟨x, z, p1, p2, p3, ⟨_, rfl⟩ | ⟨p4, p5, rfl⟩⟩ := backOne_imm (.inr ⟨lo, len, rfl⟩) h2
    · cases h3
    · simp only [List.mem_singleton] at h3
      subst h3
      exact .inr (.inr ⟨i, _, x, z, h1, .inr ⟨lo, len, rfl⟩, hqq p1 (by simp), p2, p3, p4, p5, rfl⟩)
  | lit r xs => simp only [backOne, Option.some.injEq] at h2; subst h2; cases h3
  | nil r => simp only [backOne, Option.some.injEq] at h2; subst h2; cases h3
  | own n => simp only [backOne, Option.some.injEq] at h2; subst h2; cases h3

theorem Came.back_old (c : Came G w h q nm a base cap G2 w' ents news L1 L2) {y : Nat × Ent} (hy : y ∈ L1) : (∃ e, h[y.1]? = some e ∧ e ≠ .gone) ∧ y.1 ∉ a.gives := by
  have hno : ∀ {i : Nat} {s : Src}, a.srcs[i]? = some s → s.name = some y.1 → (∀ m, s ≠ .own m) → y.1 ∉ a.gives := by
    intro i s h1 h2 h3 hm
    rw [c.ok.gives] at hm
    obtain ⟨j, hj, e⟩ := List.getElem_of_mem hm
    have hj' : a.srcs[j]? = some (.own y.1) := by rw [List.getElem?_eq_getElem hj, e]
    have := name_unique c.ok.nodup h1 hj' h2 rfl
    subst this
    rw [h1] at hj'
    injection hj' with hj'
    exact h3 _ hj'
  rcases c.back_inv hy with ⟨i, off, len, cs, cs', ds, h1, h2, _⟩ | ⟨i, x, z, h1, h2, _⟩ | ⟨i, s, x, z, h1, hs, h2, _⟩
  · exact ⟨⟨_, h2, by simp⟩, hno h1 rfl fun m e => by cases e⟩
  · exact ⟨⟨_, h2, by simp⟩, hno h1 rfl fun m e => by cases e⟩
  · refine ⟨⟨_, h2, by simp⟩, ?_⟩
    rcases hs with rfl | ⟨lo, len, rfl⟩
    · exact hno h1 rfl fun m e => by cases e
    · exact hno h1 rfl fun m e => by cases e

theorem Came.made_inv (c : Came G w h q nm a base cap G2 w' ents news L1 L2) {y : Nat × Ent} (hy : y ∈ L2) :
    ∃ (k j : Nat) (z : Arr), news[k]? = some j ∧ ents[j]? = some (.arr z) ∧ (z.own = true ∨ z.fix = false) ∧ y = (nm + k, .arr { z with fix := false }) := by
  obtain ⟨k, j, z, h1, h2, h3, h4⟩ := (newSets_spec _ _ _ c.made).1 y hy
  rw [Nat.zero_add] at h4
  exact ⟨k, j, z, h1, h2, h3, h4⟩

theorem Came.keys (c : Came G w h q nm a base cap G2 w' ents news L1 L2) : ((L1 ++ L2).map (·.1)).Nodup ∧ (∀ m, m ∈ L2.map (·.1) ↔ nm ≤ m ∧ m < nm + news.length) := by
  have h2 := (newSets_spec _ _ _ c.made).2.2
  rw [Nat.add_zero] at h2
  have hr : ∀ m, m ∈ L2.map (·.1) ↔ nm ≤ m ∧ m < nm + news.length := fun m => by rw [h2, List.mem_range'_1]
  refine ⟨?_, hr⟩
  rw [List.map_append, List.nodup_append]
  refine ⟨(backSets_keys _ _ _ c.back).nodup c.ok.nodup, by rw [h2]; exact List.nodup_range', fun x hx y hy => ?_⟩
  rintro rfl
  obtain ⟨z, hz, rfl⟩ := List.mem_map.1 hx
  obtain ⟨⟨e, he, hne⟩, _⟩ := c.back_old hz
  exact c.old_name he hne ((hr _).1 hy)

def Came.δ (a : Acc) (x : TV) (L1 L2 : List (Nat × Ent)) : Delta := { val := x, kills := a.gives, sets := L1 ++ L2 }

theorem Came.gives_old (c : Came G w h q nm a base cap G2 w' ents news L1 L2) {m : Nat} (hm : m ∈ a.gives) : ∃ (i : Nat) (x : Arr), a.srcs[i]? = some (.own m) ∧ h[m]? = some (.arr x) ∧ x.own = true := by
  rw [c.ok.gives] at hm
  obtain ⟨i, hi, e⟩ := List.getElem_of_mem hm
  have hi' : a.srcs[i]? = some (.own m) := by rw [List.getElem?_eq_getElem hi, e]
  have hie : i < a.ents.length := by rw [c.ok.len]; exact hi
  obtain ⟨x, rows, p1, p2, _⟩ := c.ok.link i _ _ hi' (List.getElem?_eq_getElem hie)
  exact ⟨i, x, hi', p1, p2⟩

theorem Came.lt (c : Came G w h q nm a base cap G2 w' ents news L1 L2) {y : Nat × Ent} (hy : y ∈ L1 ++ L2) : y.1 < h.length := by
  rcases List.mem_append.1 hy with hy | hy
  · obtain ⟨⟨e, he, _⟩, _⟩ := c.back_old hy
    exact (List.getElem?_eq_some_iff.1 he).1
  · obtain ⟨k, j, z, h1, _, _, rfl⟩ := c.made_inv hy
    have := (List.getElem?_eq_some_iff.1 h1).1
    exact (List.getElem?_eq_some_iff.1 (c.free (nm + k) (by omega) (by omega))).1

theorem Came.get (c : Came G w h q nm a base cap G2 w' ents news L1 L2) (x : TV) {y : Nat × Ent} (hy : y ∈ L1 ++ L2) : (newHeap h (Came.δ a x L1 L2))[y.1]? = some y.2 := by
  unfold newHeap
  refine setAll_mem _ _ y hy c.keys.1 ?_
  have := newHeap_length h (Came.δ a x L1 L2)
  unfold newHeap at this
  rw [setAll_length] at this
  rw [this]; exact c.lt hy
end
end Go.Sx

/- Coming back: the turn. -/
set_option linter.unusedVariables false
set_option linter.unusedSimpArgs false
namespace Go.Sx

section
variable {pars : Nat} {G : Gh} {w : World} {h : List Ent} {q : Nat → Ent} {nm : Nat} {a : Acc} {base : Nat → Option Addr} {cap : Nat → Nat} {G2 : Gh} {w' : World} {ents : List Ent} {news : List Nat} {L1 L2 : List (Nat × Ent)}

/-- A row handed in to be read: its link. -/
theorem Came.link_imm (c : Came G w h q nm a base cap G2 w' ents news L1 L2) {i n : Nat} {s : Src} (hs : a.srcs[i]? = some s) (hn : s = .arr n ∨ ∃ lo len, s = .sub n lo len) :
    ∃ (x : Arr) (rows : List x.row.den), h[n]? = some (.arr x) ∧ x.plain = true ∧ a.ents[i]? = some (inArr false x.row rows) := by
  have hi : i < a.ents.length := by rw [c.ok.len]; exact (List.getElem?_eq_some_iff.1 hs).1
  have hl := c.ok.link i s _ hs (List.getElem?_eq_getElem hi)
  rcases hn with rfl | ⟨lo, len, rfl⟩
  · obtain ⟨x, p1, p2, p3, _⟩ := hl
    exact ⟨x, _, p1, p2, by rw [List.getElem?_eq_getElem hi, p3]⟩
  · obtain ⟨x, p1, p2, _, p3, _⟩ := hl
    exact ⟨x, _, p1, p2, by rw [List.getElem?_eq_getElem hi, p3]⟩

theorem isVirt_of {n : Nat} {x : Arr} (hx : h[n]? = some (.arr x)) : isVirt h n = x.virt := by unfold isVirt; rw [hx]

theorem Came.un (c : Came G w h q nm a base cap G2 w' ents news L1 L2) {n b : Nat} (hg : n ∉ a.gives) (hL : n ∉ L1.map (·.1)) (hb : b < w.heap.size) (hz : G.zone b = .top n ∨ G.zone b = .box n) :
    (G.back w h a.srcs news nm G2).zone b = G.zone b ∧ w'.heap[b]? = w.heap[b]? := by
  have hin : ∀ {y : Nat × Ent}, y ∈ L1 → y.1 ≠ n := fun hy e => hL (e ▸ List.mem_map_of_mem (f := (·.1)) hy)
  rcases hz with hz | hz
  · cases hv : isVirt h n with
    | true => exact c.hidden hb (by rw [hz]; simp only [zin, hv, cond_true])
    | false =>
      cases hf : findAt (Src.isRow n) 0 a.srcs with
      | none => exact c.hidden hb (by rw [hz]; simp only [zin, hv, cond_false, hf])
      | some i =>
        have hzi : zin h a.srcs (G.zone b) = .top i := by rw [hz]; simp only [zin, hv, cond_false, hf]
        obtain ⟨_, s, h1, h2⟩ := findAt_spec _ _ _ hf
        rw [Nat.sub_zero] at h1
        obtain ⟨M, m1, m2⟩ := c.at h1
        have himm : (s = .arr n ∨ ∃ lo len, s = .sub n lo len) → (G.back w h a.srcs news nm G2).zone b = G.zone b ∧ w'.heap[b]? = w.heap[b]? := by
          intro hs
          obtain ⟨x, z, p1, p2, p3, ⟨p4, _⟩ | ⟨_, _, rfl⟩⟩ := backOne_imm hs m1
          · obtain ⟨x', rows, q1, q2, q3⟩ := c.link_imm h1 hs
            obtain ⟨y, r1, r2, _, _, _, _, r7⟩ := c.imm h1 q3
            rw [p2] at r1
            injection r1 with r1
            injection r1 with r1
            subst r1
            have hx := c.hq n (by rw [p1]; simp)
            rw [p1] at hx
            have hxv := isVirt_of hx
            obtain ⟨t1, t2, _⟩ := r7 b hb hzi
            refine ⟨?_, t1⟩
            have hfix : z.fix = true := by
              rcases p4 with p4 | p4
              · exact p4
              · rw [hv, p4] at hxv; cases hxv
            have ht := t2 hfix
            rw [c.shown (by rw [ht]; simp), ht, hz]
            have hno := c.notnew h1 (fun m e => by rcases hs with rfl | ⟨lo, len, rfl⟩ <;> cases e) (fun m e => by rcases hs with rfl | ⟨lo, len, rfl⟩ <;> cases e)
            simp only [zout, hno, h1]
            rcases hs with rfl | ⟨lo, len, rfl⟩ <;> rfl
          · exact absurd rfl (hin (m2 _ List.mem_cons_self))
        cases s with
        | arr m =>
          simp only [Src.isRow] at h2
          have := Nat.eq_of_beq_eq_true h2
          subst this
          exact himm (.inl rfl)
        | sub m lo len =>
          simp only [Src.isRow] at h2
          have := Nat.eq_of_beq_eq_true h2
          subst this
          exact himm (.inr ⟨lo, len, rfl⟩)
        | upd m =>
          simp only [Src.isRow] at h2
          have := Nat.eq_of_beq_eq_true h2
          subst this
          obtain ⟨x, z, _, _, _, _, rfl⟩ := backOne_upd m1
          exact absurd rfl (hin (m2 _ List.mem_cons_self))
        | own m =>
          simp only [Src.isRow] at h2
          have := Nat.eq_of_beq_eq_true h2
          subst this
          exact absurd ((c.ok.gives m).2 (List.mem_of_getElem? h1)) hg
        | lit r xs => cases h2
        | nil r => cases h2
        | box m off len => cases h2
  · cases hf : findAt (Src.isBx n) 0 a.srcs with
    | none => exact c.hidden hb (by rw [hz]; simp only [zin, hf])
    | some i =>
      obtain ⟨_, s, h1, h2⟩ := findAt_spec _ _ _ hf
      rw [Nat.sub_zero] at h1
      obtain ⟨M, m1, m2⟩ := c.at h1
      cases s with
      | box m off len =>
        simp only [Src.isBx] at h2
        have := Nat.eq_of_beq_eq_true h2
        subst this
        obtain ⟨cs, cs', ds, _, _, _, _, _, _, rfl⟩ := backOne_box m1
        exact absurd rfl (hin (m2 _ List.mem_cons_self))
      | arr m => cases h2
      | upd m => cases h2
      | own m => cases h2
      | sub m lo len => cases h2
      | lit r xs => cases h2
      | nil r => cases h2

/-- The i-th source was a row to be written, and comes back. -/
theorem Came.upd_at (c : Came G w h q nm a base cap G2 w' ents news L1 L2) {i n : Nat} {z : Arr} (hs : a.srcs[i]? = some (.upd n)) (hz : ents[i]? = some (.arr z)) (hf : z.fix = true) :
    ∃ x : Arr, h[n]? = some (.arr x) ∧ x.own = true ∧ z.row = x.row ∧ z.rows.length = x.rows.length ∧ G2.base i = G.base n ∧ G2.cap i = G.cap n := by
  have hi : i < a.ents.length := by rw [c.ok.len]; exact (List.getElem?_eq_some_iff.1 hs).1
  obtain ⟨x, p1, p2, p3, p4, p5, p6⟩ := c.ok.link i _ _ hs (List.getElem?_eq_getElem hi)
  obtain ⟨a0, r1, r2, r3, r4, r5⟩ := c.upd hz hf hi
  rw [List.getElem?_eq_getElem hi, p4] at r1
  simp only [inArr, Option.some.injEq, Ent.arr.injEq] at r1
  subst r1
  exact ⟨x, p1, p3, r2, r3, by rw [r4, p5], by rw [r5, p6]⟩

theorem Came.tr (c : Came G w h q nm a base cap G2 w' ents news L1 L2) (x : TV) :
    Trans a.gives (fun m => m ∈ a.gives ∨ m ∈ (L1 ++ L2).map (·.1)) G w h (G.back w h a.srcs news nm G2) w' (newHeap h (Came.δ a x L1 L2)) := by
  have hk := c.keys
  have hsp : ∀ {n}, n ∉ (L1 ++ L2).map (·.1) → n ∉ L1.map (·.1) ∧ n ∉ L2.map (·.1) := fun hn => by
    rw [List.map_append, List.mem_append] at hn
    exact ⟨fun e => hn (.inl e), fun e => hn (.inr e)⟩
  refine ⟨⟨c.ext.size, c.ext.os, c.ext.tape, c.ext.output, fun b hb hz => c.old_frz hb hz, fun b hb hz => ?_⟩, fun n b hn hb hz => c.un (fun e => hn (.inl e)) (hsp fun e => hn (.inr e)).1 hb hz, fun n hn => ⟨rfl, ?_⟩, fun n hn => .inl hn, fun n hn => ?_, fun n x0 hT hks hn => ?_, fun n cs hT hks hn => ?_, fun b hz hz' vs hv i hi => ?_⟩
  · have := c.hidden hb (by rw [hz]; rfl)
    exact ⟨this.1.trans hz, this.2⟩
  · exact c.old_bc fun e => (hsp fun e => hn (.inr e)).2 ((hk.2 n).2 e)
  · refine newHeap_other rfl (fun hm => hn (.inl hm)) fun y hy e => hn (.inr (by rw [← e]; exact List.mem_map_of_mem (f := (·.1)) hy))
  · rcases hT with hT | hT
    · exact absurd hT hks
    · obtain ⟨y, hy, rfl⟩ := List.mem_map.1 hT
      have hg := c.get x hy
      have hbc := c.old_bc (c.old_name hn (by simp))
      rcases List.mem_append.1 hy with hy1 | hy2
      · rcases c.back_inv hy1 with ⟨i, off, len, cs, cs', ds, h1, h2, _⟩ | ⟨i, x1, z, h1, h2, h3, h4, h5, h6⟩ | ⟨i, s, x1, z, h1, hs, h2, h3, h4, h5, h6, h7⟩
        · rw [hn] at h2; cases h2
        · obtain ⟨x2, r1, _, r2, r3, _, _⟩ := c.upd_at h1 h3 h5
          rw [hn] at r1
          injection r1 with r1
          injection r1 with r1
          subst r1
          exact ⟨{ z with virt := x1.virt, fix := x1.fix }, by rw [hg, h6], r2, r3, hbc.1, hbc.2⟩
        · rw [hn] at h2
          injection h2 with h2
          injection h2 with h2
          subst h2
          exact ⟨x0.frz, by rw [hg, h7], rfl, rfl, hbc.1, hbc.2⟩
      · obtain ⟨k, j, z, h1, _, _, rfl⟩ := c.made_inv hy2
        have := (List.getElem?_eq_some_iff.1 h1).1
        rw [c.free (nm + k) (by omega) (by omega)] at hn
        cases hn
  · rcases hT with hT | hT
    · exact absurd hT hks
    · obtain ⟨y, hy, rfl⟩ := List.mem_map.1 hT
      have hg := c.get x hy
      rcases List.mem_append.1 hy with hy1 | hy2
      · rcases c.back_inv hy1 with ⟨i, off, len, cs, cs', ds, h1, h2, _, _, _, _, h6⟩ | ⟨i, x1, z, h1, h2, h3, h4, h5, h6⟩ | ⟨i, s, x1, z, h1, hs, h2, h3, h4, h5, h6, h7⟩
        · exact ⟨ds, by rw [hg, h6], rfl⟩
        · rw [hn] at h2; cases h2
        · rw [hn] at h2; cases h2
      · obtain ⟨k, j, z, h1, _, _, rfl⟩ := c.made_inv hy2
        have := (List.getElem?_eq_some_iff.1 h1).1
        rw [c.free (nm + k) (by omega) (by omega)] at hn
        cases hn
  · by_cases hc : b < w.heap.size ∧ zin h a.srcs (G.zone b) = .hid
    · obtain ⟨p1, p2⟩ := c.hidden hc.1 hc.2
      rw [p1] at hz hz'
      have := c.hh.thaw b hz hz' vs (hv.same p2.symm) i hi
      unfold World.frozen? at *
      rw [p2]; exact this
    · have e : (G.back w h a.srcs news nm G2).zone b = zout a.srcs news nm (G2.zone b) := by simp only [Gh.back, if_neg hc]
      rw [e] at hz
      refine c.h2.thaw b (fun e2 => hz (by rw [e2]; rfl)) (fun e2 => hz (by rw [e2]; rfl)) vs hv i hi
end
end Go.Sx

/- Coming back: values. -/
set_option linter.unusedVariables false
set_option linter.unusedSimpArgs false
namespace Go.Sx

section
variable {pars : Nat} {G : Gh} {w : World} {h : List Ent} {q : Nat → Ent} {nm : Nat} {a : Acc} {base : Nat → Option Addr} {cap : Nat → Nat} {G2 : Gh} {w' : World} {ents : List Ent} {news : List Nat} {L1 L2 : List (Nat × Ent)}

theorem Came.notgiven (c : Came G w h q nm a base cap G2 w' ents news L1 L2) {i n : Nat} {s : Src} (h1 : a.srcs[i]? = some s) (h2 : s.name = some n) (h3 : ∀ m, s ≠ .own m) : n ∉ a.gives := by
  intro hm
  rw [c.ok.gives] at hm
  obtain ⟨j, hj, e⟩ := List.getElem_of_mem hm
  have hj' : a.srcs[j]? = some (.own n) := by rw [List.getElem?_eq_getElem hj, e]
  have := name_unique c.ok.nodup h1 hj' h2 rfl
  subst this
  rw [h1] at hj'
  injection hj' with hj'
  exact h3 _ hj'

theorem Came.embed (c : Came G w h q nm a base cap G2 w' ents news L1 L2) (x : TV) {v : Value} {b b' : BV} (hr : RelB G2 w' ents v b) (hs : embed nm a.srcs news b = some b') :
    RelB (G.back w h a.srcs news nm G2) w' (newHeap h (Came.δ a x L1 L2)) v b' := by
  have tr := c.tr x
  have hnewk : ∀ {j k : Nat}, posOf j 0 news = some k → ∃ z : Arr, ents[j]? = some (.arr z) ∧ (newHeap h (Came.δ a x L1 L2))[nm + k]? = some (.arr { z with fix := false }) ∧ (G.back w h a.srcs news nm G2).base (nm + k) = G2.base j ∧ (G.back w h a.srcs news nm G2).cap (nm + k) = G2.cap j := by
    intro j k hp
    obtain ⟨_, h1⟩ := posOf_some hp
    rw [Nat.sub_zero] at h1
    obtain ⟨z, h2, h3⟩ := (newSets_spec _ _ _ c.made).2.1 k j h1
    rw [Nat.zero_add] at h3
    have h4 := c.get x (List.mem_append_right L1 h3)
    exact ⟨z, h2, h4, (c.new_bc h1).1, (c.new_bc h1).2⟩
  have himm : ∀ {j n : Nat}, a.srcs[j]? = some (.arr n) → ∃ (y a' : Arr), ents[j]? = some (.arr y) ∧ (newHeap h (Came.δ a x L1 L2))[n]? = some (.arr a') ∧ a'.row = y.row ∧ a'.rows.length = y.rows.length ∧ (G.back w h a.srcs news nm G2).base n = G2.base j ∧ (G.back w h a.srcs news nm G2).cap n = G2.cap j := by
    intro j n hsj
    have hi : j < a.ents.length := by rw [c.ok.len]; exact (List.getElem?_eq_some_iff.1 hsj).1
    obtain ⟨x0, p1, p2, p3, p4, p5⟩ := c.ok.link j _ _ hsj (List.getElem?_eq_getElem hi)
    obtain ⟨y, r1, _, r3, r4, r5, r6, _⟩ := c.imm hsj (by rw [List.getElem?_eq_getElem hi, p3])
    obtain ⟨a', s1, s2, s3, s4, s5⟩ := tr.arr' (c.notgiven hsj rfl fun m e => by cases e) p1
    exact ⟨y, a', r1, s1, by rw [s2, r3], by rw [s3, r4], by rw [s4, r5, p4], by rw [s5, r6, p5]⟩
  cases b with
  | undef => simp [Sx.embed] at hs
  | int k n => simp only [Sx.embed, Option.some.injEq] at hs; subst hs; exact hr
  | bool t => simp only [Sx.embed, Option.some.injEq] at hs; subst hs; exact hr
  | str s => simp only [Sx.embed, Option.some.injEq] at hs; subst hs; exact hr
  | ptrB n off => simp [Sx.embed] at hs
  | ptrE n i j => simp [Sx.embed] at hs
  | ptrL s r y j => simp [Sx.embed] at hs
  | nilp => simp [Sx.embed] at hs
  | emp r => simp only [Sx.embed, Option.some.injEq] at hs; subst hs; exact hr
  | fn f caps =>
    simp only [Sx.embed] at hs
    cases hc : caps.all CapV.flat with
    | false => rw [hc] at hs; cases hs
    | true =>
      rw [hc] at hs
      simp only [cond_true, Option.some.injEq] at hs
      subst hs
      obtain ⟨vs, h1, h2, h3⟩ := hr
      refine ⟨vs, h1, h2, fun i c hi => ?_⟩
      obtain ⟨u, u1, u2⟩ := h3 i c hi
      refine ⟨u, u1, ?_⟩
      have := List.all_eq_true.1 hc c (List.mem_of_getElem? hi)
      cases c with
      | ref n => cases this
      | ptr n off => cases this
      | _ => exact u2
  | lit src ho r xs =>
    cases src with
    | some s => simp [Sx.embed] at hs
    | none =>
      simp only [Sx.embed, Option.some.injEq] at hs
      subst hs
      have hr' : RelCell w' (fun b => G2.zone b = .frz) (.sl r) v xs := hr
      exact RelCell.mono (fun b _ hz => c.frz hz) (fun _ _ _ => rfl) _ _ _ hr'
  | ref j =>
    obtain ⟨y, hy, hv⟩ := hr
    simp only [Sx.embed] at hs
    cases hp : posOf j 0 news with
    | some k =>
      rw [hp] at hs
      simp only [Option.some.injEq] at hs
      subst hs
      obtain ⟨z, z1, z2, z3, z4⟩ := hnewk hp
      rw [hy] at z1
      injection z1 with z1
      injection z1 with z1
      subst z1
      exact ⟨_, z2, by rw [z3, z4]; exact hv⟩
    | none =>
      rw [hp] at hs
      simp only at hs
      cases hsj : a.srcs[j]? with
      | none => rw [hsj] at hs; cases hs
      | some s =>
        have hi : j < a.ents.length := by rw [c.ok.len]; exact (List.getElem?_eq_some_iff.1 hsj).1
        rw [hsj] at hs
        cases s with
        | arr n =>
          simp only [Option.some.injEq] at hs
          subst hs
          obtain ⟨y', a', r1, r2, r3, r4, r5, r6⟩ := himm hsj
          rw [hy] at r1
          injection r1 with r1
          injection r1 with r1
          subst r1
          exact ⟨a', r2, by rw [r4, r5, r6]; exact hv⟩
        | upd n =>
          simp only [Option.some.injEq] at hs
          subst hs
          obtain ⟨M, m1, _⟩ := c.at hsj
          obtain ⟨x1, z, p1, p2, p3, p4, _⟩ := backOne_upd m1
          rw [hy] at p2
          injection p2 with p2
          injection p2 with p2
          subst p2
          obtain ⟨x2, r1, r2, r3, r4, r5, r6⟩ := c.upd_at hsj hy p4
          obtain ⟨a', s1, s2, s3, s4, s5⟩ := tr.arr' (c.notgiven hsj rfl fun m e => by cases e) r1
          exact ⟨a', s1, by rw [s3, s4, s5, ← r4, ← r5, ← r6]; exact hv⟩
        | sub n lo len =>
          simp only [Option.some.injEq] at hs
          subst hs
          obtain ⟨x0, p1, p2, hle, p3, p4, p5⟩ := c.ok.link j _ _ hsj (List.getElem?_eq_getElem hi)
          obtain ⟨y', r1, _, r3, r4, r5, r6, _⟩ := c.imm hsj (by rw [List.getElem?_eq_getElem hi, p3])
          rw [hy] at r1
          injection r1 with r1
          injection r1 with r1
          subst r1
          obtain ⟨a', s1, s2, s3, s4, s5⟩ := tr.arr' (c.notgiven hsj rfl fun m e => by cases e) p1
          have hlen : ((x0.rows.drop lo).take len).length = len := by rw [List.length_take, List.length_drop]; omega
          exact ⟨a', base j, s1, by rw [s3]; exact hle, by rw [hv, r4, hlen, r5, r6, p4, s5], fun hc => by rw [s4, s2]; exact p5 (by rw [← s5]; exact hc)⟩
        | lit r xs =>
          simp only [Option.some.injEq] at hs
          subst hs
          obtain ⟨p3, p4⟩ := c.ok.link j _ _ hsj (List.getElem?_eq_getElem hi)
          obtain ⟨y', r1, _, r3, r4, r5, r6, _⟩ := c.imm hsj (by rw [List.getElem?_eq_getElem hi, p3])
          rw [hy] at r1
          injection r1 with r1
          injection r1 with r1
          subst r1
          show RelCell w' (fun b => (G.back w h a.srcs news nm G2).zone b = .frz) (.sl r) v xs
          exact relCell_sl.2 ⟨base j, cap j, by rw [hv, r4, r5, r6], p4.mono (fun b hb hz => c.old_frz hb hz) (fun b hb hz => c.old_frz hb hz)⟩
        | own n => simp at hs
        | nil r => simp at hs
        | box n off len => simp at hs
  | sub j lo len =>
    obtain ⟨y, bb, hy, hle, hv, hbb⟩ := hr
    simp only [Sx.embed] at hs
    cases hp : posOf j 0 news with
    | some k =>
      rw [hp] at hs
      simp only [Option.some.injEq] at hs
      subst hs
      obtain ⟨z, z1, z2, z3, z4⟩ := hnewk hp
      rw [hy] at z1
      injection z1 with z1
      injection z1 with z1
      subst z1
      exact ⟨_, bb, z2, hle, by rw [z4]; exact hv, fun hc => by rw [z3]; rw [z4] at hc; exact hbb hc⟩
    | none =>
      rw [hp] at hs
      simp only at hs
      cases hsj : a.srcs[j]? with
      | none => rw [hsj] at hs; cases hs
      | some s =>
        rw [hsj] at hs
        cases s with
        | arr n =>
          simp only [Option.some.injEq] at hs
          subst hs
          obtain ⟨y', a', r1, r2, r3, r4, r5, r6⟩ := himm hsj
          rw [hy] at r1
          injection r1 with r1
          injection r1 with r1
          subst r1
          exact ⟨a', bb, r2, by rw [r4]; exact hle, by rw [r6]; exact hv, fun hc => by rw [r5, r3]; rw [r6] at hc; exact hbb hc⟩
        | upd n => simp at hs
        | sub n lo len => simp at hs
        | lit r xs => simp at hs
        | nil r => simp at hs
        | own n => simp at hs
        | box n off len => simp at hs

theorem Came.embeds (c : Came G w h q nm a base cap G2 w' ents news L1 L2) (x : TV) : ∀ (l l' : List BV) (get : Nat → Option Value) (o : Nat), (∀ (k : Nat) (b : BV), l[k]? = some b → ∃ u, get (o + k) = some u ∧ u.oneCell' = true ∧ RelB G2 w' ents u b) → embeds nm a.srcs news l = some l' →
    l'.length = l.length ∧ ∀ (k : Nat) (b : BV), l'[k]? = some b → ∃ u, get (o + k) = some u ∧ u.oneCell' = true ∧ RelB (G.back w h a.srcs news nm G2) w' (newHeap h (Came.δ a x L1 L2)) u b
  | [], l', get, o, hg, hs => by
    simp only [Sx.embeds, Option.some.injEq] at hs
    subst hs
    exact ⟨rfl, fun k b hk => by simp at hk⟩
  | b :: l, l', get, o, hg, hs => by
    simp only [Sx.embeds] at hs
    cases h1 : Sx.embed nm a.srcs news b with
    | none => rw [h1] at hs; cases hs
    | some b1 =>
      cases h2 : Sx.embeds nm a.srcs news l with
      | none => rw [h1, h2] at hs; cases hs
      | some l1 =>
        rw [h1, h2] at hs
        simp only [Option.some.injEq] at hs
        subst hs
        obtain ⟨p1, p2⟩ := c.embeds x l l1 get (o + 1) (fun k b hk => by
          have := hg (k + 1) b (by simpa using hk)
          rwa [show o + (k + 1) = o + 1 + k by omega] at this) h2
        refine ⟨by simp [p1], fun k b' hk => ?_⟩
        cases k with
        | zero =>
          simp only [List.getElem?_cons_zero, Option.some.injEq] at hk
          subst hk
          obtain ⟨u, u1, u2, u3⟩ := hg 0 b rfl
          exact ⟨u, u1, u2, c.embed x u3 h1⟩
        | succ k =>
          simp only [List.getElem?_cons_succ] at hk
          have := p2 k b' hk
          rwa [show o + 1 + k = o + (k + 1) by omega] at this

theorem Came.embedC (c : Came G w h q nm a base cap G2 w' ents news L1 L2) (x : TV) {v : Value} {y y' : CV} (hr : RelCV G2 w' ents v y) (hs : embedC nm a.srcs news y = some y') : RelCV (G.back w h a.srcs news nm G2) w' (newHeap h (Came.δ a x L1 L2)) v y' := by
  cases y with
  | v b =>
    simp only [Sx.embedC] at hs
    cases h1 : Sx.embed nm a.srcs news b with
    | none => rw [h1] at hs; cases hs
    | some b1 => rw [h1] at hs; simp only [Option.map_some, Option.some.injEq] at hs; subst hs; exact c.embed x hr h1
  | agg cs =>
    simp only [Sx.embedC] at hs
    cases h1 : Sx.embeds nm a.srcs news cs with
    | none => rw [h1] at hs; cases hs
    | some ds =>
      rw [h1] at hs
      simp only [Option.map_some, Option.some.injEq] at hs
      subst hs
      obtain ⟨vs, p1, p2, p3⟩ := hr
      obtain ⟨q1, q2⟩ := c.embeds x cs ds (fun k => vs[k]?) 0 (fun k b hk => by rw [Nat.zero_add]; exact p3 k b hk) h1
      exact ⟨vs, p1, by rw [p2, q1], fun k b hk => by have := q2 k b hk; rwa [Nat.zero_add] at this⟩

theorem Came.embedCs (c : Came G w h q nm a base cap G2 w' ents news L1 L2) (x : TV) : ∀ (l l' : List CV) (get : Nat → Option Value) (o : Nat), (∀ (k : Nat) (b : CV), l[k]? = some b → ∃ u, get (o + k) = some u ∧ RelCV G2 w' ents u b) → embedCs nm a.srcs news l = some l' →
    l'.length = l.length ∧ ∀ (k : Nat) (b : CV), l'[k]? = some b → ∃ u, get (o + k) = some u ∧ RelCV (G.back w h a.srcs news nm G2) w' (newHeap h (Came.δ a x L1 L2)) u b
  | [], l', get, o, hg, hs => by
    simp only [Sx.embedCs, Option.some.injEq] at hs
    subst hs
    exact ⟨rfl, fun k b hk => by simp at hk⟩
  | b :: l, l', get, o, hg, hs => by
    simp only [Sx.embedCs] at hs
    cases h1 : Sx.embedC nm a.srcs news b with
    | none => rw [h1] at hs; cases hs
    | some b1 =>
      cases h2 : Sx.embedCs nm a.srcs news l with
      | none => rw [h1, h2] at hs; cases hs
      | some l1 =>
        rw [h1, h2] at hs
        simp only [Option.some.injEq] at hs
        subst hs
        obtain ⟨p1, p2⟩ := c.embedCs x l l1 get (o + 1) (fun k b hk => by
          have := hg (k + 1) b (by simpa using hk)
          rwa [show o + (k + 1) = o + 1 + k by omega] at this) h2
        refine ⟨by simp [p1], fun k b' hk => ?_⟩
        cases k with
        | zero =>
          simp only [List.getElem?_cons_zero, Option.some.injEq] at hk
          subst hk
          obtain ⟨u, u1, u3⟩ := hg 0 b rfl
          exact ⟨u, u1, c.embedC x u3 h1⟩
        | succ k =>
          simp only [List.getElem?_cons_succ] at hk
          have := p2 k b' hk
          rwa [show o + 1 + k = o + (k + 1) by omega] at this

theorem Came.embedT (c : Came G w h q nm a base cap G2 w' ents news L1 L2) (x : TV) {v : Value} {y y' : TV} (hr : RelTV G2 w' ents v y) (hs : embedT nm a.srcs news y = some y') : RelTV (G.back w h a.srcs news nm G2) w' (newHeap h (Came.δ a x L1 L2)) v y' := by
  cases y with
  | c y =>
    simp only [Sx.embedT] at hs
    cases h1 : Sx.embedC nm a.srcs news y with
    | none => rw [h1] at hs; cases hs
    | some b1 => rw [h1] at hs; simp only [Option.map_some, Option.some.injEq] at hs; subst hs; exact c.embedC x hr h1
  | tup l =>
    simp only [Sx.embedT] at hs
    cases h1 : Sx.embedCs nm a.srcs news l with
    | none => rw [h1] at hs; cases hs
    | some l1 =>
      rw [h1] at hs
      simp only [Option.map_some, Option.some.injEq] at hs
      subst hs
      obtain ⟨vs, p1, p2, p3⟩ := hr
      obtain ⟨q1, q2⟩ := c.embedCs x l l1 (fun k => vs[k]?) 0 (fun k b hk => by rw [Nat.zero_add]; exact p3 k b hk) h1
      exact ⟨vs, p1, by rw [p2, q1], fun k b hk => by have := q2 k b hk; rwa [Nat.zero_add] at this⟩
end
end Go.Sx

/- A call, as a turn of the caller's. -/
set_option linter.unusedVariables false
set_option linter.unusedSimpArgs false
namespace Go.Sx

section
variable {pars : Nat} {G : Gh} {w : World} {h : List Ent} {q : Nat → Ent} {nm : Nat} {a : Acc} {base : Nat → Option Addr} {cap : Nat → Nat} {G2 : Gh} {w' : World} {ents : List Ent} {news : List Nat} {L1 L2 : List (Nat × Ent)}

/-- A row that was captured: all its memory is frozen, and as it was. -/
theorem Came.captured (c : Came G w h q nm a base cap G2 w' ents news L1 L2) {i n : Nat} {s : Src} {x z : Arr} (hs : a.srcs[i]? = some s) (hsn : s = .arr n ∨ ∃ lo len, s = .sub n lo len) (hx : h[n]? = some (.arr x)) (hv : x.virt = false)
    (hz : ents[i]? = some (.arr z)) (hf : z.fix = false) {b : Nat} (hb : b < w.heap.size) (hzb : G.zone b = .top n) : (G.back w h a.srcs news nm G2).zone b = .frz ∧ w'.heap[b]? = w.heap[b]? := by
  obtain ⟨x', rows, q1, q2, q3⟩ := c.link_imm hs hsn
  obtain ⟨y, r1, _, _, _, _, _, r7⟩ := c.imm hs q3
  rw [hz] at r1
  injection r1 with r1
  injection r1 with r1
  subst r1
  have hrow : s.isRow n = true := by rcases hsn with rfl | ⟨lo, len, rfl⟩ <;> simp [Src.isRow]
  have hzi : zin h a.srcs (G.zone b) = .top i := by
    rw [hzb]
    simp only [zin, isVirt_of hx, hv, cond_false]
    rw [findAt_of c.ok.nodup (fun s => isRow_name) hs hrow]
  obtain ⟨t1, _, t3⟩ := r7 b hb hzi
  exact ⟨c.frz (t3 hf), t1⟩

theorem Came.rel (c : Came G w h q nm a base cap G2 w' ents news L1 L2) (x : TV) {y : Nat × Ent} (hy : y ∈ L1 ++ L2) : RelE (G.back w h a.srcs news nm G2) w' (newHeap h (Came.δ a x L1 L2)) y.1 y.2 := by
  rcases List.mem_append.1 hy with hy1 | hy2
  · rcases c.back_inv hy1 with ⟨i, off, len, cs, cs', ds, h1, h2, h3, h4, h5, h6, h7⟩ | ⟨i, x1, z, h1, h2, h3, h4, h5, h6⟩ | ⟨i, s, x1, z, h1, hs, h2, h3, h4, h5, h6, h7⟩
    · rw [h7]
      show RelBox _ _ _ _ _
      obtain ⟨z1, vs, b1, b2, b3⟩ : RelBox G2 w' ents i cs' := c.h2.ent i _ h3
      have hi : i < a.ents.length := by rw [c.ok.len]; exact (List.getElem?_eq_some_iff.1 h1).1
      have hblk : G2.blk i = G.blk y.1 := by
        rw [c.keep.blk i hi]
        simp only [Gh.callee, h1, h5, Nat.add_zero]
      rw [hblk] at z1 b1 b2 b3
      obtain ⟨e1, e2⟩ := c.embeds x cs' ds (fun k => vs[k]?) (G.blk y.1).2 b3 h6
      refine ⟨?_, vs, b1, by rw [e1]; exact b2, e2⟩
      show (G.back w h a.srcs news nm G2).zone (G.blk y.1).1 = .box y.1
      rw [c.shown (by rw [z1]; simp), z1]
      simp only [zout, h1]
    · rw [h6]
      show RelArr _ _ _ _
      obtain ⟨r1, r2, r3⟩ : RelArr G2 w' i z := c.h2.ent i _ h3
      obtain ⟨x2, s1, s2, s3, s4, s5, s6⟩ := c.upd_at h1 h3 h5
      rw [h2] at s1
      injection s1 with s1
      injection s1 with s1
      subst s1
      have hbc := c.old_bc (c.old_name h2 (by simp))
      refine ⟨⟨r1.1, fun ho => ?_⟩, fun hv => ?_, ?_⟩
      · show CleanAt w' z.row _ _
        rw [hbc.1, hbc.2, ← s5, ← s6]
        exact r1.2 h4
      · rw [hbc.2]; exact (relArr_of c.hh h2).2.1 hv
      · show RelSl w' _ _ z.row _ _ z.rows
        rw [hbc.1, hbc.2, ← s5, ← s6]
        refine r3.mono (fun b hb hz => ⟨?_, rfl⟩) (fun b hb hz => ⟨c.frz hz, rfl⟩)
        simp only [ZArr, h4, if_true] at hz ⊢
        rw [c.shown (by rw [hz]; simp), hz]
        simp only [zout, c.notnew h1 (fun m e => by cases e) (fun m e => by cases e), h1]
    · rw [h7]
      show RelArr _ _ _ _
      obtain ⟨r1, r2, r3⟩ := relArr_of c.hh h2
      have hbc := c.old_bc (c.old_name h2 (by simp))
      refine ⟨⟨r1.1, fun ho => (by cases ho)⟩, fun hv => by rw [hbc.2]; exact r2 hv, ?_⟩
      show RelSl w' _ _ x1.row _ _ x1.rows
      rw [hbc.1, hbc.2]
      refine r3.mono (fun b hb hz => ?_) (fun b hb hz => c.old_frz hb hz)
      have hz' : G.zone b = .frz ∨ G.zone b = .top y.1 := by
        unfold ZArr at hz
        split at hz
        · exact .inr hz
        · split at hz
          · exact hz
          · exact .inl hz
      simp only [ZArr, Arr.frz, Bool.false_eq_true, if_false]
      rcases hz' with hz' | hz'
      · exact c.old_frz hb hz'
      · exact c.captured h1 hs h2 h6 h3 h5 hb hz'
  · obtain ⟨k, j, z, h1, h2, h3, rfl⟩ := c.made_inv hy2
    show RelArr _ _ _ _
    obtain ⟨r1, r2, r3⟩ : RelArr G2 w' j z := c.h2.ent j _ h2
    have hbc := c.new_bc h1
    refine ⟨⟨r1.1, fun ho => ?_⟩, fun hv => by rw [hbc.2]; exact r2 hv, ?_⟩
    · show CleanAt w' z.row _ _
      rw [hbc.1, hbc.2]
      exact r1.2 ho
    show RelSl w' _ _ z.row _ _ z.rows
    rw [hbc.1, hbc.2]
    refine r3.mono (fun b hb hz => ⟨?_, rfl⟩) (fun b hb hz => ⟨c.frz hz, rfl⟩)
    have htop : G2.zone b = .top j → (G.back w h a.srcs news nm G2).zone b = .top (nm + k) := fun hz => by
      rw [c.shown (by rw [hz]; simp), hz]
      simp only [zout, posOf_of c.nd h1]
    unfold ZArr at hz ⊢
    cases ho : z.own with
    | true =>
      simp only [ho, if_true] at hz ⊢
      exact htop hz
    | false =>
      have hf : z.fix = false := by rcases h3 with h3 | h3; (rw [ho] at h3; cases h3); exact h3
      simp only [ho, hf, Bool.false_eq_true, if_false] at hz ⊢
      exact c.frz hz

theorem Came.done (c : Came G w h q nm a base cap G2 w' ents news L1 L2) {v : Value} {res x : TV} (hv : RelTV G2 w' ents v res) (he : Sx.embedT nm a.srcs news res = some x) : Done pars G w h (Came.δ a x L1 L2) v w' := by
  have hmem : ∀ {n : Nat} {e : Ent}, (n ∈ a.gives ∨ n ∈ (L1 ++ L2).map (·.1)) → (newHeap h (Came.δ a x L1 L2))[n]? = some e → e = .gone ∨ (n, e) ∈ L1 ++ L2 := by
    intro n e hT hn
    by_cases hm : n ∈ (L1 ++ L2).map (·.1)
    · exact .inr (setAll_inv c.keys.1 hm hn)
    · rcases hT with hT | hT
      · exact .inl (newHeap_gone (δ := Came.δ a x L1 L2) hT (fun y hy e => hm (by rw [← e]; exact List.mem_map_of_mem (f := (·.1)) hy)) hn)
      · exact absurd hT hm
  refine ⟨_, _, c.tr x, fun n e hT hn => ?_, c.embedT x hv he, fun _ _ => rfl, fun n a1 hT hn hf => ?_, fun n a0 hT ha0 h0 => ?_⟩
  · rcases hmem hT hn with rfl | hy
    · exact trivial
    · exact c.rel x hy
  · rcases hmem hT hn with e | hy
    · cases e
    · rcases List.mem_append.1 hy with hy1 | hy2
      · have hno := (c.back_old hy1).2
        rcases c.back_inv hy1 with ⟨i, off, len, cs, cs', ds, h1, h2, h3, h4, h5, h6, h7⟩ | ⟨i, x1, z, h1, h2, h3, h4, h5, h6⟩ | ⟨i, s, x1, z, h1, hs, h2, h3, h4, h5, h6, h7⟩
        · cases h7
        · simp only [Ent.arr.injEq] at h6
          subst h6
          have hbc := c.old_bc (c.old_name h2 (by simp))
          exact ⟨hno, h4, hbc.1, hbc.2, x1, h2, hf⟩
        · simp only [Ent.arr.injEq] at h7
          subst h7
          cases hf
      · obtain ⟨k, j, z, h1, h2, h3, e⟩ := c.made_inv hy2
        simp only [Prod.mk.injEq, Ent.arr.injEq] at e
        obtain ⟨_, rfl⟩ := e
        cases hf
  · have hng : n ∉ a.gives := fun hm => by
      obtain ⟨i, x1, _, h2, h3⟩ := c.gives_old hm
      rw [ha0] at h2
      injection h2 with h2
      injection h2 with h2
      subst h2
      rw [h0] at h3; cases h3
    rcases hT with hT | hT
    · exact absurd hT hng
    · obtain ⟨y, hy, rfl⟩ := List.mem_map.1 hT
      have hbc := c.old_bc (c.old_name ha0 (by simp))
      have hg := c.get x hy
      rcases List.mem_append.1 hy with hy1 | hy2
      · rcases c.back_inv hy1 with ⟨i, off, len, cs, cs', ds, h1, h2, h3, h4, h5, h6, h7⟩ | ⟨i, x1, z, h1, h2, h3, h4, h5, h6⟩ | ⟨i, s, x1, z, h1, hs, h2, h3, h4, h5, h6, h7⟩
        · rw [ha0] at h2; cases h2
        · obtain ⟨x2, s1, s2, _⟩ := c.upd_at h1 h3 h5
          rw [ha0] at s1
          injection s1 with s1
          injection s1 with s1
          subst s1
          rw [h0] at s2; cases s2
        · rw [ha0] at h2
          injection h2 with h2
          injection h2 with h2
          subst h2
          exact ⟨hng, by rw [hg, h7], hbc.1, hbc.2, fun b hb hz => c.captured h1 hs ha0 h6 h3 h5 hb hz⟩
      · obtain ⟨k, j, z, h1, h2, h3, rfl⟩ := c.made_inv hy2
        have := (List.getElem?_eq_some_iff.1 h1).1
        rw [c.free (nm + k) (by omega) (by omega)] at ha0
        cases ha0

/-- A call. -/
theorem call_ok {P : Program} {f : FuncId} {fresh : Nat} {modes : List PM} {vs vs' : List TV} {us : Array Value} {out : Out} {δ : Delta} (hh : RelH G w h) (hq : ∀ n, q n ≠ .gone → h[n]? = some (q n))
    (hf : ∀ m, nm ≤ m → m < nm + fresh → h[m]? = some .gone) (hargs : RelArgs G w h us vs) (hc : convArgs q modes vs ⟨[], [], []⟩ = some (vs', a)) (hcon : Con P f a.ents vs' out) (ha : after q nm fresh a out.1 out.2 = some δ) :
    Calls P f us w fun e w' => ∃ v, e = .returned v ∧ Done pars G w h δ v w' := by
  have h0 : AOk G w h (fun _ => none) (fun _ => 0) ⟨[], [], []⟩ := ⟨rfl, fun i s e hs => by simp at hs, List.nodup_nil, fun m => by simp⟩
  obtain ⟨base, cap, p1, _, p3, p4⟩ := convArgs_ok hh hq (fun k => us[k]?) vs vs' modes 0 _ a _ _ h0 (fun k x hk => by rw [Nat.zero_add]; exact hargs.2 k x hk) hc
  refine Calls.mono (hcon.run (G.callee h a.srcs base cap) w us (callee_relH hh p1) ⟨by rw [hargs.1, p3], fun k x hk => ?_⟩) fun e w' hr => ?_
  · obtain ⟨u, u1, u2⟩ := p4 k x hk
    rw [Nat.zero_add] at u1
    exact ⟨u, u1, callee_relTV p1 u2⟩
  · obtain ⟨v, G2, rfl, hx, h2, hv, hk⟩ := hr
    refine ⟨v, rfl, ?_⟩
    unfold after at ha
    simp only at ha
    generalize hnews : newNames a.srcs (out.1.names ++ boxNames out.2 0 a.srcs) = news at ha
    obtain ⟨n1, n2⟩ := newNames_spec a.srcs (out.1.names ++ boxNames out.2 0 a.srcs)
    rw [hnews] at n1 n2
    cases hle : Nat.ble news.length fresh with
    | false => rw [hle] at ha; cases ha
    | true =>
      rw [hle] at ha
      simp only [cond_true] at ha
      have hle := Nat.le_of_ble_eq_true hle
      cases e1 : Sx.embedT nm a.srcs news out.1 with
      | none => rw [e1] at ha; simp at ha
      | some x =>
        cases e2 : backSets q nm a news out.2 0 a.srcs with
        | none => rw [e1, e2] at ha; simp at ha
        | some L1 =>
          cases e3 : newSets nm out.2 0 news with
          | none => rw [e1, e2, e3] at ha; simp at ha
          | some L2 =>
            rw [e1, e2, e3] at ha
            simp only [Option.some.injEq] at ha
            subst ha
            have c : Came G w h q nm a base cap G2 w' out.2 news L1 L2 := ⟨hh, hq, p1, hx, h2, hk, n1, fun j hj => ((n2 j).1 hj).2, e2, e3, fun m m1 m2 => hf m m1 (by omega)⟩
            exact c.done hv e1
end
end Go.Sx
