/- Part Sc of a proof: every text below is one step of it; what the last part proves is said there. -/
import Derived.Test.YtidikilmomkbbaaSb

/- One operation of a region, calls with them. -/
set_option linter.unusedVariables false
set_option linter.unusedSimpArgs false
namespace Go.Sx

/-- A call's Delta. -/
def CallR {β : Type} (E : Env β) (σ : St) (nm lim : Nat) (f : FuncId) (vs : List TV) (δ : Delta) : Prop :=
  ∃ (sig : Sig) (vs' : List TV) (a : Acc) (out : Out), E.S f = some sig ∧ sig.fresh ≤ lim ∧ convArgs (look σ.heap (seen σ.heap vs)) sig.modes vs ⟨[], [], []⟩ = some (vs', a) ∧ Con E.P f a.ents vs' out ∧ after (look σ.heap (seen σ.heap vs)) nm sig.fresh a out.1 out.2 = some δ

/-- What one operation comes to, without what follows. -/
inductive OneR {β : Type} (E : Env β) (σ : St) (nm : Nat) (o : Oper) (δ : Delta) : Prop where
  | call (f : FuncId) (args : Array Operand) (at_ : Array TypeId) (ho : o.op = .call { callee := .value (.func f), args := args, argTypes := at_ }) (h : CallR E σ nm ((E.S f).elim 0 (·.fresh)) f (argVals E.P σ args.toList at_.toList) δ)
  | clos (x : Operand) (f : FuncId) (caps : List CapV) (args : Array Operand) (at_ : Array TypeId) (ho : o.op = .call { callee := .value x, args := args, argTypes := at_ }) (hnf : ∀ g, x ≠ .func g) (hx : opVal σ x = .c (.v (.fn f caps)))
      (h : CallR E σ nm 4 f (argVals E.P σ args.toList at_.toList ++ caps.map CapV.tv) δ)
  | step (hl : δ.litk = []) (h : step E.P nm (opVal σ) (look σ.heap (seen σ.heap (o.op.operands.toList.map (opVal σ)))) o = some (true, δ))

theorem callK_inv {β : Type} {E : Env β} (hO : OOk E.P E.O) {σ : St} {nm lim : Nat} {f : FuncId} {vs : List TV} {K : Delta → Option β} {r : β} (h : callK E σ nm lim f vs K = some r) : ∃ δ, CallR E σ nm lim f vs δ ∧ K δ = some r := by
  unfold callK at h
  cases hs : E.S f with
  | none => rw [hs] at h; cases h
  | some sig =>
    rw [hs] at h
    simp only at h
    cases hle : Nat.ble sig.fresh lim with
    | false => rw [hle] at h; cases h
    | true =>
    rw [hle] at h
    simp only [Bool.not_true, cond_false] at h
    have hle := Nat.le_of_ble_eq_true hle
    cases hc : convArgs (look σ.heap (seen σ.heap vs)) sig.modes vs ⟨[], [], []⟩ with
    | none => rw [hc] at h; cases h
    | some y =>
      obtain ⟨vs', a⟩ := y
      rw [hc] at h
      simp only at h
      obtain ⟨out, hcon, hk⟩ := hO _ _ _ _ _ h
      cases ha : after (look σ.heap (seen σ.heap vs)) nm sig.fresh a out.1 out.2 with
      | none => rw [ha] at hk; cases hk
      | some δ =>
        rw [ha] at hk
        exact ⟨δ, ⟨sig, vs', a, out, hs, hle, hc, hcon, ha⟩, hk⟩

theorem freeAt_spec {hp : List Ent} : ∀ (n nm : Nat), freeAt hp nm n = true → ∀ m, nm ≤ m → m < nm + n → hp[m]? = some .gone
  | 0, nm, h, m, h1, h2 => by omega
  | n + 1, nm, h, m, h1, h2 => by
    simp only [freeAt, Bool.and_eq_true] at h
    by_cases hm : m = nm
    · subst hm
      have := h.1
      split at this
      · assumption
      · cases this
    · exact freeAt_spec n (nm + 1) h.2 m (by omega) (by omega)

theorem oneK_free {β : Type} {E : Env β} {σ : St} {nm : Nat} {o : Oper} {K : Delta → Option β} {r : β} (h : oneK E σ nm o K = some r) : (∀ m, nm ≤ m → m < nm + needOf E o → σ.heap[m]? = some .gone) ∧ E.pars ≤ nm := by
  unfold oneK at h
  cases hc : (freeAt σ.heap nm (needOf E o) && Nat.ble E.pars nm) with
  | false => rw [hc] at h; cases h
  | true =>
    simp only [Bool.and_eq_true] at hc
    exact ⟨freeAt_spec _ _ hc.1, Nat.le_of_ble_eq_true hc.2⟩

theorem oneK_inv {β : Type} {E : Env β} (hO : OOk E.P E.O) {σ : St} {nm : Nat} {o : Oper} {K : Delta → Option β} {r : β} (h : oneK E σ nm o K = some r) : ∃ δ, OneR E σ nm o δ ∧ K δ = some r := by
  unfold oneK at h
  cases hfr : (freeAt σ.heap nm (needOf E o) && Nat.ble E.pars nm) with
  | false => rw [hfr] at h; cases h
  | true =>
  rw [hfr] at h
  simp only [Bool.not_true, cond_false] at h
  split at h
  · rename_i f args at_ ho
    split at h
    · obtain ⟨δ, h1, h2⟩ := callK_inv hO h
      exact ⟨δ, .call _ args at_ ho h1, h2⟩
    · rename_i hnf
      split at h
      · rename_i hx
        obtain ⟨δ, h1, h2⟩ := callK_inv hO h
        exact ⟨δ, .clos _ _ _ args at_ ho (fun g e => hnf g e) hx h1, h2⟩
      · cases h
  · split at h
    · rename_i g δ hs
      cases hl : δ.litk.isEmpty with
      | false => rw [hl] at h; cases h
      | true =>
        rw [hl] at h
        cases g with
        | true => exact ⟨δ, .step (List.isEmpty_iff.1 hl) (by assumption), h⟩
        | false => cases h
    · cases h

/-- The interpreter's state, and the activation's. -/
structure RelS (G : Gh) (w : World) (σ : St) (a : Act) : Prop where
  heap : RelH G w σ.heap
  size : a.tmps.size = σ.tmps.length
  tmp : ∀ (t : Nat) (x : TV), σ.tmps[t]? = some x → ∃ v, a.tmps[t]? = some v ∧ RelTV G w σ.heap v x
  defers : a.defers = []

theorem RelS.get {G : Gh} {w : World} {σ : St} {a : Act} (hr : RelS G w σ a) (t : Nat) : RelTV G w σ.heap (a.eval (.tmp t)) (σ.get t) := by
  unfold St.get
  rw [List.getD_eq_getElem?_getD]
  cases hq : σ.tmps[t]? with
  | none => exact trivial
  | some x =>
    obtain ⟨v, h1, h2⟩ := hr.tmp t x hq
    have : a.eval (.tmp t) = v := by
      simp only [Act.eval]
      rw [Array.getD_eq_getD_getElem?, h1]; rfl
    rw [this]; exact h2

theorem RelS.opVal {G : Gh} {w : World} {σ : St} {a : Act} (hr : RelS G w σ a) (x : Operand) : RelTV G w σ.heap (a.eval x) (opVal σ x) := by
  cases x with
  | tmp t => exact hr.get t
  | global g => exact trivial
  | func f => exact ⟨#[], rfl, rfl, fun i c hi => by simp at hi⟩
  | const v =>
    cases v <;> first | exact rfl | exact trivial

end Go.Sx

/- One operation of a region, in the machine. -/
set_option linter.unusedVariables false
set_option linter.unusedSimpArgs false
namespace Go.Sx

theorem run_callFunc_enter {P : Program} {f : FuncId} {args : Array Value} {w : World} (h : ∃ fn, P.funcs[f]? = some fn ∧ (fn.name == "runtime.NumGoroutine") = false ∧ fn.body.isNone = false) : (callFunc f args).run P w = .ok (.enter f args) w := by
  obtain ⟨fn, h1, h2, h3⟩ := h
  have h2' : ¬ fn.name = "runtime.NumGoroutine" := by intro e; rw [e] at h2; simp at h2
  have h3' : ¬ fn.body = none := by intro e; rw [e] at h3; cases h3
  simp [callFunc, h1, h2', h3']

theorem argVals_get {P : Program} {σ : St} : ∀ (l : List Operand) (ts : List TypeId) (k : Nat) (x : TV), (argVals P σ l ts)[k]? = some x → ∃ y t, l[k]? = some y ∧ x = argVal P σ y t
  | [], ts, k, x, h => by simp [argVals] at h
  | y :: l, ts, k, x, h => by
    simp only [argVals] at h
    cases k with
    | zero =>
      simp only [List.getElem?_cons_zero, Option.some.injEq] at h
      exact ⟨y, _, rfl, h.symm⟩
    | succ k =>
      simp only [List.getElem?_cons_succ] at h
      obtain ⟨y', t, h1, h2⟩ := argVals_get l ts.tail k x h
      exact ⟨y', t, by simpa using h1, h2⟩

theorem argVals_length {P : Program} {σ : St} : ∀ (l : List Operand) (ts : List TypeId), (argVals P σ l ts).length = l.length
  | [], ts => rfl
  | y :: l, ts => by simp only [argVals, List.length_cons, argVals_length l ts.tail]

section
variable {G : Gh} {w : World} {σ : St} {a : Act}

theorem RelS.arg {P : Program} (hr : RelS G w σ a) (y : Operand) (t : TypeId) : RelTV G w σ.heap (a.eval y) (argVal P σ y t) := by
  unfold argVal
  split
  · split
    · rename_i r _
      exact ⟨none, rfl⟩
    · exact trivial
  · exact hr.opVal y

theorem RelS.args {P : Program} (hr : RelS G w σ a) (l : Array Operand) (ts : List TypeId) : RelArgs G w σ.heap (l.map a.eval) (argVals P σ l.toList ts) := by
  refine ⟨by rw [argVals_length]; simp, fun k x hk => ?_⟩
  obtain ⟨y, t, h1, rfl⟩ := argVals_get _ _ _ _ hk
  rw [Array.getElem?_toList] at h1
  exact ⟨a.eval y, by rw [Array.getElem?_map, h1]; rfl, hr.arg y t⟩

/-- A turn, put into its temporary. -/
theorem RelS.apply {pars : Nat} (hr : RelS G w σ a) {δ : Delta} {v : Value} {w' : World} {d : Option Nat} (hl : δ.litk = []) (hd : Done pars G w σ.heap δ v w') :
    ∃ G', RelS G' w' (σ.apply δ d) (a.put d v) ∧ Ext G w G' w' ∧ Keep pars G w σ.heap G' w' (σ.apply δ d).heap := by
  obtain ⟨G', h1, h2, h3, h4, h5⟩ := hd.keep hr.heap
  have hheap : (σ.apply δ d).heap = newHeap σ.heap δ := by
    unfold St.apply newHeap
    cases d with
    | none => rfl
    | some t => rfl
  have htm : ∀ (t : Nat) (x : TV), (bif δ.calm then σ.tmps else σ.tmps.map (·.kill δ.kills δ.litk))[t]? = some x → ∃ v, a.tmps[t]? = some v ∧ RelTV G' w' (newHeap σ.heap δ) v x := by
    intro t x hx
    cases hc : δ.calm with
    | false =>
      rw [hc] at hx
      simp only [cond_false] at hx
      rw [List.getElem?_map] at hx
      cases hq : σ.tmps[t]? with
      | none => rw [hq] at hx; cases hx
      | some y =>
        rw [hq] at hx
        simp only [Option.map_some, Option.some.injEq] at hx
        subst hx
        obtain ⟨u, u1, u2⟩ := hr.tmp t y hq
        exact ⟨u, u1, by rw [hl]; exact h5 u y u2⟩
    | true =>
      rw [hc] at hx
      simp only [cond_true] at hx
      obtain ⟨u, u1, u2⟩ := hr.tmp t x hx
      refine ⟨u, u1, ?_⟩
      have hk : δ.kills = [] := by
        unfold Delta.calm at hc
        simp only [Bool.and_eq_true, List.isEmpty_iff] at hc
        exact hc.1
      have := h5 u x u2
      rw [hk] at this
      have hb : ∀ b : BV, b.kill [] [] = b := by
        intro b
        have := Ent.kill_nil (.box [b])
        simp only [Ent.kill, List.map_cons, List.map_nil, Ent.box.injEq, List.cons.injEq, and_true] at this
        exact this
      have hcv : ∀ c : CV, c.kill [] [] = c := by
        intro c
        cases c with
        | v b => simp only [CV.kill, hb]
        | agg cs =>
          simp only [CV.kill]
          congr 1
          conv => rhs; rw [← List.map_id cs]
          exact List.map_congr_left fun b _ => hb b
      have : x.kill [] [] = x := by
        cases x with
        | c c => simp only [TV.kill, hcv]
        | tup xs =>
          simp only [TV.kill]
          congr 1
          conv => rhs; rw [← List.map_id xs]
          exact List.map_congr_left fun b _ => hcv b
      rw [← this]; assumption
  have hlen : (bif δ.calm then σ.tmps else σ.tmps.map (·.kill δ.kills δ.litk)).length = σ.tmps.length := by cases δ.calm <;> simp
  refine ⟨G', ⟨by rw [hheap]; exact h2, ?_, fun t x hx => ?_, ?_⟩, h1, by rw [hheap]; exact h4⟩
  · cases d with
    | none => exact hr.size.trans hlen.symm
    | some t => simp only [Act.put, St.apply, St.put, Array.size_setIfInBounds, List.length_set]; exact hr.size.trans hlen.symm
  · rw [hheap]
    cases d with
    | none => exact htm t x hx
    | some t0 =>
      simp only [St.apply, St.put] at hx
      rw [List.getElem?_set] at hx
      by_cases ht : t0 = t
      · subst ht
        rw [if_pos rfl] at hx
        split at hx
        · rename_i hlt
          simp only [Option.some.injEq] at hx
          subst hx
          exact ⟨v, by simp only [Act.put]; rw [Array.getElem?_setIfInBounds_self_of_lt]; rw [hr.size, ← hlen]; exact hlt, h3⟩
        · cases hx
      · rw [if_neg ht] at hx
        obtain ⟨u, u1, u2⟩ := htm t x hx
        exact ⟨u, by simp only [Act.put]; rw [Array.getElem?_setIfInBounds_ne (fun e => ht e)]; exact u1, u2⟩
  · cases d <;> exact hr.defers
end
end Go.Sx

/- One operation of a region, in the machine: joined. -/
set_option linter.unusedVariables false
set_option linter.unusedSimpArgs false
namespace Go.Sx

theorem RelCap.tv {G : Gh} {w : World} {h : List Ent} {v : Value} {c : CapV} (hc : RelCap G h v c) : RelTV G w h v c.tv := by
  cases c <;> exact hc

theorem RelArgs.append {G : Gh} {w : World} {h : List Ent} {us vs : Array Value} {xs ys : List TV} (h1 : RelArgs G w h us xs) (h2 : RelArgs G w h vs ys) : RelArgs G w h (us ++ vs) (xs ++ ys) := by
  refine ⟨by rw [Array.size_append, List.length_append, h1.1, h2.1], fun i x hi => ?_⟩
  by_cases hlt : i < xs.length
  · rw [List.getElem?_append_left hlt] at hi
    obtain ⟨v, p1, p2⟩ := h1.2 i x hi
    exact ⟨v, by rw [Array.getElem?_append_left (by rw [h1.1]; exact hlt)]; exact p1, p2⟩
  · rw [List.getElem?_append_right (by omega)] at hi
    obtain ⟨v, p1, p2⟩ := h2.2 _ x hi
    exact ⟨v, by rw [Array.getElem?_append_right (by rw [h1.1]; omega), h1.1]; exact p1, p2⟩

theorem after_litk {q : Nat → Ent} {nm fresh : Nat} {a : Acc} {res : TV} {ents : List Ent} {δ : Delta} (h : after q nm fresh a res ents = some δ) : δ.litk = [] := by
  unfold after at h
  simp only at h
  have hb : ∀ {g : Bool} {o : Option Delta}, (bif g then o else none) = some δ → o = some δ := by
    intro g o hr
    cases g with
    | true => exact hr
    | false => cases hr
  have h := hb h
  split at h
  · simp only [Option.some.injEq] at h
    subst h; rfl
  · cases h

section
variable {G : Gh} {w : World} {σ : St} {a : Act}

theorem call_wp {β : Type} {E : Env β} {pars nm lim : Nat} {o : Oper} {δ : Delta} {f : FuncId} {us : Array Value} {vs : List TV} {next : Act → World → Prop} {Q : Exit → Act → World → Prop} (hr : RelS G w σ a) (hc : CallR E σ nm lim f vs δ) (hargs : RelArgs G w σ.heap us vs)
    (hrun : (∃ fn, E.P.funcs[f]? = some fn ∧ (fn.name == "runtime.NumGoroutine") = false ∧ fn.body.isNone = false) → (execOp a.eval o).run E.P w = .ok (.enter f us) w)
    (hf : ∀ m, nm ≤ m → m < nm + lim → σ.heap[m]? = some .gone) (hn : δ.litk = [] → ∀ v w', Done pars G w σ.heap δ v w' → next (a.put o.dst v) w') : o.wp E.P a w next Q := by
  obtain ⟨sig, vs', acc, out, h1, h2, h3, h4, h5⟩ := hc
  have hl : δ.litk = [] := after_litk h5
  unfold Oper.wp
  rw [hrun h4.able, Oper.upon_enter]
  refine Calls.mono (call_ok (pars := pars) hr.heap look_spec (fun m m1 m2 => hf m m1 (by omega)) hargs h3 h4 h5) fun e w' he => ?_
  obtain ⟨v, rfl, hd⟩ := he
  exact hn hl v w' hd

theorem one_wp {β : Type} {E : Env β} {pars nm : Nat} {o : Oper} {δ : Delta} {next : Act → World → Prop} {Q : Exit → Act → World → Prop} (hr : RelS G w σ a) (h1 : OneR E σ nm o δ) (hf : ∀ m, nm ≤ m → m < nm + needOf E o → σ.heap[m]? = some .gone) (hp : pars ≤ nm)
    (hn : δ.litk = [] → ∀ v w', Done pars G w σ.heap δ v w' → next (a.put o.dst v) w') : o.wp E.P a w next Q := by
  cases h1 with
  | call f args at_ ho h =>
    refine call_wp hr h (hr.args args at_.toList) (fun hab => ?_) (fun m m1 m2 => hf m m1 (by simp only [needOf, ho]; exact m2)) hn
    simp [execOp, ho, resolve, Act.eval, Deferred.ofValue, invoke, run_callFunc_enter hab]
  | clos x f caps args at_ ho hnf hx h =>
    have hv := hr.opVal x
    rw [hx] at hv
    obtain ⟨vs, hv, hs, hc⟩ := hv
    have ha2 : RelArgs G w σ.heap vs (caps.map CapV.tv) := by
      refine ⟨by rw [hs, List.length_map], fun i y hi => ?_⟩
      rw [List.getElem?_map] at hi
      cases hq : caps[i]? with
      | none => rw [hq] at hi; cases hi
      | some c =>
        rw [hq] at hi
        simp only [Option.map_some, Option.some.injEq] at hi
        subst hi
        obtain ⟨u, u1, u2⟩ := hc i c hq
        exact ⟨u, u1, u2.tv⟩
    refine call_wp hr h ((hr.args args at_.toList).append ha2) (fun hab => ?_) (fun m m1 m2 => hf m m1 ?_) hn
    · simp [execOp, ho, resolve, hv, Deferred.ofValue, invoke, run_callFunc_enter hab]
    · cases x <;> first | exact absurd rfl (hnf _) | (simp only [needOf, ho]; exact m2)
  | step hl h =>
    have hf' : ∀ m, nm ≤ m → m < nm + needs E.P o → σ.heap[m]? = some .gone := fun m m1 m2 => by
      refine hf m m1 ?_
      unfold needOf
      split
      · rename_i ho; simp [needs, ho] at m2; omega
      · rename_i ho; simp [needs, ho] at m2; omega
      · exact m2
    obtain ⟨v, w', hrun, hd⟩ := step_sound (pars := pars) hr.heap look_spec (fun y => hr.opVal y) (fun v => rfl) hf' hp h rfl
    unfold Oper.wp
    rcases hrun with hrun | ⟨hrun, rfl⟩
    · rw [hrun, Oper.upon_value]; exact hn hl v w' hd
    · rw [hrun, Oper.upon_skip]; exact hn hl _ w' hd
end
end Go.Sx

/- The operations of a region, in order. -/
set_option linter.unusedVariables false
set_option linter.unusedSimpArgs false
namespace Go.Sx

/-- The operation's names are free. -/
def Free {β : Type} (E : Env β) (σ : St) (nm : Nat) (o : Oper) : Prop := (∀ m, nm ≤ m → m < nm + needOf E o → σ.heap[m]? = some .gone) ∧ E.pars ≤ nm

inductive RunR {β : Type} (E : Env β) (all : Array Oper) : List (Oper × Nat) → St → St → Prop where
  | nil {σ : St} : RunR E all [] σ σ
  | one {o : Oper} {nm : Nat} {l : List (Oper × Nat)} {σ σ' : St} {δ : Delta} (hg : o.guard = none) (hf : Free E σ nm o) (h : OneR E σ nm o δ) (hr : RunR E all l (σ.apply δ o.dst) σ') : RunR E all ((o, nm) :: l) σ σ'
  | yes {o : Oper} {nm : Nat} {l : List (Oper × Nat)} {σ σ' : St} {δ : Delta} {j t : Nat} {want : Bool} (hg : o.guard = some (j, want)) (hj : (all[j]?).bind (·.dst) = some t) (hb : σ.get t = .c (.v (.bool want))) (hf : Free E σ nm o) (h : OneR E σ nm o δ) (hr : RunR E all l (σ.apply δ o.dst) σ') : RunR E all ((o, nm) :: l) σ σ'
  | no {o : Oper} {nm : Nat} {l : List (Oper × Nat)} {σ σ' : St} {j t : Nat} {want : Bool} (hg : o.guard = some (j, want)) (hj : (all[j]?).bind (·.dst) = some t) (hb : σ.get t = .c (.v (.bool (!want))) ∨ σ.get t = .tup []) (hr : RunR E all l (σ.put o.dst skipTV) σ') : RunR E all ((o, nm) :: l) σ σ'

theorem put_get {σ : St} {t : Nat} {b : Bool} (h : σ.get t = .c (.v (.bool b))) : σ.put (some t) (.c (.v (.bool b))) = σ := by
  unfold St.get at h
  rw [List.getD_eq_getElem?_getD] at h
  cases hq : σ.tmps[t]? with
  | none => rw [hq] at h; cases h
  | some x =>
    rw [hq] at h
    simp only [Option.getD_some] at h
    subst h
    unfold St.put
    simp only
    congr 1
    apply List.ext_getElem?
    intro i
    rw [List.getElem?_set]
    by_cases hi : t = i
    · subst hi
      rw [if_pos rfl, if_pos (List.getElem?_eq_some_iff.1 hq).1, hq]
    · rw [if_neg hi]

theorem runOps_inv {β : Type} {E : Env β} (hO : OOk E.P E.O) {all : Array Oper} {K : St → Option β} {r : β} : ∀ (l : List (Oper × Nat)) (σ : St), runOps E all l σ K = some r → ∃ σ', RunR E all l σ σ' ∧ K σ' = some r
  | [], σ, h => ⟨σ, .nil, h⟩
  | (o, nm) :: l, σ, h => by
    simp only [runOps] at h
    split at h
    · rename_i hg
      obtain ⟨δ, h1, h2⟩ := oneK_inv hO h
      obtain ⟨σ', h3, h4⟩ := runOps_inv hO l _ h2
      exact ⟨σ', .one hg (oneK_free h) h1 h3, h4⟩
    · rename_i j want hg
      split at h
      · rename_i t hj
        split at h
        · rename_i b hb
          have key : ∀ (σ1 : St), σ1 = σ → b = want → (oneK E σ1 nm o fun δ => runOps E all l (σ1.apply δ o.dst) K) = some r → ∃ σ', RunR E all ((o, nm) :: l) σ σ' ∧ K σ' = some r := by
            intro σ1 e1 e2 hk
            clear h
            subst e1 e2
            obtain ⟨δ, h1, h2⟩ := oneK_inv hO hk
            obtain ⟨σ', h3, h4⟩ := runOps_inv hO l _ h2
            exact ⟨σ', .yes hg hj hb (oneK_free hk) h1 h3, h4⟩
          have key2 : ∀ (σ1 : St), σ1 = σ → b = !want → runOps E all l (σ1.put o.dst skipTV) K = some r → ∃ σ', RunR E all ((o, nm) :: l) σ σ' ∧ K σ' = some r := by
            intro σ1 e1 e2 hk
            clear h
            subst e1
            obtain ⟨σ', h3, h4⟩ := runOps_inv hO l _ hk
            exact ⟨σ', .no hg hj (.inl (by rw [hb, e2])) h3, h4⟩
          have hpg := put_get hb
          cases want with
          | true =>
            cases b with
            | true => exact key _ hpg rfl h
            | false => exact key2 _ hpg rfl h
          | false =>
            cases b with
            | true => exact key2 _ hpg rfl h
            | false => exact key _ hpg rfl h
        · rename_i hb
          obtain ⟨σ', h3, h4⟩ := runOps_inv hO l _ h
          exact ⟨σ', .no hg hj (.inr hb) h3, h4⟩
        · cases h
      · cases h
section
variable {G : Gh} {w : World} {a : Act}

theorem RelS.skip {σ : St} (hr : RelS G w σ a) (d : Option Nat) : RelS G w (σ.put d skipTV) (a.put d undef) := by
  cases d with
  | none => exact hr
  | some t =>
    refine ⟨hr.heap, by simp only [Act.put, St.put, Array.size_setIfInBounds, List.length_set]; exact hr.size, fun i x hx => ?_, hr.defers⟩
    simp only [St.put] at hx
    rw [List.getElem?_set] at hx
    by_cases ht : t = i
    · subst ht
      rw [if_pos rfl] at hx
      split at hx
      · rename_i hlt
        simp only [Option.some.injEq] at hx
        subst hx
        exact ⟨undef, by simp only [Act.put]; rw [Array.getElem?_setIfInBounds_self_of_lt]; rw [hr.size]; exact hlt, #[], rfl, rfl, fun i x hi => by simp at hi⟩
      · cases hx
    · rw [if_neg ht] at hx
      obtain ⟨u, u1, u2⟩ := hr.tmp i x hx
      exact ⟨u, by simp only [Act.put]; rw [Array.getElem?_setIfInBounds_ne (fun e => ht e)]; exact u1, u2⟩

theorem RelS.yield {σ : St} (hr : RelS G w σ a) {all : Array Oper} {j t : Nat} {b : Bool} (hj : (all[j]?).bind (·.dst) = some t) (hb : σ.get t = .c (.v (.bool b))) : yielded all a.tmps j = some b := by
  unfold St.get at hb
  rw [List.getD_eq_getElem?_getD] at hb
  cases hq : σ.tmps[t]? with
  | none => rw [hq] at hb; cases hb
  | some x =>
    rw [hq] at hb
    simp only [Option.getD_some] at hb
    subst hb
    obtain ⟨v, v1, v2⟩ := hr.tmp t _ hq
    have := bv_bool v2
    subst this
    unfold yielded
    rw [hj]
    simp only [Option.bind_some, v1]

theorem RelS.unyield {σ : St} (hr : RelS G w σ a) {all : Array Oper} {j t : Nat} (hj : (all[j]?).bind (·.dst) = some t) (hb : σ.get t = .tup []) : yielded all a.tmps j = none := by
  unfold St.get at hb
  rw [List.getD_eq_getElem?_getD] at hb
  cases hq : σ.tmps[t]? with
  | none => rw [hq] at hb; cases hb
  | some x =>
    rw [hq] at hb
    simp only [Option.getD_some] at hb
    subst hb
    obtain ⟨v, v1, vs, v2, _⟩ := hr.tmp t _ hq
    subst v2
    unfold yielded
    rw [hj]
    simp only [Option.bind_some, v1]

theorem RelS.unwanted {σ : St} (hr : RelS G w σ a) {all : Array Oper} {o : Oper} {j t : Nat} {want : Bool} (hg : o.guard = some (j, want)) (hj : (all[j]?).bind (·.dst) = some t) (hb : σ.get t = .c (.v (.bool (!want))) ∨ σ.get t = .tup []) : Region.wanted o (yielded all a.tmps) = false := by
  rcases hb with hb | hb
  · simp [Region.wanted, hg, hr.yield hj hb]
  · simp [Region.wanted, hg, hr.unyield hj hb]

theorem run_wp {β : Type} {E : Env β} {all : Array Oper} {Q : Exit → Act → World → Prop} {l : List (Oper × Nat)} {σ σ' : St} (hrun : RunR E all l σ σ') : ∀ {G : Gh} {w : World} {a : Act}, RelS G w σ a →
    (∀ G' w' a', RelS G' w' σ' a' → Ext G w G' w' → Keep E.pars G w σ.heap G' w' σ'.heap → Q .normal a' w') → wpList E.P all Q (l.map (·.1)) a w := by
  induction hrun with
  | nil => intro G w a hr hq; exact hq G w a hr (Ext.refl _ _) (Keep.refl _ _ _ _)
  | one hg hf h _ ih =>
    intro G w a hr hq
    simp only [List.map_cons, wpList]
    rw [if_pos (by simp [Region.wanted, hg])]
    refine .inl (one_wp hr h hf.1 hf.2 fun hl v w' hd => ?_)
    obtain ⟨G', h1, h2, h3⟩ := hr.apply hl hd
    exact ih h1 fun G2 w2 a2 k1 k2 k3 => hq G2 w2 a2 k1 (h2.trans k2) (h3.trans h2.size k2 k3)
  | yes hg hj hb hf h _ ih =>
    intro G w a hr hq
    simp only [List.map_cons, wpList]
    rw [if_pos (by simp [Region.wanted, hg, hr.yield hj hb])]
    refine .inl (one_wp hr h hf.1 hf.2 fun hl v w' hd => ?_)
    obtain ⟨G', h1, h2, h3⟩ := hr.apply hl hd
    exact ih h1 fun G2 w2 a2 k1 k2 k3 => hq G2 w2 a2 k1 (h2.trans k2) (h3.trans h2.size k2 k3)
  | no hg hj hb _ ih =>
    intro G w a hr hq
    simp only [List.map_cons, wpList]
    rw [if_neg (by rw [hr.unwanted hg hj hb]; simp)]
    rename_i o nm l σ σ' j t want _
    have hh : (σ.put o.dst skipTV).heap = σ.heap := by cases o.dst <;> rfl
    refine ih (hr.skip _) fun G2 w2 a2 k1 k2 k3 => hq G2 w2 a2 k1 k2 (by rw [← hh]; exact k3)
end
end Go.Sx

/- A region whose order is the text's. -/
set_option linter.unusedVariables false
set_option linter.unusedSimpArgs false
namespace Go.Sx

/-! the number of temporaries -/
theorem apply_length (σ : St) (δ : Delta) (d : Option Nat) : (σ.apply δ d).tmps.length = σ.tmps.length := by
  unfold St.apply
  cases d with
  | none => simp only [St.put]; cases δ.calm <;> simp
  | some t => simp only [St.put, List.length_set]; cases δ.calm <;> simp
theorem put_length (σ : St) (d : Option Nat) (v : TV) : (σ.put d v).tmps.length = σ.tmps.length := by cases d <;> simp [St.put]

theorem runR_length {β : Type} {E : Env β} {all : Array Oper} {l : List (Oper × Nat)} {σ σ' : St} (h : RunR E all l σ σ') : σ'.tmps.length = σ.tmps.length := by
  induction h with
  | nil => rfl
  | one _ _ _ _ ih => rw [ih, apply_length]
  | yes _ _ _ _ _ _ ih => rw [ih, apply_length]
  | no _ _ _ _ ih => rw [ih, put_length]

theorem named_fst {β : Type} (E : Env β) : ∀ (l : List Oper) (nm : Nat), (named E nm l).map (·.1) = l
  | [], nm => rfl
  | o :: l, nm => by simp only [named, List.map_cons, named_fst E l]

section
variable {G : Gh} {w : World} {σ : St} {a : Act}

theorem wider_old {h : List Ent} {n m : Nat} {e : Ent} (he : h[m]? = some e) : (h ++ List.replicate n .gone)[m]? = some e := by
  rw [List.getElem?_append_left (List.getElem?_eq_some_iff.1 he).1]; exact he

theorem wider_relB {h : List Ent} {n : Nat} {v : Value} : {b : BV} → RelB G w h v b → RelB G w (h ++ List.replicate n .gone) v b
  | .undef, _ => trivial
  | .int _ _, hr | .bool _, hr | .str _, hr | .nilp, hr | .emp _, hr => hr
  | .ref m, hr => by obtain ⟨x, h1, h2⟩ := hr; exact ⟨x, wider_old h1, h2⟩
  | .sub m lo len, hr => by obtain ⟨x, b, h1, h2⟩ := hr; exact ⟨x, b, wider_old h1, h2⟩
  | .lit none _ r xs, hr => hr
  | .lit (some _) _ _ _, hr => hr.elim
  | .ptrB m off, hr => by obtain ⟨x, h1, h2⟩ := hr; exact ⟨x, wider_old h1, h2⟩
  | .ptrE m i j, hr => by obtain ⟨x, ad, h1, h2⟩ := hr; exact ⟨x, ad, wider_old h1, h2⟩
  | .ptrL none r x j, hr => hr
  | .ptrL (some _) _ _ _, hr => hr.elim
  | .fn f caps, hr => by
    obtain ⟨vs, h1, h2, h3⟩ := hr
    refine ⟨vs, h1, h2, fun i c hi => ?_⟩
    obtain ⟨u, u1, u2⟩ := h3 i c hi
    refine ⟨u, u1, ?_⟩
    cases c with
    | ref m => obtain ⟨x, k1, k2⟩ := u2; exact ⟨x, wider_old k1, k2⟩
    | ptr m off => obtain ⟨x, k1, k2⟩ := u2; exact ⟨x, wider_old k1, k2⟩
    | _ => exact u2

theorem wider_relCV {h : List Ent} {n : Nat} {v : Value} {x : CV} (hr : RelCV G w h v x) : RelCV G w (h ++ List.replicate n .gone) v x := by
  cases x with
  | v b => exact wider_relB hr
  | agg cs => obtain ⟨vs, h1, h2, h3⟩ := hr; exact ⟨vs, h1, h2, fun i b hi => by obtain ⟨u, u1, u2, u3⟩ := h3 i b hi; exact ⟨u, u1, u2, wider_relB u3⟩⟩

theorem wider_relTV {h : List Ent} {n : Nat} {v : Value} {x : TV} (hr : RelTV G w h v x) : RelTV G w (h ++ List.replicate n .gone) v x := by
  cases x with
  | c b => exact wider_relCV hr
  | tup cs => obtain ⟨vs, h1, h2, h3⟩ := hr; exact ⟨vs, h1, h2, fun i b hi => by obtain ⟨u, u1, u3⟩ := h3 i b hi; exact ⟨u, u1, wider_relCV u3⟩⟩

theorem wider_relH {h : List Ent} {n : Nat} (hh : RelH G w h) : RelH G w (h ++ List.replicate n .gone) := by
  refine ⟨fun m e he => ?_, hh.thaw⟩
  by_cases hm : m < h.length
  · rw [List.getElem?_append_left hm] at he
    have := hh.ent m e he
    cases e with
    | gone => exact trivial
    | arr x => exact this
    | box cs =>
      obtain ⟨z1, vs, b1, b2, b3⟩ := this
      exact ⟨z1, vs, b1, b2, fun i b hi => by obtain ⟨u, u1, u2, u3⟩ := b3 i b hi; exact ⟨u, u1, u2, wider_relB u3⟩⟩
  · rw [List.getElem?_append_right (by omega), List.getElem?_replicate] at he
    split at he
    · simp only [Option.some.injEq] at he
      subst he; exact trivial
    · cases he

theorem wider_relS (hr : RelS G w σ a) (n : Nat) : RelS G w (wider σ n) a :=
  ⟨wider_relH hr.heap, hr.size, fun t x hx => by obtain ⟨v, v1, v2⟩ := hr.tmp t x hx; exact ⟨v, v1, wider_relTV v2⟩, hr.defers⟩

theorem wider_keep {pars n : Nat} {h h' : List Ent} {G' : Gh} {w' : World} (hk : Keep pars G w (h ++ List.replicate n .gone) G' w' h') : Keep pars G w h G' w' h' := by
  refine ⟨hk.blk, fun m x hm hx hf => ?_, fun m a0 hm ha h0 => hk.imm m a0 hm (wider_old ha) h0⟩
  obtain ⟨a0, p1, p2⟩ := hk.upd m x hm hx hf
  refine ⟨a0, ?_, p2⟩
  by_cases hl : m < h.length
  · rwa [List.getElem?_append_left hl] at p1
  · rw [List.getElem?_append_right (by omega), List.getElem?_replicate] at p1
    split at p1
    · simp at p1
    · cases p1

/-- A region whose order is the text's. -/
theorem region_wp_text {β : Type} {E : Env β} (hO : OOk E.P E.O) {id : Nat} {ops : Array Oper} {K : St → Option β} {r : β} {Q : Exit → Act → World → Prop} (hr : RelS G w σ a) (h : runRegion E false ops σ K = some r)
    (hq : ∀ σ' G' w' a', K σ' = some r → σ'.tmps.length = σ.tmps.length → RelS G' w' σ' a' → Ext G w G' w' → Keep E.pars G w σ.heap G' w' σ'.heap → Q .normal a' w') : (Code.region id ops false).wp E.P Q a w := by
  obtain ⟨σ', h1, h2⟩ := runOps_inv hO _ _ h
  refine wp_region_list ?_
  have := run_wp (Q := Q) h1 (wider_relS hr (needAll E ops.toList)) fun G' w' a' k1 k2 k3 => hq σ' G' w' a' h2 (show σ'.tmps.length = (wider σ (needAll E ops.toList)).tmps.length from runR_length h1) k1 k2 (wider_keep k3)
  rwa [named_fst] at this
end
end Go.Sx

/- Regions that draw their order: what an operation looks at. -/
set_option linter.unusedVariables false
set_option linter.unusedSimpArgs false
namespace Go.Sx

section
variable {P : Program} {nm : Nat} {ρ ρ' : Operand → TV} {q : Nat → Ent}

theorem fillD_congr {t : TypeId} : ∀ (parts : List (Nat × Operand)) (cs : List BV), (∀ p ∈ parts, ρ p.2 = ρ' p.2) → fillD P t ρ parts cs = fillD P t ρ' parts cs
  | [], cs, h => rfl
  | p :: l, cs, h => by
    simp only [fillD, h p List.mem_cons_self]
    have ih := fun cs => fillD_congr (t := t) l cs fun p hp => h p (List.mem_cons_of_mem _ hp)
    simp only [ih]

theorem map_congr_op {l : List Operand} (h : ∀ y ∈ l, ρ y = ρ' y) : l.map ρ = l.map ρ' := List.map_congr_left h

theorem parts_congr {parts : List (Nat × Operand)} (h : ∀ p ∈ parts, ρ p.2 = ρ' p.2) : (parts.map fun p => ρ p.2) = parts.map fun p => ρ' p.2 := List.map_congr_left h

theorem opt_congr {x : Option Operand} (h : ∀ y, x = some y → ρ y = ρ' y) : x.map ρ = x.map ρ' := by
  cases x with
  | none => rfl
  | some y => simp [h y rfl]

theorem step_congr {o : Oper} (h : ∀ y ∈ o.op.operands.toList, ρ y = ρ' y) : step P nm ρ q o = step P nm ρ' q o := by
  have h1 : ∀ {x : Operand}, o.op.operands.toList = [x] → ρ x = ρ' x := fun e => h _ (by rw [e]; simp)
  have h2 : ∀ {x y : Operand}, o.op.operands.toList = [x, y] → ρ x = ρ' x ∧ ρ y = ρ' y := fun e => ⟨h _ (by rw [e]; simp), h _ (by rw [e]; simp)⟩
  unfold step
  split
  all_goals rename_i ho
  all_goals try rfl
  all_goals try (have e := h1 (by rw [ho]; rfl); simp only [e]; done)
  all_goals try (obtain ⟨e, e'⟩ := h2 (by rw [ho]; rfl); simp only [e, e']; done)
  · have m := fun y hy => h y (by rw [ho]; exact hy)
    have e1 := m _ (show _ ∈ [_, _, _] from List.mem_cons_self)
    have e2 := m _ (show _ ∈ [_, _, _] from List.mem_cons_of_mem _ List.mem_cons_self)
    have e3 := m _ (show _ ∈ [_, _, _] from List.mem_cons_of_mem _ (List.mem_cons_of_mem _ List.mem_cons_self))
    simp only [e1, e2, e3]
  · rename_i t parts
    have hp : ∀ p ∈ parts.toList, ρ p.2 = ρ' p.2 := fun p hp => h _ (by rw [ho]; simp only [Op.operands]; exact List.mem_map_of_mem hp)
    simp only [buildD, fillD_congr _ _ hp]
  · rename_i t len parts
    have hp : ∀ p ∈ parts.toList, ρ p.2 = ρ' p.2 := fun p hp => h _ (by rw [ho]; simp only [Op.operands]; exact List.mem_map_of_mem hp)
    simp only [buildSliceD, parts_congr hp]
  · rename_i f first caps
    have hp : ∀ y ∈ caps.toList, ρ y = ρ' y := fun y hy => h _ (by rw [ho]; simp only [Op.operands, Array.toList_append]; exact List.mem_append_right _ hy)
    simp only [map_congr_op hp]
  · rename_i t x lo hi mx
    have hm : ∀ y, y ∈ [x] ++ lo.toList ++ hi.toList ++ mx.toList → ρ y = ρ' y := fun y hy => h _ (by rw [ho]; simpa [Op.operands] using hy)
    have e0 := hm x (by simp)
    have e1 := opt_congr (ρ := ρ) (ρ' := ρ') (x := lo) fun y hy => hm y (by simp [hy])
    have e2 := opt_congr (ρ := ρ) (ρ' := ρ') (x := hi) fun y hy => hm y (by simp [hy])
    have e3 := opt_congr (ρ := ρ) (ρ' := ρ') (x := mx) fun y hy => hm y (by simp [hy])
    simp only [e0, e1, e2, e3]
  all_goals
    rename_i args at_
    have hp : ∀ y ∈ args.toList, ρ y = ρ' y := fun y hy => h _ (by rw [ho]; simpa [Op.operands, Call.operands] using hy)
    first
      | simp only [map_congr_op hp]; done
      | (generalize args.toList = l at hp ⊢
         generalize at_[0]? = u
         generalize at_[1]? = u'
         rcases l with _ | ⟨x, _ | ⟨y, _ | ⟨z, l⟩⟩⟩ <;> rcases u with _ | u <;> rcases u' with _ | u' <;> first
           | rfl
           | (have e1 := hp x (by simp); simp only [e1]; done)
           | (have e1 := hp x (by simp); have e2 := hp y (by simp); simp only [e1, e2]; done))
end
end Go.Sx

/- Regions that draw their order: two operations that do not meet. -/
set_option linter.unusedVariables false
set_option linter.unusedSimpArgs false
namespace Go.Sx

theorem BV.kill_of {k : List Nat} {b : BV} (h : ∀ n ∈ b.names, n ∉ k) : b.kill k [] = b := by
  have hc : ∀ n : Nat, n ∉ k → k.contains n = false := fun n hn => by
    cases hq : k.contains n with
    | false => rfl
    | true => exact absurd (List.contains_iff_mem.1 hq) hn
  have : b.hit k [] = false := by
    cases b with
    | ref n => exact hc n (h n (by simp [BV.names]))
    | sub n lo len => exact hc n (h n (by simp [BV.names]))
    | ptrB n off => exact hc n (h n (by simp [BV.names]))
    | ptrE n i j => exact hc n (h n (by simp [BV.names]))
    | lit s ho r xs => cases s with
      | none => rfl
      | some n => simp [BV.hit]; exact h n (by simp [BV.names])
    | ptrL s r x j => cases s with
      | none => rfl
      | some n => simp [BV.hit]; exact h n (by simp [BV.names])
    | fn f caps =>
      simp only [BV.hit, List.any_eq_false]
      intro c hcm
      simp only [Bool.not_eq_true, List.any_eq_false]
      intro n hn
      rw [hc n (h n (List.mem_flatMap.2 ⟨c, hcm, hn⟩))]
    | _ => rfl
  simp only [BV.kill, this, cond_false]

theorem CV.kill_of {k : List Nat} {x : CV} (h : ∀ b ∈ x.cells, ∀ n ∈ b.names, n ∉ k) : x.kill k [] = x := by
  cases x with
  | v b => simp only [CV.kill, BV.kill_of (h b (by simp [CV.cells]))]
  | agg cs =>
    simp only [CV.kill]
    congr 1
    conv => rhs; rw [← List.map_id cs]
    exact List.map_congr_left fun b hb => BV.kill_of (h b hb)

theorem TV.kill_of {k : List Nat} {x : TV} (h : ∀ n ∈ x.names, n ∉ k) : x.kill k [] = x := by
  have h' : ∀ b ∈ x.cells, ∀ n ∈ b.names, n ∉ k := fun b hb n hn => h n (List.mem_flatMap.2 ⟨b, hb, hn⟩)
  cases x with
  | c x => simp only [TV.kill, CV.kill_of h']
  | tup xs =>
    simp only [TV.kill]
    congr 1
    conv => rhs; rw [← List.map_id xs]
    exact List.map_congr_left fun y hy => CV.kill_of fun b hb => h' b (List.mem_flatMap.2 ⟨y, hy, hb⟩)

theorem Ent.kill_of {k : List Nat} {e : Ent} (h : ∀ n ∈ e.roots, n ∉ k) : e.kill k [] = e := by
  cases e with
  | box cs =>
    simp only [Ent.kill]
    congr 1
    conv => rhs; rw [← List.map_id cs]
    exact List.map_congr_left fun b hb => BV.kill_of fun n hn => h n (List.mem_flatMap.2 ⟨b, hb, hn⟩)
  | _ => rfl

theorem BV.kill_comm (k l : List Nat) (b : BV) : (b.kill k []).kill l [] = (b.kill l []).kill k [] := by
  unfold BV.kill
  cases hk : b.hit k [] with
  | true =>
    cases hl : b.hit l [] with
    | true => rfl
    | false => simp only [cond_true, cond_false, hk]; rfl
  | false =>
    cases hl : b.hit l [] with
    | true => simp only [cond_true, cond_false, hl]; rfl
    | false => simp only [cond_false, hk, hl]
theorem CV.kill_comm (k l : List Nat) (x : CV) : (x.kill k []).kill l [] = (x.kill l []).kill k [] := by
  cases x with
  | v b => simp only [CV.kill, BV.kill_comm k l]
  | agg cs => simp only [CV.kill, List.map_map]; congr 1; exact List.map_congr_left fun b _ => BV.kill_comm k l b
theorem TV.kill_comm (k l : List Nat) (x : TV) : (x.kill k []).kill l [] = (x.kill l []).kill k [] := by
  cases x with
  | c x => simp only [TV.kill, CV.kill_comm k l]
  | tup xs => simp only [TV.kill, List.map_map]; congr 1; exact List.map_congr_left fun b _ => CV.kill_comm k l b
theorem Ent.kill_comm (k l : List Nat) (x : Ent) : (x.kill k []).kill l [] = (x.kill l []).kill k [] := by
  cases x with
  | box cs => simp only [Ent.kill, List.map_map]; congr 1; exact List.map_congr_left fun b _ => BV.kill_comm k l b
  | _ => rfl

theorem killHeap_nil (h : List Ent) : killHeap [] [] 0 h = h := by
  apply List.ext_getElem?
  intro n
  rw [killHeap_get]
  cases h[n]? with
  | none => rfl
  | some e => simp [Ent.kill_nil]

theorem map_kill_nil (l : List TV) : l.map (·.kill [] []) = l := by
  conv => rhs; rw [← List.map_id l]
  exact List.map_congr_left fun x _ => TV.kill_of (fun n _ => by simp)

def St.eff (σ : St) (k : List Nat) (d : Option Nat) (v : TV) (s : List (Nat × Ent)) : St :=
  { tmps := match d with | some t => (σ.tmps.map (·.kill k [])).set t v | none => σ.tmps.map (·.kill k []), heap := setAll (killHeap k [] 0 σ.heap) s }

theorem apply_eff {σ : St} {δ : Delta} {d : Option Nat} (h : δ.litk = []) : σ.apply δ d = σ.eff δ.kills d δ.val δ.sets := by
  unfold St.apply St.eff
  rw [h]
  cases hc : δ.calm with
  | true =>
    have hk : δ.kills = [] := by
      unfold Delta.calm at hc
      simp only [Bool.and_eq_true, List.isEmpty_iff] at hc
      exact hc.1
    rw [hk, killHeap_nil, map_kill_nil]
    cases d <;> rfl
  | false => cases d <;> rfl

theorem put_eff (σ : St) (d : Option Nat) (v : TV) : σ.put d v = σ.eff [] d v [] := by
  unfold St.eff
  rw [killHeap_nil, map_kill_nil]
  cases d <;> rfl

theorem eff_get {σ : St} {k : List Nat} {d : Option Nat} {v : TV} {s : List (Nat × Ent)} {t : Nat} (h : d ≠ some t) : (σ.eff k d v s).get t = (σ.get t).kill k [] := by
  have hm : (σ.tmps.map (·.kill k [])).getD t .undef = (σ.tmps.getD t .undef).kill k [] := by
    simp only [List.getD_eq_getElem?_getD, List.getElem?_map]
    cases σ.tmps[t]? <;> rfl
  unfold St.get St.eff
  cases d with
  | none => exact hm
  | some u =>
    simp only [List.getD_eq_getElem?_getD] at hm ⊢
    rw [List.getElem?_set_ne (fun e => h (by rw [e]))]
    exact hm

theorem eff_heap {σ : St} {k : List Nat} {d : Option Nat} {v : TV} {s : List (Nat × Ent)} {n : Nat} (hk : n ∉ k) (hs : n ∉ s.map (·.1)) : (σ.eff k d v s).heap[n]? = (σ.heap[n]?).map (Ent.kill k []) := by
  show (setAll (killHeap k [] 0 σ.heap) s)[n]? = _
  rw [setAll_other s _ n fun z hz e => hs (by rw [← e]; exact List.mem_map_of_mem hz), killHeap_get, Nat.zero_add]
  have : k.contains n = false := by
    cases hq : k.contains n with
    | false => rfl
    | true => exact absurd (List.contains_iff_mem.1 hq) hk
  rw [this]
  rfl

theorem argVals_like {P : Program} {σ σ' : St} : ∀ (l : List Operand) (ts : List TypeId), (∀ y ∈ l, opVal σ' y = opVal σ y) → argVals P σ' l ts = argVals P σ l ts
  | [], ts, h => rfl
  | y :: l, ts, h => by
    simp only [argVals]
    rw [argVals_like l _ fun z hz => h z (List.mem_cons_of_mem _ hz)]
    congr 1
    unfold argVal
    split
    · rfl
    · exact h y List.mem_cons_self

theorem getD_like {hp hp' : List Ent} {n : Nat} (h : hp[n]? = hp'[n]?) : hp'.getD n .gone = hp.getD n .gone := by
  rw [List.getD_eq_getElem?_getD, List.getD_eq_getElem?_getD, h]

theorem seen_like {hp hp' : List Ent} {vs : List TV} (h : ∀ n ∈ seen hp vs, hp[n]? = hp'[n]?) : seen hp' vs = seen hp vs := by
  unfold seen at *
  simp only at *
  congr 1
  have : ∀ (l : List Nat), (∀ n ∈ l, hp[n]? = hp'[n]?) → (l.flatMap fun n => match hp'.getD n .gone with
      | .box cs => cs.flatMap BV.names
      | _ => []) = l.flatMap fun n => match hp.getD n .gone with
      | .box cs => cs.flatMap BV.names
      | _ => [] := by
    intro l
    induction l with
    | nil => intro _; rfl
    | cons a l ih =>
      intro hl
      simp only [List.flatMap_cons]
      rw [ih fun n hn => hl n (List.mem_cons_of_mem _ hn), getD_like (hl a List.mem_cons_self)]
  exact this _ fun n hn => h n (List.mem_append_left _ hn)

theorem look_like {hp hp' : List Ent} {l : List Nat} (h : ∀ n ∈ l, hp[n]? = hp'[n]?) : look hp' l = look hp l := by
  funext n
  unfold look
  cases hc : l.contains n with
  | false => rfl
  | true =>
    simp only [cond_true]
    exact getD_like (h n (List.contains_iff_mem.1 hc))

section
variable {β : Type} {E : Env β} {σ σ' : St} {nm : Nat} {o : Oper} {δ : Delta}

theorem callR_like {lim : Nat} {f : FuncId} {vs : List TV} (hc : CallR E σ nm lim f vs δ) (h : ∀ n ∈ seen σ.heap vs, σ.heap[n]? = σ'.heap[n]?) : CallR E σ' nm lim f vs δ := by
  obtain ⟨sig, vs', a, out, h1, h2, h3, h4, h5⟩ := hc
  refine ⟨sig, vs', a, out, h1, h2, ?_, h4, ?_⟩ <;> rw [seen_like h, look_like h] <;> assumption

theorem mem_args {x : Operand} {args : Array Operand} {at_ : Array TypeId} {y : Operand} (h : y ∈ args.toList) : y ∈ (Op.call { callee := .value x, args := args, argTypes := at_ }).operands.toList := by
  simp only [Op.operands, Call.operands, Array.toList_append]
  exact List.mem_append_right _ h

theorem mem_callee {x : Operand} {args : Array Operand} {at_ : Array TypeId} : x ∈ (Op.call { callee := .value x, args := args, argTypes := at_ }).operands.toList := by
  simp only [Op.operands, Call.operands, Array.toList_append]
  exact List.mem_append_left _ (by simp)

theorem sees_like (ho : ∀ y ∈ o.op.operands.toList, opVal σ' y = opVal σ y) (hs : ∀ n ∈ seesOf E σ nm o, σ.heap[n]? = σ'.heap[n]?) : seesOf E σ' nm o = seesOf E σ nm o := by
  unfold seesOf at *
  congr 1
  split at hs
  · rename_i f args at_ hop
    rw [hop] at ho
    have ha := argVals_like (P := E.P) args.toList at_.toList fun y hy => ho y (mem_args hy)
    have hx := ho f mem_callee
    split at hs
    · rename_i g
      simp only [ha]
      exact seen_like fun n hn => hs n (List.mem_append_left _ hn)
    · rename_i hnf
      split at hs
      · rename_i g caps hg
        rw [hg] at hx
        simp only [hx, ha]
        exact seen_like fun n hn => hs n (List.mem_append_left _ hn)
      · rename_i hg
        split
        · rename_i g caps hg'
          exact absurd (hx.symm.trans hg') (hg _ _)
        · rfl
  · have : o.op.operands.toList.map (opVal σ') = o.op.operands.toList.map (opVal σ) := List.map_congr_left ho
    rw [this]
    exact seen_like fun n hn => hs n (List.mem_append_left _ hn)

theorem oneR_like (h : OneR E σ nm o δ) (ho : ∀ y ∈ o.op.operands.toList, opVal σ' y = opVal σ y) (hs : ∀ n ∈ seesOf E σ nm o, σ.heap[n]? = σ'.heap[n]?) : OneR E σ' nm o δ := by
  have hs' : ∀ n, n ∈ (match o.op with
    | .call { callee := .value f, args, argTypes } => match f with
      | .func _ => seen σ.heap (argVals E.P σ args.toList argTypes.toList)
      | x => match opVal σ x with
        | .c (.v (.fn _ caps)) => seen σ.heap (argVals E.P σ args.toList argTypes.toList ++ caps.map CapV.tv)
        | _ => []
    | op => seen σ.heap (op.operands.toList.map (opVal σ))) → σ.heap[n]? = σ'.heap[n]? := fun n hn => hs n (List.mem_append_left _ hn)
  cases h with
  | call f args at_ hop h =>
    rw [hop] at ho hs'
    have ha := argVals_like (P := E.P) args.toList at_.toList fun y hy => ho y (mem_args hy)
    exact .call f args at_ hop (by rw [ha]; exact callR_like h hs')
  | clos x f caps args at_ hop hnf hx h =>
    rw [hop] at ho hs'
    have ha := argVals_like (P := E.P) args.toList at_.toList fun y hy => ho y (mem_args hy)
    have hs2 : ∀ n, n ∈ seen σ.heap (argVals E.P σ args.toList at_.toList ++ caps.map CapV.tv) → σ.heap[n]? = σ'.heap[n]? := ?_
    · exact .clos x f caps args at_ hop hnf ((ho x mem_callee).trans hx) (by rw [ha]; exact callR_like h hs2)
    intro n hn
    refine hs' n ?_
    cases x with
    | func g => exact absurd rfl (hnf g)
    | tmp t => simp only [hx]; exact hn
    | global g => simp only [hx]; exact hn
    | const c => simp only [hx]; exact hn
  | step hl h =>
    have hm : o.op.operands.toList.map (opVal σ') = o.op.operands.toList.map (opVal σ) := List.map_congr_left ho
    have hne : ∀ c, o.op = .call c → ∀ f, c.callee ≠ .value f := by
      intro c hc f hf
      unfold Sx.step at h
      rw [hc] at h
      obtain ⟨callee, args, at_⟩ := c
      simp only at hf
      subst hf
      cases h
    have hs2 : ∀ n, n ∈ seen σ.heap (o.op.operands.toList.map (opVal σ)) → σ.heap[n]? = σ'.heap[n]? := by
      intro n hn
      refine hs' n ?_
      split
      · rename_i f args at_ hop
        exact absurd rfl (hne _ hop f)
      · exact hn
    refine .step hl ?_
    rw [hm, seen_like hs2, look_like hs2, step_congr (ρ := opVal σ') (ρ' := opVal σ) ho]
    exact h

theorem free_like (hf : Free E σ nm o) (hs : ∀ n ∈ seesOf E σ nm o, σ.heap[n]? = σ'.heap[n]?) : Free E σ' nm o := by
  refine ⟨fun m h1 h2 => ?_, hf.2⟩
  rw [← hs m (List.mem_append_right _ (by rw [List.mem_range'_1]; exact ⟨h1, h2⟩))]
  exact hf.1 m h1 h2
end

theorem setAll_like {n : Nat} : ∀ (s : List (Nat × Ent)) (h h' : List Ent), h.length = h'.length → h[n]? = h'[n]? → (setAll h s)[n]? = (setAll h' s)[n]?
  | [], h, h', _, e => e
  | x :: s, h, h', hl, e => by
    have : (setAll (h.set x.1 x.2) s)[n]? = (setAll (h'.set x.1 x.2) s)[n]? := setAll_like s _ _ (by simp [hl]) (by
      rw [List.getElem?_set, List.getElem?_set, hl, e])
    exact this

/-- What is set stands there, whatever stood there. -/
theorem setAll_in {n : Nat} : ∀ (s : List (Nat × Ent)) (h : List Ent), n ∈ s.map (·.1) → (∀ h' : List Ent, h'.length = h.length → (setAll h' s)[n]? = (setAll h s)[n]?) ∧ ∀ e, (setAll h s)[n]? = some e → (n, e) ∈ s
  | [], h, hn => by cases hn
  | x :: s, h, hn => by
    have hu : ∀ h : List Ent, setAll h (x :: s) = setAll (h.set x.1 x.2) s := fun h => rfl
    by_cases hs : n ∈ s.map (·.1)
    · obtain ⟨h1, h2⟩ := setAll_in s (h.set x.1 x.2) hs
      refine ⟨fun h' hl => ?_, fun e he => List.mem_cons_of_mem _ (h2 e (by rw [hu] at he; exact he))⟩
      rw [hu, hu]
      exact h1 _ (by simp [hl])
    · have hne : ∀ z ∈ s, z.1 ≠ n := fun z hz e => hs (by rw [← e]; exact List.mem_map_of_mem hz)
      have hx : x.1 = n := by
        simp only [List.map_cons, List.mem_cons] at hn
        rcases hn with h | h
        · exact h.symm
        · exact absurd h hs
      subst hx
      refine ⟨fun h' hl => ?_, fun e he => ?_⟩
      · rw [hu, hu, setAll_other s _ _ hne, setAll_other s _ _ hne, List.getElem?_set, List.getElem?_set, hl]
        simp
      · rw [hu, setAll_other s _ _ hne, List.getElem?_set] at he
        simp only [if_true] at he
        split at he
        · simp only [Option.some.injEq] at he
          rw [← he]; exact List.mem_cons_self
        · cases he

theorem killHeap_length (k : List Nat) : ∀ (h : List Ent) (i : Nat), (killHeap k [] i h).length = h.length
  | [], i => rfl
  | e :: h, i => by simp only [killHeap, List.length_cons, killHeap_length k h]

theorem heap_comm {k l : List Nat} {s t : List (Nat × Ent)} {h : List Ent} (hd : ∀ n ∈ s.map (·.1), n ∉ t.map (·.1)) (hkt : ∀ n ∈ k, n ∉ t.map (·.1)) (hls : ∀ n ∈ l, n ∉ s.map (·.1)) (hs : ∀ x ∈ s, x.2.kill l [] = x.2) (ht : ∀ x ∈ t, x.2.kill k [] = x.2) :
    setAll (killHeap l [] 0 (setAll (killHeap k [] 0 h) s)) t = setAll (killHeap k [] 0 (setAll (killHeap l [] 0 h) t)) s := by
  have hcf : ∀ {k : List Nat} {n : Nat}, n ∉ k → k.contains n = false := fun {k n} hn => by
    cases hq : k.contains n with
    | false => rfl
    | true => exact absurd (List.contains_iff_mem.1 hq) hn
  have one : ∀ {k l : List Nat} {s t : List (Nat × Ent)}, (∀ n ∈ s.map (·.1), n ∉ t.map (·.1)) → (∀ n ∈ k, n ∉ t.map (·.1)) → (∀ x ∈ t, x.2.kill k [] = x.2) → ∀ n, n ∈ t.map (·.1) →
      (setAll (killHeap l [] 0 (setAll (killHeap k [] 0 h) s)) t)[n]? = (setAll (killHeap k [] 0 (setAll (killHeap l [] 0 h) t)) s)[n]? := by
    intro k l s t hd hkt ht n hn
    have hns : n ∉ s.map (·.1) := fun hs => hd n hs hn
    have hnk : n ∉ k := fun hk => hkt n hk hn
    obtain ⟨h1, h2⟩ := setAll_in t (killHeap l [] 0 h) hn
    rw [h1 _ (by rw [killHeap_length, setAll_length, killHeap_length, killHeap_length]), setAll_other s _ n fun z hz e => hns (by rw [← e]; exact List.mem_map_of_mem hz), killHeap_get, Nat.zero_add, hcf hnk]
    cases hq : (setAll (killHeap l [] 0 h) t)[n]? with
    | none => rfl
    | some e =>
      have := ht (n, e) (h2 e hq)
      simp only [Option.map_some, cond_false]
      rw [this]
  apply List.ext_getElem?
  intro n
  by_cases hnt : n ∈ t.map (·.1)
  · exact one hd hkt ht n hnt
  · by_cases hns : n ∈ s.map (·.1)
    · exact (one (k := l) (l := k) (s := t) (t := s) (fun n h1 h2 => hd n h2 h1) hls hs n hns).symm
    · rw [setAll_other t _ n fun z hz e => hnt (by rw [← e]; exact List.mem_map_of_mem hz), setAll_other s _ n fun z hz e => hns (by rw [← e]; exact List.mem_map_of_mem hz), killHeap_get, killHeap_get,
        setAll_other s _ n fun z hz e => hns (by rw [← e]; exact List.mem_map_of_mem hz), setAll_other t _ n fun z hz e => hnt (by rw [← e]; exact List.mem_map_of_mem hz), killHeap_get, killHeap_get, Nat.zero_add]
      cases h[n]? with
      | none => rfl
      | some e =>
        simp only [Option.map_some]
        cases k.contains n <;> cases l.contains n <;> simp only [cond_true, cond_false, Ent.kill_comm k l e] <;> rfl

theorem eff_comm {σ : St} {k l : List Nat} {d e : Option Nat} {v u : TV} {s t : List (Nat × Ent)} (hd : ∀ x, d = some x → e ≠ some x) (hn : ∀ n ∈ s.map (·.1), n ∉ t.map (·.1)) (hkt : ∀ n ∈ k, n ∉ t.map (·.1)) (hls : ∀ n ∈ l, n ∉ s.map (·.1))
    (hs : ∀ x ∈ s, x.2.kill l [] = x.2) (ht : ∀ x ∈ t, x.2.kill k [] = x.2) (hv : v.kill l [] = v) (hu : u.kill k [] = u) : (σ.eff k d v s).eff l e u t = (σ.eff l e u t).eff k d v s := by
  have hm : ∀ tm : List TV, (tm.map (·.kill k [])).map (·.kill l []) = (tm.map (·.kill l [])).map (·.kill k []) := fun tm => by
    rw [List.map_map, List.map_map]
    exact List.map_congr_left fun x _ => TV.kill_comm k l x
  unfold St.eff
  simp only [heap_comm hn hkt hls hs ht]
  congr 1
  cases d with
  | none =>
    cases e with
    | none => exact hm _
    | some y => simp only [List.map_set, hu, hm]
  | some x =>
    cases e with
    | none => simp only [List.map_set, hv, hm]
    | some y =>
      have : x ≠ y := fun h => hd x rfl (by rw [h])
      simp only [List.map_set, hu, hv, hm]
      rw [List.set_comm _ _ this]

/-- The names of an operand are among those that an operation sees. -/
theorem seen_names {hp : List Ent} {vs : List TV} {v : TV} (hv : v ∈ vs) {n : Nat} (hn : n ∈ v.names) : n ∈ seen hp vs := by
  unfold seen
  exact List.mem_append_left _ (List.mem_flatMap.2 ⟨v, hv, hn⟩)

theorem argVals_mem {P : Program} {σ : St} : ∀ (l : List Operand) (ts : List TypeId) (y : Operand), y ∈ l → (∀ n, n ∈ (opVal σ y).names → ∃ v ∈ argVals P σ l ts, n ∈ v.names)
  | x :: l, ts, y, hy, n, hn => by
    simp only [argVals]
    rcases List.mem_cons.1 hy with rfl | hy
    · refine ⟨_, List.mem_cons_self, ?_⟩
      unfold argVal
      split
      · simp [opVal, TV.names, TV.cells, CV.cells, BV.names] at hn
      · exact hn
    · obtain ⟨v, h1, h2⟩ := argVals_mem l ts.tail y hy n hn
      exact ⟨v, List.mem_cons_of_mem _ h1, h2⟩

theorem sees_names {β : Type} {E : Env β} {σ : St} {nm : Nat} {o : Oper} {δ : Delta} (h : OneR E σ nm o δ) {y : Operand} (hy : y ∈ o.op.operands.toList) {n : Nat} (hn : n ∈ (opVal σ y).names) : n ∈ seesOf E σ nm o := by
  unfold seesOf
  refine List.mem_append_left _ ?_
  cases h with
  | call f args at_ hop h =>
    rw [hop] at hy ⊢
    simp only [Op.operands, Call.operands, Array.toList_append, List.mem_append] at hy
    rcases hy with hy | hy
    · simp only [List.mem_singleton] at hy
      subst hy
      simp [opVal, TV.names, TV.cells, CV.cells, BV.names] at hn
    · obtain ⟨v, h1, h2⟩ := argVals_mem (P := E.P) args.toList at_.toList y hy n hn
      exact seen_names h1 h2
  | clos x f caps args at_ hop hnf hx h =>
    rw [hop] at hy ⊢
    have hgoal : n ∈ seen σ.heap (argVals E.P σ args.toList at_.toList ++ caps.map CapV.tv) := by
      simp only [Op.operands, Call.operands, Array.toList_append, List.mem_append] at hy
      rcases hy with hy | hy
      · simp only [List.mem_singleton] at hy
        subst hy
        rw [hx] at hn
        simp only [TV.names, TV.cells, CV.cells, List.flatMap_cons, List.flatMap_nil, List.append_nil, BV.names] at hn
        obtain ⟨c, hc, hcn⟩ := List.mem_flatMap.1 hn
        refine seen_names (v := c.tv) (List.mem_append_right _ (List.mem_map_of_mem hc)) ?_
        cases c <;> simp_all [CapV.names, CapV.tv, TV.names, TV.cells, CV.cells, BV.names]
      · obtain ⟨v, h1, h2⟩ := argVals_mem (P := E.P) args.toList at_.toList y hy n hn
        exact seen_names (List.mem_append_left _ h1) h2
    cases x with
    | func g => exact absurd rfl (hnf g)
    | tmp t => simp only [hx]; exact hgoal
    | global g => simp only [hx]; exact hgoal
    | const c => simp only [hx]; exact hgoal
  | step hl h =>
    have hgoal : n ∈ seen σ.heap (o.op.operands.toList.map (opVal σ)) := seen_names (List.mem_map_of_mem hy) hn
    split
    · rename_i f args at_ hop
      exfalso
      unfold Sx.step at h
      rw [hop] at h
      cases h
    · exact hgoal

end Go.Sx

/- Regions that draw their order: what was done in the text's order is done in any. -/
set_option linter.unusedVariables false
set_option linter.unusedSimpArgs false
namespace Go.Sx

/-- Whether an operation is wanted. -/
def Wanted (all : Array Oper) (σ : St) (o : Oper) (b : Bool) : Prop :=
  (b = true ∧ o.guard = none) ∨ ∃ j want t, o.guard = some (j, want) ∧ (all[j]?).bind (·.dst) = some t ∧ (σ.get t = .c (.v (.bool (b == want))) ∨ (b = false ∧ σ.get t = .tup []))

inductive Turn {β : Type} (E : Env β) (all : Array Oper) (r : Rec) (σ σ1 : St) : Prop where
  | go (nm : Nat) (δ : Delta) (hi : all[r.i]? = some r.o) (hw : Wanted all σ r.o true) (hf : Free E σ nm r.o) (h : OneR E σ nm r.o δ) (hl : δ.litk = []) (hr : r = recOf E σ nm r.i r.o δ) (he : σ1 = σ.apply δ r.o.dst)
  | skip (hi : all[r.i]? = some r.o) (hw : Wanted all σ r.o false) (hk : r.kills = []) (hs : r.sets = []) (hc : r.clean = true) (he : σ1 = σ.put r.o.dst skipTV)

def Turns {β : Type} (E : Env β) (all : Array Oper) : List Rec → St → St → Prop
  | [], σ, σ' => σ = σ'
  | r :: l, σ, σ' => ∃ σ1, Turn E all r σ σ1 ∧ Turns E all l σ1 σ'

section
variable {β : Type} {E : Env β} {all : Array Oper}

/-- Where the guard of an operation stands. -/
def guardAt (all : Array Oper) (o : Oper) (t : Nat) : Prop := ∃ j want, o.guard = some (j, want) ∧ (all[j]?).bind (·.dst) = some t

theorem guardAt.looks {o : Oper} {t : Nat} (h : guardAt all o t) : t ∈ o.looksAt all := by
  obtain ⟨j, want, h1, h2⟩ := h
  exact List.mem_append_right _ (by rw [h1]; simp only [h2, Option.toList, List.mem_singleton])

theorem Wanted.at {σ σ' : St} {o : Oper} {b : Bool} (hw : Wanted all σ o b) (h : ∀ t, guardAt all o t → σ'.get t = σ.get t) : Wanted all σ' o b := by
  rcases hw with hw | ⟨j, want, t, h1, h2, h3⟩
  · exact .inl hw
  · exact .inr ⟨j, want, t, h1, h2, by rw [h t ⟨j, want, h1, h2⟩]; exact h3⟩

theorem Wanted.plain {σ : St} {o : Oper} {b : Bool} (hw : Wanted all σ o b) {t : Nat} (h : guardAt all o t) : (σ.get t).names = [] ∧ (σ.get t).cells.all BV.known = true := by
  obtain ⟨j, want, h1, h2⟩ := h
  rcases hw with ⟨_, hg⟩ | ⟨j', want', t', h1', h2', h3⟩
  · rw [h1] at hg; cases hg
  · rw [h1] at h1'
    simp only [Option.some.injEq, Prod.mk.injEq] at h1'
    obtain ⟨rfl, rfl⟩ := h1'
    rw [h2] at h2'
    simp only [Option.some.injEq] at h2'
    subst h2'
    rcases h3 with h3 | ⟨_, h3⟩ <;> rw [h3] <;> exact ⟨rfl, rfl⟩

theorem mem_tmps {o : Oper} {t : Nat} (h : t ∈ o.looksAt all) : .tmp t ∈ o.op.operands.toList ∨ guardAt all o t := by
  unfold Oper.looksAt at h
  rcases List.mem_append.1 h with h | h
  · obtain ⟨y, hy, he⟩ := List.mem_filterMap.1 h
    cases y with
    | tmp t' => simp only [Option.some.injEq] at he; subst he; exact .inl hy
    | _ => cases he
  · cases hg : o.guard with
    | none => rw [hg] at h; cases h
    | some g =>
      obtain ⟨j, want⟩ := g
      rw [hg] at h
      simp only [Option.mem_toList] at h
      exact .inr ⟨j, want, hg, h⟩

theorem opVal_at {σ σ' : St} {o : Oper} (h : ∀ t, .tmp t ∈ o.op.operands.toList → σ'.get t = σ.get t) : ∀ y ∈ o.op.operands.toList, opVal σ' y = opVal σ y := by
  intro y hy
  cases y with
  | tmp t => exact h t hy
  | global g => rfl
  | func f => rfl
  | const c => cases c <;> rfl

theorem recOf_like {σ σ' : St} {nm i : Nat} {o : Oper} {δ : Delta} (ho : ∀ y ∈ o.op.operands.toList, opVal σ' y = opVal σ y) (hs : ∀ n ∈ seesOf E σ nm o, σ.heap[n]? = σ'.heap[n]?) : recOf E σ' nm i o δ = recOf E σ nm i o δ := by
  unfold recOf
  simp only [sees_like ho hs]
  have e1 : ((seesOf E σ nm o).flatMap fun n => (σ'.heap.getD n .gone).roots) = (seesOf E σ nm o).flatMap fun n => (σ.heap.getD n .gone).roots := by
    have : ∀ l : List Nat, (∀ n ∈ l, σ.heap[n]? = σ'.heap[n]?) → (l.flatMap fun n => (σ'.heap.getD n .gone).roots) = l.flatMap fun n => (σ.heap.getD n .gone).roots := by
      intro l
      induction l with
      | nil => intro _; rfl
      | cons n l ih => intro hl; simp only [List.flatMap_cons]; rw [ih fun m hm => hl m (List.mem_cons_of_mem _ hm), getD_like (hl n List.mem_cons_self)]
    exact this _ hs
  have e2 : ((seesOf E σ nm o).all fun n => (σ'.heap.getD n .gone).known) = (seesOf E σ nm o).all fun n => (σ.heap.getD n .gone).known := by
    rw [Bool.eq_iff_iff, List.all_eq_true, List.all_eq_true]
    exact ⟨fun h n hn => by rw [← getD_like (hs n hn)]; exact h n hn, fun h n hn => by rw [getD_like (hs n hn)]; exact h n hn⟩
  have e3 : (o.op.operands.toList.all fun y => (opVal σ' y).cells.all BV.known) = o.op.operands.toList.all fun y => (opVal σ y).cells.all BV.known := by
    rw [Bool.eq_iff_iff, List.all_eq_true, List.all_eq_true]
    exact ⟨fun h y hy => by rw [← ho y hy]; exact h y hy, fun h y hy => by rw [ho y hy]; exact h y hy⟩
  rw [e1, e2, e3]

/-- One turn, of what it looks at alone. 'T': the temporaries that it reads; 'S': the rows and boxes. -/
theorem Turn.like {r : Rec} {σ σ1 : St} (h : Turn E all r σ σ1) : ∃ (v : TV) (s : List (Nat × Ent)) (T : Nat → Prop), s.map (·.1) = r.sets ∧ σ1 = σ.eff r.kills r.o.dst v s ∧ ((r.kills = [] ∧ r.sets = [] ∧ s = [] ∧ v = skipTV) ∨ ((∀ n ∈ v.names, n ∈ r.outs) ∧ ∀ x ∈ s, ∀ n ∈ x.2.roots, n ∈ r.outs)) ∧
    (∀ t, T t → t ∈ r.o.looksAt all ∧ (∀ n ∈ (σ.get t).names, n ∈ r.sees) ∧ (r.clean = true → (σ.get t).cells.all BV.known = true)) ∧
    ∃ S : Nat → Prop, (∀ n, S n → n ∈ r.sees ∧ ∀ e, σ.heap[n]? = some e → (∀ m ∈ e.roots, m ∈ r.deep) ∧ (r.clean = true → e.known = true)) ∧
    ∀ σ' : St, (∀ t, T t → σ'.get t = σ.get t) → (∀ n, S n → σ.heap[n]? = σ'.heap[n]?) → Turn E all r σ' (σ'.eff r.kills r.o.dst v s) := by
  cases h with
  | go nm δ hi hw hf h hl hr he =>
    have q1 : r.kills = δ.kills := congrArg Rec.kills hr
    have q2 : r.sets = δ.sets.map (·.1) := congrArg Rec.sets hr
    have q3 : r.outs = δ.val.names ++ δ.sets.flatMap fun x => x.2.roots := congrArg Rec.outs hr
    have q4 : r.sees = seesOf E σ nm r.o := congrArg Rec.sees hr
    have q5 : r.deep = (seesOf E σ nm r.o).flatMap fun n => (σ.heap.getD n .gone).roots := congrArg Rec.deep hr
    have q6 : r.clean = ((r.o.op.operands.toList.all fun y => (opVal σ y).cells.all BV.known) && (seesOf E σ nm r.o).all fun n => (σ.heap.getD n .gone).known) := congrArg Rec.clean hr
    refine ⟨δ.val, δ.sets, fun t => t ∈ r.o.looksAt all, q2.symm, by rw [he, apply_eff hl, q1], .inr ⟨fun n hn => by rw [q3]; exact List.mem_append_left _ hn, fun x hx n hn => by rw [q3]; exact List.mem_append_right _ (List.mem_flatMap.2 ⟨x, hx, hn⟩)⟩, fun t ht => ⟨ht, ?_⟩,
      fun n => n ∈ r.sees, fun n hn => ⟨hn, fun e hne => ⟨fun m hm => ?_, fun hcl => ?_⟩⟩, fun σ' h1 h2 => ?_⟩
    · rcases mem_tmps ht with ht | ht
      · refine ⟨fun n hn => by rw [q4]; exact sees_names h ht hn, fun hc => ?_⟩
        rw [q6] at hc
        simp only [Bool.and_eq_true] at hc
        exact List.all_eq_true.1 hc.1 _ ht
      · obtain ⟨p1, p2⟩ := hw.plain ht
        exact ⟨fun n hn => (by rw [p1] at hn; cases hn), fun _ => p2⟩
    · rw [q5]
      rw [q4] at hn
      exact List.mem_flatMap.2 ⟨n, hn, by rw [List.getD_eq_getElem?_getD, hne]; exact hm⟩
    · rw [q6] at hcl
      simp only [Bool.and_eq_true] at hcl
      rw [q4] at hn
      have := List.all_eq_true.1 hcl.2 n hn
      rw [List.getD_eq_getElem?_getD, hne] at this
      exact this
    · rw [q4] at h2
      have ho := opVal_at (o := r.o) fun t ht => h1 t (List.mem_append_left _ (List.mem_filterMap.2 ⟨_, ht, rfl⟩))
      refine .go nm δ hi (hw.at fun t ht => h1 t ht.looks) (free_like hf h2) (oneR_like h ho h2) hl ?_ (by rw [apply_eff hl, q1])
      rw [recOf_like ho h2]; exact hr
  | skip hi hw hk hs hc he =>
    refine ⟨skipTV, [], guardAt all r.o, hs.symm, by rw [he, put_eff, hk], .inl ⟨hk, hs, rfl, rfl⟩, fun t ht => ⟨ht.looks, ?_⟩, fun _ => False, fun n hn => hn.elim, fun σ' h1 h2 => .skip hi (hw.at h1) hk hs hc (by rw [put_eff, hk])⟩
    obtain ⟨p1, p2⟩ := hw.plain ht
    exact ⟨fun n hn => (by rw [p1] at hn; cases hn), fun _ => p2⟩

theorem noneOf_spec {l m : List Nat} (h : noneOf l m = true) : ∀ n ∈ l, n ∉ m := by
  intro n hn hm
  have := List.all_eq_true.1 h n hn
  simp at this
  exact this hm

theorem BV.kill_known {k : List Nat} {b : BV} (h : (b.kill k []).known = true) : b.kill k [] = b := by
  unfold BV.kill at *
  cases hk : b.hit k [] with
  | true => rw [hk] at h; cases h
  | false => rfl
theorem CV.kill_known {k : List Nat} {x : CV} (h : (x.kill k []).cells.all BV.known = true) : x.kill k [] = x := by
  cases x with
  | v b =>
    simp only [CV.kill, CV.cells, List.all_cons, List.all_nil, Bool.and_true] at h
    simp only [CV.kill, BV.kill_known h]
  | agg cs =>
    simp only [CV.kill, CV.cells, List.all_map, List.all_eq_true] at h
    simp only [CV.kill]
    congr 1
    conv => rhs; rw [← List.map_id cs]
    exact List.map_congr_left fun b hb => BV.kill_known (h b hb)
theorem TV.kill_known {k : List Nat} {x : TV} (h : (x.kill k []).cells.all BV.known = true) : x.kill k [] = x := by
  cases x with
  | c x => simp only [TV.kill, TV.cells] at h ⊢; rw [CV.kill_known h]
  | tup xs =>
    simp only [TV.kill, TV.cells, List.flatMap_map, List.all_flatMap, List.all_eq_true] at h
    simp only [TV.kill]
    congr 1
    conv => rhs; rw [← List.map_id xs]
    exact List.map_congr_left fun y hy => CV.kill_known (List.all_eq_true.2 (h y hy))
theorem Ent.kill_known {k : List Nat} {e : Ent} (h : (e.kill k []).known = true) : e.kill k [] = e := by
  cases e with
  | box cs =>
    simp only [Ent.kill, Ent.known, List.all_map, List.all_eq_true] at h
    simp only [Ent.kill]
    congr 1
    conv => rhs; rw [← List.map_id cs]
    exact List.map_congr_left fun b hb => BV.kill_known (h b hb)
  | _ => rfl

theorem Turn.swap {x y : Rec} {σ σ1 σ2 : St} (hx : Turn E all x σ σ1) (hy : Turn E all y σ1 σ2) (ha : x.apart all y = true) : ∃ σ1', Turn E all y σ σ1' ∧ Turn E all x σ1' σ2 := by
  unfold Rec.apart at ha
  simp only [Bool.and_eq_true, Bool.or_eq_true, List.isEmpty_iff] at ha
  obtain ⟨a1, a4, a5, a6, kx, ky⟩ := ha
  obtain ⟨p1, p2, p3⟩ := Oper.apart_spec a1
  have a4 := noneOf_spec a4
  have a5 := noneOf_spec a5
  have a6 := noneOf_spec a6
  have kx' : x.kills = [] ∨ (y.clean = true ∧ (∀ n ∈ x.kills, n ∉ y.sees) ∧ (∀ n ∈ x.kills, n ∉ y.sets) ∧ ∀ n ∈ x.kills, n ∉ y.outs) := kx.imp id fun ⟨h1, h2, h3, h4⟩ => ⟨h1, noneOf_spec h2, noneOf_spec h3, noneOf_spec h4⟩
  have ky' : y.kills = [] ∨ ((∀ n ∈ y.kills, n ∉ x.sees) ∧ (∀ n ∈ y.kills, n ∉ x.deep) ∧ (∀ n ∈ y.kills, n ∉ x.sets) ∧ ∀ n ∈ y.kills, n ∉ x.outs) := ky.imp id fun ⟨h1, h2, h3, h4⟩ => ⟨noneOf_spec h1, noneOf_spec h2, noneOf_spec h3, noneOf_spec h4⟩
  obtain ⟨vx, sx, Tx, ex, e1, ox, tx, Sx, dx, lx⟩ := hx.like
  obtain ⟨vy, sy, Ty, ey, e2, oy, ty, Sy, dy, ly⟩ := hy.like
  subst e1
  have hTy : ∀ t, Ty t → σ.get t = (σ.eff x.kills x.o.dst vx sx).get t := by
    intro t ht
    obtain ⟨t1, t2, t3⟩ := ty t ht
    have hg : (σ.eff x.kills x.o.dst vx sx).get t = (σ.get t).kill x.kills [] := eff_get fun e => p1 t e t1
    rw [hg]
    rcases kx' with hk | ⟨hc, _⟩
    · rw [hk]; exact (TV.kill_of fun n _ => by simp).symm
    · have := t3 hc
      rw [hg] at this
      exact (TV.kill_known this).symm
  have hSy : ∀ n, Sy n → (σ.eff x.kills x.o.dst vx sx).heap[n]? = σ.heap[n]? := by
    intro n hn
    obtain ⟨n1, n2⟩ := dy n hn
    have hns : n ∉ sx.map (·.1) := by rw [ex]; exact fun h => a4 n h n1
    have hnk : n ∉ x.kills := by
      rcases kx' with hk | ⟨_, hk, _⟩
      · rw [hk]; simp
      · exact fun h => hk n h n1
    have hg := eff_heap (σ := σ) (d := x.o.dst) (v := vx) hnk hns
    rw [hg]
    cases hq : σ.heap[n]? with
    | none => rfl
    | some e =>
      simp only [Option.map_some, Option.some.injEq]
      rcases kx' with hk | ⟨hc, _⟩
      · rw [hk]; exact Ent.kill_nil e
      · rw [hq] at hg
        exact Ent.kill_known ((n2 _ hg).2 hc)
  have hTx : ∀ t, Tx t → (σ.eff y.kills y.o.dst vy sy).get t = σ.get t := by
    intro t ht
    obtain ⟨t1, t2, _⟩ := tx t ht
    rw [eff_get fun e => p3 t e t1]
    rcases ky' with hk | ⟨hk, _⟩
    · rw [hk]; exact TV.kill_of fun n _ => by simp
    · exact TV.kill_of fun n hn h => hk n h (t2 n hn)
  have hSx : ∀ n, Sx n → σ.heap[n]? = (σ.eff y.kills y.o.dst vy sy).heap[n]? := by
    intro n hn
    obtain ⟨n1, n2⟩ := dx n hn
    have hns : n ∉ sy.map (·.1) := by rw [ey]; exact fun h => a5 n h n1
    have hnk : n ∉ y.kills := by
      rcases ky' with hk | ⟨hk, _⟩
      · rw [hk]; simp
      · exact fun h => hk n h n1
    rw [eff_heap hnk hns]
    cases hq : σ.heap[n]? with
    | none => rfl
    | some e =>
      simp only [Option.map_some, Option.some.injEq]
      rcases ky' with hk | ⟨_, hk, _⟩
      · rw [hk]; exact (Ent.kill_nil e).symm
      · exact (Ent.kill_of fun m hm h => hk m h ((n2 e hq).1 m hm)).symm
  refine ⟨σ.eff y.kills y.o.dst vy sy, ly σ hTy hSy, ?_⟩
  have := lx _ hTx hSx
  have hvx : vx.kill y.kills [] = vx := by
    rcases ky' with hk | ⟨_, _, _, hk⟩
    · rw [hk]; exact TV.kill_of fun n _ => by simp
    · rcases ox with ⟨_, _, _, rfl⟩ | ⟨ho, _⟩
      · rfl
      · exact TV.kill_of fun n hn h => hk n h (ho n hn)
  have hvy : vy.kill x.kills [] = vy := by
    rcases kx' with hk | ⟨_, _, _, hk⟩
    · rw [hk]; exact TV.kill_of fun n _ => by simp
    · rcases oy with ⟨_, _, _, rfl⟩ | ⟨ho, _⟩
      · rfl
      · exact TV.kill_of fun n hn h => hk n h (ho n hn)
  have hsx : ∀ z ∈ sx, z.2.kill y.kills [] = z.2 := by
    intro z hz
    rcases ky' with hk | ⟨_, _, _, hk⟩
    · rw [hk]; exact Ent.kill_nil _
    · rcases ox with ⟨_, _, rfl, _⟩ | ⟨_, ho⟩
      · cases hz
      · exact Ent.kill_of fun n hn h => hk n h (ho z hz n hn)
  have hsy : ∀ z ∈ sy, z.2.kill x.kills [] = z.2 := by
    intro z hz
    rcases kx' with hk | ⟨_, _, _, hk⟩
    · rw [hk]; exact Ent.kill_nil _
    · rcases oy with ⟨_, _, rfl, _⟩ | ⟨_, ho⟩
      · cases hz
      · exact Ent.kill_of fun n hn h => hk n h (ho z hz n hn)
  have hkt : ∀ n ∈ x.kills, n ∉ sy.map (·.1) := by
    rw [ey]
    rcases kx' with hk | ⟨_, _, hk, _⟩
    · rw [hk]; simp
    · exact hk
  have hls : ∀ n ∈ y.kills, n ∉ sx.map (·.1) := by
    rw [ex]
    rcases ky' with hk | ⟨_, _, hk, _⟩
    · rw [hk]; simp
    · exact hk
  rw [e2, eff_comm p2 (by rw [ex, ey]; exact a6) hkt hls hsx hsy hvx hvy]
  exact this

theorem Turns.front {r : Rec} {l2 : List Rec} : ∀ {l1 : List Rec} {σ σ' : St}, Turns E all (l1 ++ r :: l2) σ σ' → (∀ x ∈ l1, x.apart all r = true) → Turns E all (r :: (l1 ++ l2)) σ σ'
  | [], σ, σ', h, _ => h
  | x :: l1, σ, σ', h, ha => by
    obtain ⟨σ1, h1, h2⟩ := h
    obtain ⟨σ2, h3, h4⟩ := Turns.front h2 fun z hz => ha z (List.mem_cons_of_mem _ hz)
    obtain ⟨σ3, h5, h6⟩ := h1.swap h3 (ha x List.mem_cons_self)
    exact ⟨σ3, h5, σ2, h6, h4⟩

/-! which operations come ahead -/
theorem masks_prefix : ∀ (l : List Oper) (acc : List Nat), ∃ m, masks acc l = acc ++ m ∧ m.length = l.length
  | [], acc => ⟨[], by simp [masks], rfl⟩
  | o :: l, acc => by
    obtain ⟨m, h1, h2⟩ := masks_prefix l (acc ++ [edgeMask acc o])
    exact ⟨edgeMask acc o :: m, by simp only [masks, h1, List.append_assoc, List.singleton_append], by simp [h2]⟩

theorem masks_at : ∀ (l : List Oper) (acc : List Nat) (j : Nat) (o : Oper), l[j]? = some o → (masks acc l).getD (acc.length + j) 0 = edgeMask ((masks acc l).take (acc.length + j)) o
  | [], acc, j, o, h => by simp at h
  | x :: l, acc, 0, o, h => by
    simp only [List.getElem?_cons_zero, Option.some.injEq] at h
    subst h
    obtain ⟨m, h1, h2⟩ := masks_prefix l (acc ++ [edgeMask acc x])
    simp only [masks, h1, Nat.add_zero, List.append_assoc, List.singleton_append, List.take_left]
    rw [List.getD_eq_getElem?_getD, List.getElem?_append_right (Nat.le_refl _)]
    simp
  | x :: l, acc, j + 1, o, h => by
    simp only [List.getElem?_cons_succ] at h
    have := masks_at l (acc ++ [edgeMask acc x]) j o h
    simp only [List.length_append, List.length_singleton] at this
    simp only [masks]
    rw [show acc.length + (j + 1) = acc.length + 1 + j by omega]
    exact this

theorem edgeMask_bit {acc : List Nat} {o : Oper} {x : Nat} (h : (edgeMask acc o).testBit x = true) : ∃ e ∈ o.after.toList, Region.binds .any e = true ∧ (x = e.on ∨ (acc.getD e.on 0).testBit x = true) := by
  unfold edgeMask at h
  suffices ∀ (l : List Edge) (m : Nat), (l.foldl (fun m e => bif Region.binds .any e then m ||| (1 <<< e.on) ||| acc.getD e.on 0 else m) m).testBit x = true →
      m.testBit x = true ∨ ∃ e ∈ l, Region.binds .any e = true ∧ (x = e.on ∨ (acc.getD e.on 0).testBit x = true) by
    rcases this _ _ h with h | h
    · simp at h
    · exact h
  intro l
  induction l with
  | nil => intro m h; exact .inl h
  | cons e l ih =>
    intro m h
    simp only [List.foldl_cons] at h
    rcases ih _ h with h | ⟨e', h1, h2⟩
    · cases hb : Region.binds .any e with
      | false => rw [hb] at h; exact .inl h
      | true =>
        rw [hb] at h
        simp only [cond_true, Nat.testBit_or, Bool.or_eq_true] at h
        rcases h with (h | h) | h
        · exact .inl h
        · refine .inr ⟨e, List.mem_cons_self, hb, .inl ?_⟩
          rw [Nat.testBit_shiftLeft] at h
          simp only [Bool.and_eq_true, decide_eq_true_eq] at h
          have := h.2
          rcases Nat.lt_or_ge e.on x with hlt | hge
          · rw [show x - e.on = (x - e.on - 1) + 1 by omega, Nat.testBit_succ] at this
            simp at this
          · omega
        · exact .inr ⟨e, List.mem_cons_self, hb, .inr h⟩
    · exact .inr ⟨e', List.mem_cons_of_mem _ h1, h2⟩

theorem edgesBack_spec : ∀ (l : List Oper) (k j : Nat) (o : Oper), edgesBack k l = true → l[j]? = some o → ∀ e ∈ o.after.toList, Region.binds .any e = true → e.on < k + j
  | [], k, j, o, _, h => by simp at h
  | x :: l, k, 0, o, hb, h => by
    simp only [List.getElem?_cons_zero, Option.some.injEq] at h
    subst h
    simp only [edgesBack, Bool.and_eq_true, List.all_eq_true] at hb
    intro e he hbi
    have := hb.1 e he
    rw [hbi] at this
    simp only [Bool.not_true, Bool.false_or] at this
    rw [Nat.add_zero]
    simp [Nat.blt] at this
    omega
  | x :: l, k, j + 1, o, hb, h => by
    simp only [List.getElem?_cons_succ] at h
    simp only [edgesBack, Bool.and_eq_true] at hb
    intro e he hbi
    have := edgesBack_spec l (k + 1) j o hb.2 h e he hbi
    omega

/-- What comes ahead of an operation that is ready is listed. -/
theorem mask_listed {listed : Array Bool} (hb : edgesBack 0 all.toList = true) (hcl : ∀ k o e, all[k]? = some o → listed.getD k false = true → e ∈ o.after.toList → Region.binds .any e = true → listed.getD e.on false = true) :
    ∀ (n k : Nat), k < n → ∀ o, all[k]? = some o → (∀ e ∈ o.after.toList, Region.binds .any e = true → listed.getD e.on false = true) → ∀ x, ((masks [] all.toList).getD k 0).testBit x = true → listed.getD x false = true
  | 0, k, hk, _, _, _, _, _ => by omega
  | n + 1, k, hk, o, ho, hr, x, hx => by
    have ho' : all.toList[k]? = some o := by rw [Array.getElem?_toList]; exact ho
    have h1 := masks_at all.toList [] k o ho'
    simp only [List.length_nil, Nat.zero_add] at h1
    rw [h1] at hx
    obtain ⟨e, he, hbi, hx⟩ := edgeMask_bit hx
    have hlt := edgesBack_spec _ _ _ _ hb ho' e he hbi
    rw [Nat.zero_add] at hlt
    rcases hx with rfl | hx
    · exact hr e he hbi
    · have hl := hr e he hbi
      have hxx : ((masks [] all.toList).getD e.on 0).testBit x = true := by
        rw [List.getD_eq_getElem?_getD, List.getElem?_take] at hx
        rw [if_pos hlt] at hx
        rw [List.getD_eq_getElem?_getD]; exact hx
      have hsz : e.on < all.size := by
        have := (Array.getElem?_eq_some_iff.1 ho).1
        omega
      exact mask_listed hb hcl n e.on (by omega) all[e.on] (Array.getElem?_eq_getElem hsz) (fun e' he' hb' => hcl e.on _ e' (Array.getElem?_eq_getElem hsz) hl he' hb') x hxx
end
end Go.Sx

/- Regions that draw their order, in the machine. -/
set_option linter.unusedVariables false
set_option linter.unusedSimpArgs false
namespace Go.Sx

section
variable {β : Type} {E : Env β} {all : Array Oper}

theorem oneR_litk {σ : St} {nm : Nat} {o : Oper} {δ : Delta} (h : OneR E σ nm o δ) : δ.litk = [] := by
  cases h with
  | call f args at_ ho h => obtain ⟨_, _, _, _, _, _, _, _, h⟩ := h; exact after_litk h
  | clos x f caps args at_ ho hnf hx h => obtain ⟨_, _, _, _, _, _, _, _, h⟩ := h; exact after_litk h
  | step hl h => exact hl

theorem turns_length : ∀ {R : List Rec} {σ σ' : St}, Turns E all R σ σ' → σ'.tmps.length = σ.tmps.length
  | [], σ, σ', h => by cases h; rfl
  | r :: l, σ, σ', ⟨σ1, h1, h2⟩ => by
    rw [turns_length h2]
    cases h1 with
    | go nm δ hi hw hf h hll hrr he => rw [he, apply_length]
    | skip hi hw hkk hs hcc he => rw [he, put_length]

theorem turn_wp {G : Gh} {w : World} {a : Act} {r : Rec} {σ σ1 : St} {Q : Exit → Act → World → Prop} {K : Act → World → Prop} (ht : Turn E all r σ σ1) (hr : RelS G w σ a)
    (hk : ∀ G' w' a', RelS G' w' σ1 a' → Ext G w G' w' → Keep E.pars G w σ.heap G' w' σ1.heap → K a' w') : wpOp E.P all Q r.i K a w := by
  cases ht with
  | go nm δ hi hw hf h hll hrr he =>
    have hwant : Region.wanted r.o (yielded all a.tmps) = true := by
      rcases hw with ⟨_, hg⟩ | ⟨j, want, t, h1, h2, h3⟩
      · simp [Region.wanted, hg]
      · rcases h3 with h3 | ⟨h3, _⟩
        · simp only [Bool.true_beq] at h3
          simp [Region.wanted, h1, hr.yield h2 h3]
        · cases h3
    unfold wpOp
    simp only [hi, hwant, if_true]
    refine .inl (one_wp hr h hf.1 hf.2 fun hl v w' hd => ?_)
    obtain ⟨G', k1, k2, k3⟩ := hr.apply (d := r.o.dst) hl hd
    rw [← he] at k1 k3
    exact hk G' w' _ k1 k2 k3
  | skip hi hw hkk hs hcc he =>
    have hwant : Region.wanted r.o (yielded all a.tmps) = false := by
      rcases hw with ⟨hf, _⟩ | ⟨j, want, t, h1, h2, h3⟩
      · cases hf
      · simp only [Bool.false_beq, true_and] at h3
        exact hr.unwanted h1 h2 h3
    unfold wpOp
    simp only [hi, hwant, Bool.false_eq_true, if_false]
    subst he
    have hh : (σ.put r.o.dst skipTV).heap = σ.heap := by cases r.o.dst <;> rfl
    exact hk G w _ (hr.skip _) (Ext.refl _ _) (by rw [hh]; exact Keep.refl _ _ _ _)

theorem ready_spec {listed : Array Bool} {i : Nat} : i ∈ Region.ready .any all listed ↔ i < all.size ∧ listed.getD i true = false ∧ ∃ o, all[i]? = some o ∧ ∀ e ∈ o.after.toList, Region.binds .any e = true → listed.getD e.on false = true := by
  unfold Region.ready
  simp only [List.mem_filter, List.mem_range, Bool.and_eq_true, Bool.not_eq_true']
  refine and_congr_right fun hi => and_congr_right fun _ => ?_
  rw [Array.getElem?_eq_getElem hi]
  simp only [Option.map_some, Option.getD_some, Option.some.injEq, exists_eq_left', Array.all_eq_true_iff_forall_mem, Bool.or_eq_true, Bool.not_eq_true']
  constructor
  · intro h e he hb
    rcases h e (by simpa using he) with h | h
    · rw [hb] at h; cases h
    · exact h
  · intro h e he
    cases hb : Region.binds .any e with
    | false => exact .inl rfl
    | true => exact .inr (h e (by simpa using he) hb)

theorem turns_any {Q : Exit → Act → World → Prop} {σ' : St} (hb : edgesBack 0 all.toList = true) : ∀ (fuel : Nat) (listed : Array Bool) (R : List Rec) (σ : St) (G : Gh) (w : World) (a : Act), RelS G w σ a → Turns E all R σ σ' → R.length ≤ fuel →
    listed.size = all.size → (∀ i, i < all.size → (listed.getD i false = false ↔ ∃ r ∈ R, r.i = i)) → (∀ r ∈ R, r.i < all.size) →
    (∀ k o e, all[k]? = some o → listed.getD k false = true → e ∈ o.after.toList → Region.binds .any e = true → listed.getD e.on false = true) →
    R.Pairwise (fun x y => x.i < y.i) → R.Pairwise (fun x y => ((masks [] all.toList).getD y.i 0).testBit x.i = true ∨ x.apart all y = true) →
    (∀ G' w' a', RelS G' w' σ' a' → Ext G w G' w' → Keep E.pars G w σ.heap G' w' σ'.heap → Q .normal a' w') → wpAny E.P .any all Q fuel listed a w := by
  intro fuel
  induction fuel with
  | zero =>
    intro listed R σ G w a hr ht hlen hsz hun hlt hcl hord hpw hq
    have hR : R = [] := List.length_eq_zero_iff.1 (by omega)
    subst hR
    have hrdy : Region.ready .any all listed = [] := by
      rw [List.eq_nil_iff_forall_not_mem]
      intro i hi
      obtain ⟨h1, h2, _⟩ := ready_spec.1 hi
      have : listed.getD i false = false := by
        rw [Array.getD_eq_getD_getElem?, Array.getElem?_eq_getElem (by omega)] at h2 ⊢
        exact h2
      obtain ⟨r, hr, _⟩ := (hun i h1).1 this
      cases hr
    cases ht
    exact ⟨hrdy, hq G w a hr (Ext.refl _ _) (Keep.refl _ _ _ _)⟩
  | succ fuel ih =>
    intro listed R σ G w a hr ht hlen hsz hun hlt hcl hord hpw hq
    have hgd : ∀ i, i < all.size → listed.getD i true = listed.getD i false := fun i hi => by
      rw [Array.getD_eq_getD_getElem?, Array.getD_eq_getD_getElem?, Array.getElem?_eq_getElem (by omega)]; rfl
    refine ⟨fun hnil => ?_, fun i hi => ?_⟩
    · cases R with
      | nil => cases ht; exact hq G w a hr (Ext.refl _ _) (Keep.refl _ _ _ _)
      | cons r l =>
        exfalso
        have hri := hlt r List.mem_cons_self
        have : r.i ∈ Region.ready .any all listed := by
          refine ready_spec.2 ⟨hri, ?_, all[r.i], Array.getElem?_eq_getElem hri, fun e he hbi => ?_⟩
          · rw [hgd _ hri]; exact (hun _ hri).2 ⟨r, List.mem_cons_self, rfl⟩
          · have hlt2 := edgesBack_spec _ _ r.i all[r.i] hb (by rw [Array.getElem?_toList]; exact Array.getElem?_eq_getElem hri) e he hbi
            rw [Nat.zero_add] at hlt2
            cases hl : listed.getD e.on false with
            | true => rfl
            | false =>
              obtain ⟨x, hx, hxi⟩ := (hun e.on (by omega)).1 hl
              rcases List.mem_cons.1 hx with rfl | hx
              · omega
              · have := (List.pairwise_cons.1 hord).1 x hx
                omega
        rw [hnil] at this
        cases this
    · obtain ⟨h1, h2, o, ho, hrdy⟩ := ready_spec.1 hi
      rw [hgd _ h1] at h2
      obtain ⟨r, hrR, rfl⟩ := (hun i h1).1 h2
      obtain ⟨l1, l2, rfl⟩ := List.append_of_mem hrR
      have hap : ∀ x ∈ l1, x.apart all r = true := by
        intro x hx
        have hp := (List.pairwise_append.1 hpw).2.2 x hx r List.mem_cons_self
        rcases hp with hp | hp
        · exfalso
          have hl := mask_listed hb hcl (r.i + 1) r.i (by omega) o ho hrdy x.i hp
          have hxi := hlt x (List.mem_append_left _ hx)
          have := (hun x.i hxi).2 ⟨x, List.mem_append_left _ hx, rfl⟩
          rw [hl] at this
          cases this
        · exact hp
      obtain ⟨σ1, ht1, ht2⟩ := ht.front hap
      have hne : ∀ x, x ∈ l1 ++ l2 → x.i ≠ r.i := by
        intro x hx he
        rcases List.mem_append.1 hx with hx | hx
        · have := (List.pairwise_append.1 hord).2.2 x hx r List.mem_cons_self
          omega
        · have := (List.pairwise_cons.1 (List.pairwise_append.1 hord).2.1).1 x hx
          omega
      have hget : ∀ k, (listed.setIfInBounds r.i true).getD k false = if k = r.i then true else listed.getD k false := by
        intro k
        rw [Array.getD_eq_getD_getElem?, Array.getD_eq_getD_getElem?, Array.getElem?_setIfInBounds]
        by_cases hk : r.i = k
        · subst hk
          rw [if_pos rfl, if_pos rfl, if_pos (by omega)]; rfl
        · rw [if_neg hk, if_neg (fun e => hk e.symm)]
      have hsub : ∀ {p : Rec → Rec → Prop}, (l1 ++ r :: l2).Pairwise p → (l1 ++ l2).Pairwise p := fun h => h.sublist (List.Sublist.append (List.Sublist.refl _) (List.sublist_cons_self _ _))
      refine turn_wp ht1 hr fun G1 w1 a1 k1 k2 k3 => ?_
      refine ih _ (l1 ++ l2) σ1 G1 w1 a1 k1 ht2 (by simp only [List.length_append, List.length_cons] at hlen ⊢; omega) (by rw [Array.size_setIfInBounds]; exact hsz) (fun j hj => ?_)
        (fun x hx => hlt x (by rcases List.mem_append.1 hx with hx | hx; exact List.mem_append_left _ hx; exact List.mem_append_right _ (List.mem_cons_of_mem _ hx))) (fun k o' e' h3 h4 h5 h6 => ?_) (hsub hord) (hsub hpw) fun G2 w2 a2 m1 m2 m3 => hq G2 w2 a2 m1 (k2.trans m2) (k3.trans k2.size m2 m3)
      · rw [hget]
        by_cases hj' : j = r.i
        · rw [if_pos hj']
          exact ⟨fun h => (by cases h), fun h => (by obtain ⟨x, hx, hxe⟩ := h; exact absurd (hxe.trans hj') (hne x hx))⟩
        · rw [if_neg hj', hun j hj]
          constructor
          · rintro ⟨x, hx, rfl⟩
            rcases List.mem_append.1 hx with hx | hx
            · exact ⟨x, List.mem_append_left _ hx, rfl⟩
            · rcases List.mem_cons.1 hx with hx | hx
              · exact absurd (by rw [hx]) hj'
              · exact ⟨x, List.mem_append_right _ hx, rfl⟩
          · rintro ⟨x, hx, rfl⟩
            rcases List.mem_append.1 hx with hx | hx
            · exact ⟨x, List.mem_append_left _ hx, rfl⟩
            · exact ⟨x, List.mem_append_right _ (List.mem_cons_of_mem _ hx), rfl⟩
      · rw [hget] at h4 ⊢
        by_cases hk : k = r.i
        · subst hk
          rw [ho] at h3
          injection h3 with h3
          subst h3
          rw [hrdy e' h5 h6]; split <;> rfl
        · rw [if_neg hk] at h4
          rw [hcl k o' e' h3 h4 h5 h6]; split <;> rfl

theorem apartAll_spec {m : Nat} {r : Rec} {acc : List Rec} (h : apartAll all m r acc = true) : ∀ x ∈ acc, m.testBit x.i = true ∨ x.apart all r = true := by
  intro x hx
  have := List.all_eq_true.1 h x hx
  simpa using this

def Ran {β : Type} (E : Env β) (all : Array Oper) (ms : List Nat) (K : St → Option β) (out : β) (n i : Nat) (acc : List Rec) (σ : St) : Prop :=
  ∃ σ' R, Turns E all R σ σ' ∧ K σ' = some out ∧ R.map (·.i) = List.range' i n ∧ (∀ r ∈ R, ∀ x ∈ acc, (ms.getD r.i 0).testBit x.i = true ∨ x.apart all r = true) ∧
    R.Pairwise (fun x y => (ms.getD y.i 0).testBit x.i = true ∨ x.apart all y = true)

theorem runOpsD_inv (hO : OOk E.P E.O) {ms : List Nat} {K : St → Option β} {out : β} : ∀ (l : List (Oper × Nat)) (i : Nat) (acc : List Rec) (σ : St), (∀ k x, l[k]? = some x → all[i + k]? = some x.1) → runOpsD E all ms l i acc σ K = some out →
    Ran E all ms K out l.length i acc σ
  | [], i, acc, σ, _, h => ⟨σ, [], rfl, h, rfl, by simp, .nil⟩
  | (o, nm) :: l, i, acc, σ, hl, h => by
    have ho : all[i]? = some o := hl 0 _ rfl
    have hl' : ∀ k x, l[k]? = some x → all[i + 1 + k]? = some x.1 := fun k x hk => by
      rw [show i + 1 + k = i + (k + 1) by omega]; exact hl (k + 1) x hk
    -- what follows one record
    have step : ∀ (r : Rec) (σ1 : St), r.i = i → r.o = o → Turn E all r σ σ1 → (bif apartAll all (ms.getD i 0) r acc then runOpsD E all ms l (i + 1) (r :: acc) σ1 K else none) = some out →
        Ran E all ms K out ((o, nm) :: l).length i acc σ := by
      intro r σ1 e1 e2 ht hk
      cases hap : apartAll all (ms.getD i 0) r acc with
      | false => rw [hap] at hk; cases hk
      | true =>
        rw [hap] at hk
        simp only [cond_true] at hk
        obtain ⟨σ', R, h1, h2, h3, h4, h5⟩ := runOpsD_inv hO l (i + 1) (r :: acc) σ1 hl' hk
        refine ⟨σ', r :: R, ⟨σ1, ht, h1⟩, h2, by simp only [List.map_cons, h3, e1, List.length_cons, List.range'_succ], fun y hy x hx => ?_, List.pairwise_cons.2 ⟨fun y hy => h4 y hy r List.mem_cons_self, h5⟩⟩
        rcases List.mem_cons.1 hy with rfl | hy
        · rw [e1]; exact apartAll_spec hap x hx
        · exact h4 y hy x (List.mem_cons_of_mem _ hx)
    have key : ∀ σ1 : St, σ1 = σ → Wanted all σ o true → (oneK E σ1 nm o fun δ =>
        bif apartAll all (ms.getD i 0) (recOf E σ1 nm i o δ) acc then
          runOpsD E all ms l (i + 1) ((recOf E σ1 nm i o δ) :: acc) (σ1.apply δ o.dst) K else none) = some out → Ran E all ms K out ((o, nm) :: l).length i acc σ := by
      intro σ1 e hw hk
      clear h
      subst e
      obtain ⟨δ, h1, h2⟩ := oneK_inv hO hk
      exact step (recOf E σ1 nm i o δ) _ rfl rfl (.go nm δ ho hw (oneK_free hk) h1 (oneR_litk h1) rfl rfl) h2
    have key2 : ∀ σ1 : St, σ1 = σ → Wanted all σ o false → (bif apartAll all (ms.getD i 0) ({ i := i, o := o, kills := [], sets := [], outs := [], sees := [], deep := [], clean := true } : Rec) acc then
          runOpsD E all ms l (i + 1) (({ i := i, o := o, kills := [], sets := [], outs := [], sees := [], deep := [], clean := true } : Rec) :: acc) (σ1.put o.dst skipTV) K else none) = some out → Ran E all ms K out ((o, nm) :: l).length i acc σ := by
      intro σ1 e hw hk
      clear h
      subst e
      exact step ({ i := i, o := o, kills := [], sets := [], outs := [], sees := [], deep := [], clean := true } : Rec) _ rfl rfl (.skip ho hw rfl rfl rfl rfl) hk
    simp only [runOpsD] at h
    split at h
    · rename_i hg
      exact key σ rfl (.inl ⟨rfl, hg⟩) h
    · rename_i j want hg
      split at h
      · rename_i t hj
        split at h
        · rename_i b hbv
          have hpg := put_get hbv
          cases want with
          | true =>
            cases b with
            | true => exact key _ hpg (.inr ⟨j, true, t, hg, hj, .inl (by rw [hbv]; rfl)⟩) h
            | false => exact key2 _ hpg (.inr ⟨j, true, t, hg, hj, .inl (by rw [hbv]; rfl)⟩) h
          | false =>
            cases b with
            | true => exact key2 _ hpg (.inr ⟨j, false, t, hg, hj, .inl (by rw [hbv]; rfl)⟩) h
            | false => exact key _ hpg (.inr ⟨j, false, t, hg, hj, .inl (by rw [hbv]; rfl)⟩) h
        · rename_i hbv
          exact key2 σ rfl (.inr ⟨j, want, t, hg, hj, .inr ⟨rfl, hbv⟩⟩) h
        · cases h
      · cases h

theorem named_length {β : Type} (E : Env β) (l : List Oper) (nm : Nat) : (named E nm l).length = l.length := by
  rw [← List.length_map (f := (·.1)), named_fst]

theorem drawn_relS {pars n : Nat} {G : Gh} {w : World} {σ : St} {a : Act} (hr : RelS G w σ a) : ∃ G', RelS G' { w with drawn := n } σ a ∧ Ext G w G' { w with drawn := n } ∧ Keep pars G w σ.heap G' { w with drawn := n } σ.heap := by
  have hd : Done pars G w σ.heap { val := .undef } undef { w with drawn := n } := done_val hr.heap rfl rfl rfl rfl trivial
  obtain ⟨G', h1, h2, h3⟩ := hr.apply (d := none) rfl hd
  have e : σ.apply { val := .undef } none = σ := rfl
  rw [e] at h1 h3
  exact ⟨G', h1, h2, h3⟩

/-- A region, in whatever order. -/
theorem region_wp (hO : OOk E.P E.O) {G : Gh} {w : World} {σ : St} {a : Act} {id : Nat} {d : Bool} {ops : Array Oper} {K : St → Option β} {r : β} {Q : Exit → Act → World → Prop} (hr : RelS G w σ a) (h : runRegion E d ops σ K = some r)
    (hq : ∀ σ' G' w' a', K σ' = some r → σ'.tmps.length = σ.tmps.length → RelS G' w' σ' a' → Ext G w G' w' → Keep E.pars G w σ.heap G' w' σ'.heap → Q .normal a' w') : (Code.region id ops d).wp E.P Q a w := by
  cases d with
  | false => exact region_wp_text hO hr h hq
  | true =>
    unfold runRegion at h
    simp only [cond_true] at h
    cases hm : (E.P.follows .mixedOrders && edgesBack 0 ops.toList) with
    | false => rw [hm] at h; cases h
    | true =>
      rw [hm] at h
      simp only [cond_true] at h
      simp only [Bool.and_eq_true] at hm
      obtain ⟨σ', R, h1, h2, h3, h4, h5⟩ := runOpsD_inv hO (all := ops) _ 0 [] _ (fun k x hk => by
        have := congrArg (fun l => l[k]?) (named_fst E ops.toList σ.heap.length)
        simp only [List.getElem?_map, hk, Option.map_some, Array.getElem?_toList] at this
        rw [Nat.zero_add]; exact this.symm) h
      rw [named_length, Array.length_toList] at h3
      have hmem : ∀ r ∈ R, r.i < ops.size := fun r hr => by
        have : r.i ∈ R.map (·.i) := List.mem_map_of_mem hr
        rw [h3, List.mem_range'_1] at this; omega
      have hlen : R.length = ops.size := by rw [← List.length_map (f := (·.i)), h3, List.length_range']
      refine wp_region_any hm.1 ?_
      obtain ⟨G0, d1, d2, d3⟩ := drawn_relS (pars := E.pars) (n := w.drawn + 1) (wider_relS hr (needAll E ops.toList))
      refine turns_any hm.2 ops.size _ R (wider σ (needAll E ops.toList)) G0 _ a d1 h1 (by omega) (by simp) (fun i hi => ?_) hmem (fun k o e hk hl => ?_) ?_ h5 fun G' w' a' k1 k2 k3 => hq σ' G' w' a' h2 (show σ'.tmps.length = (wider σ (needAll E ops.toList)).tmps.length from turns_length h1) k1 (d2.trans k2) (wider_keep (d3.trans d2.size k2 k3))
      · have e1 : (Array.replicate ops.size false).getD i false = false := by
          rw [Array.getD_eq_getD_getElem?, Array.getElem?_replicate]; split <;> rfl
        refine ⟨fun _ => ?_, fun _ => e1⟩
        have : i ∈ R.map (·.i) := by rw [h3, List.mem_range'_1]; omega
        obtain ⟨r, hr, he⟩ := List.mem_map.1 this
        exact ⟨r, hr, he⟩
      · exfalso
        rw [Array.getD_eq_getD_getElem?, Array.getElem?_replicate] at hl
        split at hl <;> cases hl
      · have := List.pairwise_lt_range' (s := 0) (n := ops.size) (step := 1) (by omega)
        rw [← h3, List.pairwise_map] at this
        exact this
end
end Go.Sx

/- Names put in order. -/
set_option linter.unusedVariables false
set_option linter.unusedSimpArgs false
namespace Go.Sx

theorem reach_spec {hp : List Ent} {pars : Nat} : ∀ (f : Nat) (l acc : List Nat), acc.Nodup → (∀ n ∈ acc, pars ≤ n) → (reach hp pars f l acc).Nodup ∧ ∀ n ∈ reach hp pars f l acc, pars ≤ n := by
  intro f
  induction f with
  | zero => intro l acc h1 h2; exact ⟨h1, h2⟩
  | succ f ih =>
    intro l acc h1 h2
    cases l with
    | nil => exact ⟨h1, h2⟩
    | cons n l =>
      simp only [reach]
      cases hc : (Nat.blt n pars || acc.contains n) with
      | true => exact ih l acc h1 h2
      | false =>
        simp only [Bool.or_eq_false_iff] at hc
        have hn : n ∉ acc := fun h => by
          have := hc.2
          rw [List.contains_iff_mem.2 h] at this; cases this
        have hge : pars ≤ n := by
          have := hc.1
          rcases Nat.lt_or_ge n pars with h | h
          · rw [show Nat.blt n pars = true by simp [Nat.blt]; omega] at this; cases this
          · exact h
        have g1 : (acc ++ [n]).Nodup := List.nodup_append.2 ⟨h1, by simp, fun a ha b hb => by simp only [List.mem_singleton] at hb; subst hb; exact fun e => hn (by rw [← e]; exact ha)⟩
        have g2 : ∀ k ∈ acc ++ [n], pars ≤ k := fun k hk => by
          rcases List.mem_append.1 hk with hk | hk
          · exact h2 k hk
          · simp only [List.mem_singleton] at hk; subst hk; exact hge
        simp only [cond_false]
        split
        · exact ih _ _ g1 g2
        · exact ih _ _ g1 g2

theorem order_spec (hp : List Ent) (pars : Nat) (l : List Nat) : (orderOf pars hp l).Nodup ∧ ∀ n ∈ orderOf pars hp l, pars ≤ n := reach_spec _ _ _ List.nodup_nil (by simp)

def renK (pars : Nat) (m : List Nat) (n : Nat) : Nat := (renN pars m n).getD (pars + m.length + n)
def unK (pars : Nat) (m : List Nat) (k : Nat) : Nat := if k < pars then k else m.getD (k - pars) k

def Zone.ren (pars : Nat) (m : List Nat) : Zone → Zone
  | .frz => .frz
  | .hid => .hid
  | .box n => .box (renK pars m n)
  | .top n => .top (renK pars m n)

def Gh.ren (G : Gh) (pars : Nat) (m : List Nat) : Gh :=
  { zone := fun b => (G.zone b).ren pars m, blk := fun k => G.blk (unK pars m k), base := fun k => G.base (unK pars m k), cap := fun k => G.cap (unK pars m k) }

theorem blt_true {a b : Nat} : Nat.blt a b = true ↔ a < b := by simp [Nat.blt]; omega
theorem blt_false {a b : Nat} : Nat.blt a b = false ↔ b ≤ a := by
  rw [← Bool.not_eq_true, blt_true]; omega

section
variable {pars : Nat} {m : List Nat} {G : Gh} {w : World} {h : List Ent}

theorem renN_some {n k : Nat} (hr : renN pars m n = some k) : unK pars m k = n ∧ ((k < pars ∧ n = k) ∨ ∃ i, k = pars + i ∧ m[i]? = some n) := by
  unfold renN at hr
  cases hb : Nat.blt n pars with
  | true =>
    rw [hb] at hr
    simp only [cond_true, Option.some.injEq] at hr
    subst hr
    have := blt_true.1 hb
    exact ⟨by unfold unK; rw [if_pos this], .inl ⟨this, rfl⟩⟩
  | false =>
    rw [hb] at hr
    simp only [cond_false, Option.map_eq_some_iff] at hr
    obtain ⟨i, h1, rfl⟩ := hr
    obtain ⟨_, h2⟩ := posOf_some h1
    rw [Nat.sub_zero] at h2
    refine ⟨?_, .inr ⟨i, rfl, h2⟩⟩
    unfold unK
    rw [if_neg (by omega), Nat.add_sub_cancel_left, List.getD_eq_getElem?_getD, h2]; rfl

theorem renN_at (hd : m.Nodup) (hge : ∀ n ∈ m, pars ≤ n) {i n : Nat} (hi : m[i]? = some n) : renN pars m n = some (pars + i) := by
  unfold renN
  rw [blt_false.2 (hge n (List.mem_of_getElem? hi)), cond_false, posOf_of hd hi]; rfl

theorem renN_low {n : Nat} (hn : n < pars) : renN pars m n = some n := by
  unfold renN
  rw [blt_true.2 hn]; rfl

theorem renHeap_low {n : Nat} (hn : n < pars) : (renHeap pars m h)[n]? = some ((h.getD n .gone).renP pars m) := by
  unfold renHeap
  rw [List.getElem?_append_left (by simpa using hn)]
  simp [hn]

theorem renHeap_high {i n : Nat} (hi : m[i]? = some n) : (renHeap pars m h)[pars + i]? = some ((h.getD n .gone).ren pars m) := by
  unfold renHeap
  rw [List.getElem?_append_right (by simp)]
  simp [hi]

theorem renHeap_arr {n k : Nat} {a : Arr} (hr : renN pars m n = some k) (ha : h[n]? = some (.arr a)) : ∃ v, (renHeap pars m h)[k]? = some (.arr { a with virt := v }) := by
  have hg : h.getD n .gone = .arr a := by rw [List.getD_eq_getElem?_getD, ha]; rfl
  obtain ⟨_, ⟨h1, rfl⟩ | ⟨i, rfl, h2⟩⟩ := renN_some hr
  · exact ⟨a.virt, by rw [renHeap_low h1, hg]; rfl⟩
  · exact ⟨false, by rw [renHeap_high h2, hg]; rfl⟩

theorem renHeap_box {n k : Nat} {cs : List BV} (hr : renN pars m n = some k) (ha : h[n]? = some (.box cs)) : (renHeap pars m h)[k]? = some (.box (cs.map (·.ren pars m))) := by
  have hg : h.getD n .gone = .box cs := by rw [List.getD_eq_getElem?_getD, ha]; rfl
  obtain ⟨_, ⟨h1, rfl⟩ | ⟨i, rfl, h2⟩⟩ := renN_some hr
  · rw [renHeap_low h1, hg]; rfl
  · rw [renHeap_high h2, hg]; rfl

theorem ren_frz {b : Nat} (hz : G.zone b = .frz) : (G.ren pars m).zone b = .frz := by simp only [Gh.ren, hz, Zone.ren]

theorem ren_relB {v : Value} {b : BV} (hr : RelB G w h v b) : RelB (G.ren pars m) w (renHeap pars m h) v (b.ren pars m) := by
  have hf : ∀ b, b < w.heap.size → G.zone b = .frz → (G.ren pars m).zone b = .frz := fun b _ hz => ren_frz hz
  cases b with
  | undef => exact trivial
  | int k n => exact hr
  | bool b => exact hr
  | str s => exact hr
  | nilp => exact hr
  | emp r => exact hr
  | ref n =>
    simp only [BV.ren]
    cases hq : renN pars m n with
    | none => exact trivial
    | some k =>
      obtain ⟨a, ha, hv⟩ := hr
      obtain ⟨v', hv'⟩ := renHeap_arr hq ha
      refine ⟨_, hv', ?_⟩
      simp only [Gh.ren, (renN_some hq).1]
      exact hv
  | sub n lo len =>
    simp only [BV.ren]
    cases hq : renN pars m n with
    | none => exact trivial
    | some k =>
      obtain ⟨a, b, ha, hl, hv, hb⟩ := hr
      obtain ⟨v', hv'⟩ := renHeap_arr hq ha
      refine ⟨_, b, hv', hl, ?_, ?_⟩ <;> simp only [Gh.ren, (renN_some hq).1]
      · exact hv
      · exact hb
  | lit s ho r xs =>
    cases s with
    | some n => exact hr.elim
    | none => exact RelCell.mono hf (fun _ _ _ => rfl) _ _ _ hr
  | ptrB n off =>
    simp only [BV.ren]
    cases hq : renN pars m n with
    | none => exact trivial
    | some k =>
      obtain ⟨cs, ha, hv⟩ := hr
      refine ⟨_, renHeap_box hq ha, ?_⟩
      simp only [Gh.ren, (renN_some hq).1]
      exact hv
  | ptrE n i j =>
    simp only [BV.ren]
    cases hq : renN pars m n with
    | none => exact trivial
    | some k =>
      obtain ⟨a, ad, ha, hi, hb, hv⟩ := hr
      obtain ⟨v', hv'⟩ := renHeap_arr hq ha
      refine ⟨_, ad, hv', hi, ?_, hv⟩
      simp only [Gh.ren, (renN_some hq).1]
      exact hb
  | ptrL s r x j =>
    cases s with
    | some n => exact hr.elim
    | none =>
      obtain ⟨b, o, vs, hv, hz, hb, hx⟩ := hr
      exact ⟨b, o, vs, hv, ren_frz hz, hb, RelRow.mono hf (fun _ _ _ => rfl) _ _ _ _ hx⟩
  | fn f caps =>
    simp only [BV.ren]
    generalize hc : (caps.all fun c => match c with
          | CapV.ref n => false
          | CapV.ptr n off => false
          | x => true) = q
    cases q with
    | false => exact trivial
    | true =>
      simp only [cond_true]
      obtain ⟨vs, hv, hs, hx⟩ := hr
      refine ⟨vs, hv, hs, fun i c hi => ?_⟩
      obtain ⟨u, u1, u2⟩ := hx i c hi
      refine ⟨u, u1, ?_⟩
      have := List.all_eq_true.1 hc c (List.mem_of_getElem? hi)
      cases c with
      | ref n => cases this
      | ptr n off => cases this
      | _ => exact u2

theorem ren_relCV {v : Value} {x : CV} (hr : RelCV G w h v x) : RelCV (G.ren pars m) w (renHeap pars m h) v (x.ren pars m) := by
  cases x with
  | v b => exact ren_relB hr
  | agg cs =>
    obtain ⟨vs, hv, hs, hc⟩ := hr
    refine ⟨vs, hv, by simpa using hs, fun i b hi => ?_⟩
    rw [List.getElem?_map] at hi
    cases hq : cs[i]? with
    | none => rw [hq] at hi; cases hi
    | some b' =>
      rw [hq] at hi
      simp only [Option.map_some, Option.some.injEq] at hi
      obtain ⟨u, h1, h2, h3⟩ := hc i b' hq
      exact ⟨u, h1, h2, by rw [← hi]; exact ren_relB h3⟩

theorem ren_relTV {v : Value} {x : TV} (hr : RelTV G w h v x) : RelTV (G.ren pars m) w (renHeap pars m h) v (x.ren pars m) := by
  cases x with
  | c x => exact ren_relCV hr
  | tup xs =>
    obtain ⟨vs, hv, hs, hc⟩ := hr
    refine ⟨vs, hv, by simpa using hs, fun i b hi => ?_⟩
    rw [List.getElem?_map] at hi
    cases hq : xs[i]? with
    | none => rw [hq] at hi; cases hi
    | some b' =>
      rw [hq] at hi
      simp only [Option.map_some, Option.some.injEq] at hi
      obtain ⟨u, h1, h2⟩ := hc i b' hq
      exact ⟨u, h1, by rw [← hi]; exact ren_relCV h2⟩

theorem ren_relE {n k : Nat} (hq : renN pars m n = some k) {e : Ent} (hr : RelE G w h n e) : RelE (G.ren pars m) w (renHeap pars m h) k (e.ren pars m) ∧ RelE (G.ren pars m) w (renHeap pars m h) k (e.renP pars m) := by
  have hun := (renN_some hq).1
  have hf : ∀ b, b < w.heap.size → G.zone b = .frz → (G.ren pars m).zone b = .frz ∧ w.heap[b]? = w.heap[b]? := fun b _ hz => ⟨ren_frz hz, rfl⟩
  have hK : renK pars m n = k := by unfold renK; rw [hq]; rfl
  cases e with
  | gone => exact ⟨trivial, trivial⟩
  | arr a =>
    obtain ⟨p1, p2, p3⟩ := hr
    have key : ∀ v, (v = true → G.cap n = 0) → RelArr (G.ren pars m) w k { a with virt := v } := by
      intro v hv
      refine ⟨⟨p1.1, fun ho => ?_⟩, fun hv' => ?_, ?_⟩
      · simp only [Gh.ren, hun]; exact p1.2 ho
      · simp only [Gh.ren, hun]; exact hv hv'
      · simp only [Gh.ren, hun]
        refine p3.mono (fun b hb hz => ⟨?_, rfl⟩) hf
        unfold ZArr at hz ⊢
        split at hz
        · rename_i ho
          rw [if_pos ho]
          simp only [hz, Zone.ren, hK]
        · rename_i ho
          rw [if_neg ho]
          split at hz
          · rename_i hfx
            rw [if_pos hfx]
            rcases hz with hz | hz
            · exact .inl (by simp only [hz, Zone.ren])
            · exact .inr (by simp only [hz, Zone.ren, hK])
          · rename_i hfx
            rw [if_neg hfx]
            simp only [hz, Zone.ren]
    exact ⟨key false (fun h => by cases h), key a.virt p2⟩
  | box cs =>
    obtain ⟨z1, vs, b1, b2, b3⟩ := hr
    have : RelBox (G.ren pars m) w (renHeap pars m h) k (cs.map (·.ren pars m)) := by
      unfold RelBox
      simp only [Gh.ren, hun]
      refine ⟨by simp only [z1, Zone.ren, hK], vs, b1, by simpa using b2, fun i b hi => ?_⟩
      rw [List.getElem?_map] at hi
      cases hq : cs[i]? with
      | none => rw [hq] at hi; cases hi
      | some b' =>
        rw [hq] at hi
        simp only [Option.map_some, Option.some.injEq] at hi
        obtain ⟨u, h1, h2, h3⟩ := b3 i b' hq
        exact ⟨u, h1, h2, by rw [← hi]; exact ren_relB h3⟩
    exact ⟨this, this⟩

theorem ren_relH (hd : m.Nodup) (hge : ∀ n ∈ m, pars ≤ n) (hh : RelH G w h) : RelH (G.ren pars m) w (renHeap pars m h) := by
  refine ⟨fun k e he => ?_, fun b h1 h2 => ?_⟩
  · have hgd : ∀ n, RelE G w h n (h.getD n .gone) := fun n => by
      rw [List.getD_eq_getElem?_getD]
      cases hq : h[n]? with
      | none => exact trivial
      | some e => exact hh.ent n e hq
    by_cases hk : k < pars
    · rw [renHeap_low hk] at he
      simp only [Option.some.injEq] at he
      rw [← he]
      exact (ren_relE (renN_low hk) (hgd k)).2
    · obtain ⟨i, rfl⟩ : ∃ i, k = pars + i := ⟨k - pars, by omega⟩
      cases hq : m[i]? with
      | none =>
        unfold renHeap at he
        rw [List.getElem?_append_right (by simp)] at he
        simp [hq] at he
      | some n =>
        rw [renHeap_high hq] at he
        simp only [Option.some.injEq] at he
        rw [← he]
        exact (ren_relE (renN_at hd hge hq) (hgd n)).1
  · refine hh.thaw b (fun hz => h1 (ren_frz hz)) (fun hz => h2 ?_)
    simp only [Gh.ren, hz, Zone.ren]

theorem ren_ext : Ext G w (G.ren pars m) w :=
  ⟨Nat.le_refl _, rfl, rfl, rfl, fun b _ hz => ⟨ren_frz hz, rfl⟩, fun b _ hz => ⟨by simp only [Gh.ren, hz, Zone.ren], rfl⟩⟩

theorem ren_keep : Keep pars G w h (G.ren pars m) w (renHeap pars m h) := by
  have hun : ∀ n, n < pars → unK pars m n = n := fun n hn => by unfold unK; rw [if_pos hn]
  refine ⟨fun n hn => by simp only [Gh.ren, hun n hn], fun n a hn ha hf => ?_, fun n a0 hn ha h0 => ?_⟩
  · rw [renHeap_low hn] at ha
    simp only [Option.some.injEq] at ha
    rw [List.getD_eq_getElem?_getD] at ha
    cases hq : h[n]? with
    | none => rw [hq] at ha; cases ha
    | some e =>
      rw [hq] at ha
      simp only [Option.getD_some] at ha
      cases e with
      | gone => cases ha
      | box cs => cases ha
      | arr a0 =>
        simp only [Ent.renP, Ent.arr.injEq] at ha
        subst ha
        exact ⟨_, rfl, hf, rfl, rfl, by simp only [Gh.ren, hun n hn], by simp only [Gh.ren, hun n hn], rfl⟩
  · refine ⟨a0, ?_, h0, .inl rfl, by simp only [Gh.ren, hun n hn], by simp only [Gh.ren, hun n hn], fun hf b hb hz => ⟨rfl, fun _ => ?_, fun hf' => by rw [hf'] at hf; cases hf⟩⟩
    · rw [renHeap_low hn, List.getD_eq_getElem?_getD, ha]; rfl
    · simp only [Gh.ren, hz, Zone.ren]
      unfold renK
      rw [renN_low hn]; rfl
end
end Go.Sx

/- The interpreter's control, in the machine. -/
set_option linter.unusedVariables false
set_option linter.unusedSimpArgs false
namespace Go.Sx

theorem expand_get {n : Nat} {vs : List TV} {hp : List Ent} {live : List Nat} : (expand n live vs hp).tmps.length = n ∧ ∀ (t : Nat) (x : TV), (expand n live vs hp).tmps[t]? = some x → x = .undef ∨ ∃ i : Nat, live[i]? = some t ∧ vs[i]? = some x := by
  have key : ∀ (l : List (Nat × TV)) (tm : List TV), (l.foldl (fun tm x => tm.set x.1 x.2) tm).length = tm.length ∧
      ∀ (t : Nat) (x : TV), (l.foldl (fun tm x => tm.set x.1 x.2) tm)[t]? = some x → tm[t]? = some x ∨ (t, x) ∈ l := by
    intro l
    induction l with
    | nil => intro tm; exact ⟨rfl, fun t x h => .inl h⟩
    | cons y l ih =>
      intro tm
      simp only [List.foldl_cons]
      obtain ⟨h1, h2⟩ := ih (tm.set y.1 y.2)
      refine ⟨by rw [h1, List.length_set], fun t x h => ?_⟩
      rcases h2 t x h with h | h
      · rw [List.getElem?_set] at h
        by_cases e : y.1 = t
        · subst e
          rw [if_pos rfl] at h
          split at h
          · simp only [Option.some.injEq] at h
            exact .inr (by rw [← h]; exact List.mem_cons_self)
          · cases h
        · rw [if_neg e] at h
          exact .inl h
      · exact .inr (List.mem_cons_of_mem _ h)
  obtain ⟨h1, h2⟩ := key (live.zip vs) (List.replicate n .undef)
  refine ⟨by unfold expand; rw [h1, List.length_replicate], fun t x h => ?_⟩
  rcases h2 t x h with h | h
  · rw [List.getElem?_replicate] at h
    split at h
    · simp only [Option.some.injEq] at h; exact .inl h.symm
    · cases h
  · obtain ⟨i, hi⟩ := List.getElem?_of_mem h
    rw [List.getElem?_zip_eq_some] at hi
    exact .inr ⟨i, hi⟩

section
variable {G : Gh} {w : World} {σ : St} {a : Act}

theorem compact_ok {pars : Nat} {live : List Nat} (hr : RelS G w σ a) :
    ∃ G', RelS G' w (expand σ.tmps.length live (compact pars live σ).1 (compact pars live σ).2) a ∧ Ext G w G' w ∧ Keep pars G w σ.heap G' w (compact pars live σ).2 := by
  unfold compact
  simp only
  have hs := order_spec σ.heap pars ((live.map σ.get).flatMap TV.names)
  generalize orderOf pars σ.heap ((live.map σ.get).flatMap TV.names) = m at hs ⊢
  refine ⟨G.ren pars m, ⟨ren_relH hs.1 hs.2 hr.heap, ?_, fun t x hx => ?_, hr.defers⟩, ren_ext, ren_keep⟩
  · rw [expand_get.1]; exact hr.size
  · have hlt : t < a.tmps.size := by
      rw [hr.size]
      have := (List.getElem?_eq_some_iff.1 hx).1
      rwa [expand_get.1] at this
    refine ⟨a.tmps[t], Array.getElem?_eq_getElem hlt, ?_⟩
    rcases expand_get.2 t x hx with rfl | ⟨i, h1, h2⟩
    · exact trivial
    · rw [List.getElem?_map, List.getElem?_map, h1] at h2
      simp only [Option.map_some, Option.some.injEq] at h2
      rw [← h2]
      have := hr.get t
      simp only [Act.eval, Array.getD_eq_getD_getElem?, Array.getElem?_eq_getElem hlt, Option.getD_some] at this
      exact ren_relTV this
end

end Go.Sx

/- The interpreter is right: control. -/
set_option linter.unusedVariables false
set_option linter.unusedSimpArgs false
namespace Go.Sx

def PX.out : PX → Exit
  | .normal => .normal
  | .exit id => .exit id
  | .ret => .ret

structure Inv (E : Cfg) (G0 : Gh) (w0 : World) (h0 : List Ent) (G : Gh) (w : World) (σ : St) (a : Act) : Prop where
  rel : RelS G w σ a
  len : σ.tmps.length = E.n
  ext : Ext G0 w0 G w
  keep : Keep E.pars G0 w0 h0 G w σ.heap

abbrev KT (β : Type) := PX → St → Option β
abbrev QT := Exit → Act → World → Prop

/-- A loop, from its round's begin. -/
def LoopW (P : Program) (c : Code) (Q : QT) (a : Act) (w : World) : Prop :=
  ∀ (b : Frame) (k : List Item) (cs : List Frame), ∃ e a' w', Q e a' w' ∧ Arrives P (lone (b.at a (.code c :: .inLoop c :: k)) cs w) b k cs e a' w'

def PlaceW (P : Program) : Code → QT → Act → World → Prop
  | .loop c, Q, a, w => LoopW P c Q a w
  | c, Q, a, w => c.wp P Q a w

theorem wp_loopW {P : Program} {c : Code} {Q : QT} {a : Act} {w : World} (h : LoopW P c Q a w) : (Code.loop c).wp P Q a w := by
  intro b k cs
  obtain ⟨e, a', w', hq, harr⟩ := h b k cs
  exact ⟨e, a', w', hq, .of_steps (.one step_loop) harr⟩

theorem loopW_round {P : Program} {c : Code} {Q : QT} {a : Act} {w : World} (h : c.wp P (Exit.then (LoopW P c Q) Q) a w) : LoopW P c Q a w := by
  intro b k cs
  obtain ⟨e, a₁, w₁, hq, harr⟩ := h b (.inLoop c :: k) cs
  cases e with
  | normal =>
    obtain ⟨e₂, a₂, w₂, hq₂, harr₂⟩ := hq b k cs
    exact ⟨e₂, a₂, w₂, hq₂, .of_steps (Steps.trans harr (.one step_inLoop)) harr₂⟩
  | exit id => exact ⟨_, a₁, w₁, hq, .pass (x := .inLoop c) rfl (fun _ _ => .inl (by simp)) harr⟩
  | goto l => exact ⟨_, a₁, w₁, hq, .pass (x := .inLoop c) rfl (fun _ _ => .inl (by simp)) harr⟩
  | ret => exact ⟨_, a₁, w₁, hq, .pass (x := .inLoop c) rfl (fun _ _ => .inl (by simp)) harr⟩
  | panic ch => exact ⟨_, a₁, w₁, hq, .pass (x := .inLoop c) rfl (fun _ _ => .inl (by simp)) harr⟩
  | outgrown => exact ⟨_, a₁, w₁, hq, .pass (x := .inLoop c) rfl (fun _ _ => .inl (by simp)) harr⟩

def keyAt (cut : Nat → Bool) (cur : Nat) : Code → Option Nat
  | .loop _ => some (2 * cur)
  | .region id _ _ => bif cut id then some (2 * id + 1) else none
  | _ => none

/-- The places, each with what comes behind it in the machine. -/
inductive AtQ (P : Program) (body : Code) (Q0 : QT) : Nat → Code → QT → Prop where
  | root : AtQ P body Q0 0 body Q0
  | seqL {cur : Nat} {a b : Code} {Q : QT} (h : AtQ P body Q0 cur (.seq a b) Q) : AtQ P body Q0 cur a (Exit.then (b.wp P Q) Q)
  | seqR {cur : Nat} {a b : Code} {Q : QT} (h : AtQ P body Q0 cur (.seq a b) Q) : AtQ P body Q0 cur b Q
  | condL {cur : Nat} {c : Operand} {a b : Code} {Q : QT} (h : AtQ P body Q0 cur (.cond c a b) Q) : AtQ P body Q0 cur a Q
  | condR {cur : Nat} {c : Operand} {a b : Code} {Q : QT} (h : AtQ P body Q0 cur (.cond c a b) Q) : AtQ P body Q0 cur b Q
  | block {cur id : Nat} {c : Code} {Q : QT} (h : AtQ P body Q0 cur (.block id c) Q) : AtQ P body Q0 id c (Exit.inBlock id Q)
  | loop {cur : Nat} {c : Code} {Q : QT} (h : AtQ P body Q0 cur (.loop c) Q) : AtQ P body Q0 cur c (Exit.then (LoopW P c Q) Q)

section
variable {β : Type} (E : Env β) (body : Code) (K0 : KT β) (Q0 : QT)

/-- The places of a function's code, each with what comes behind it. -/
inductive At : Nat → Code → KT β → QT → Prop where
  | root : At 0 body K0 Q0
  | seqL {cur : Nat} {a b : Code} {K : KT β} {Q : QT} (h : At cur (.seq a b) K Q) : At cur a (seqK (fun σ => pev E cur b σ K) K) (Exit.then (b.wp E.P Q) Q)
  | seqR {cur : Nat} {a b : Code} {K : KT β} {Q : QT} (h : At cur (.seq a b) K Q) : At cur b K Q
  | condL {cur : Nat} {c : Operand} {a b : Code} {K : KT β} {Q : QT} (h : At cur (.cond c a b) K Q) : At cur a K Q
  | condR {cur : Nat} {c : Operand} {a b : Code} {K : KT β} {Q : QT} (h : At cur (.cond c a b) K Q) : At cur b K Q
  | block {cur id : Nat} {c : Code} {K : KT β} {Q : QT} (h : At cur (.block id c) K Q) : At id c (blockK id K) (Exit.inBlock id Q)
  | loop {cur : Nat} {c : Code} {K : KT β} {Q : QT} (h : At cur (.loop c) K Q) : At cur c (seqK (goto E (2 * cur)) K) (Exit.then (LoopW E.P c Q) Q)
end

section
variable {β : Type} {E : Env β} {body : Code} {K0 : KT β} {Q0 : QT} {G0 : Gh} {w0 : World} {h0 : List Ent} {r : β}

theorem kont_mem {key : Nat} : ∀ (c : Code) (cur : Nat) (K : KT β) (x : Code × KT β), kont E key cur c K = some x → key ∈ places E.cut cur c := by
  intro c
  induction c with
  | seq a b iha ihb =>
    intro cur K x h
    simp only [kont] at h
    simp only [places, List.mem_append]
    split at h
    · rename_i y hy; exact .inl (iha _ _ _ hy)
    · exact .inr (ihb _ _ _ h)
  | cond c a b iha ihb =>
    intro cur K x h
    simp only [kont] at h
    simp only [places, List.mem_append]
    split at h
    · rename_i y hy; exact .inl (iha _ _ _ hy)
    · exact .inr (ihb _ _ _ h)
  | block i c ih =>
    intro cur K x h
    exact ih _ _ _ h
  | loop c ih =>
    intro cur K x h
    simp only [kont] at h
    simp only [places, List.mem_cons]
    cases hb : Nat.beq key (2 * cur) with
    | true => exact .inl (Nat.eq_of_beq_eq_true hb)
    | false => rw [hb] at h; exact .inr (ih _ _ _ h)
  | region id ops d =>
    intro cur K x h
    simp only [kont] at h
    cases hb : (E.cut id && Nat.beq key (2 * id + 1)) with
    | false => rw [hb] at h; cases h
    | true =>
      simp only [Bool.and_eq_true] at hb
      simp only [places, hb.1, cond_true, List.mem_singleton]
      exact Nat.eq_of_beq_eq_true hb.2
  | _ => intro cur K x h; cases h

theorem mem_kont {key : Nat} : ∀ (c : Code) (cur : Nat) (K : KT β), key ∈ places E.cut cur c → ∃ x, kont E key cur c K = some x := by
  intro c
  induction c with
  | seq a b iha ihb =>
    intro cur K h
    simp only [places, List.mem_append] at h
    simp only [kont]
    split
    · exact ⟨_, rfl⟩
    · rename_i hn
      rcases h with h | h
      · obtain ⟨x, hx⟩ := iha cur (seqK (fun σ => pev E cur b σ K) K) h
        rw [hn] at hx; cases hx
      · exact ihb _ _ h
  | cond c a b iha ihb =>
    intro cur K h
    simp only [places, List.mem_append] at h
    simp only [kont]
    split
    · exact ⟨_, rfl⟩
    · rename_i hn
      rcases h with h | h
      · obtain ⟨x, hx⟩ := iha cur K h
        rw [hn] at hx; cases hx
      · exact ihb _ _ h
  | block i c ih => intro cur K h; exact ih _ _ h
  | loop c ih =>
    intro cur K h
    simp only [places, List.mem_cons] at h
    simp only [kont]
    cases hb : Nat.beq key (2 * cur) with
    | true => exact ⟨_, rfl⟩
    | false =>
      rcases h with h | h
      · subst h; simp at hb
      · exact ih _ _ h
  | region id ops d =>
    intro cur K h
    simp only [places] at h
    cases hc : E.cut id with
    | false => rw [hc] at h; cases h
    | true =>
      rw [hc] at h
      simp only [cond_true, List.mem_singleton] at h
      subst h
      simp [kont, hc]
  | _ => intro cur K h; cases h

theorem At.unique (hnd : (places E.cut 0 body).Nodup) {cur : Nat} {c : Code} {K : KT β} {Q : QT} (h : At E body K0 Q0 cur c K Q) :
    (places E.cut cur c).Nodup ∧ ∀ key ∈ places E.cut cur c, kont E key 0 body K0 = kont E key cur c K := by
  induction h with
  | root => exact ⟨hnd, fun _ _ => rfl⟩
  | @seqL cur a b K Q h ih =>
    obtain ⟨h1, h2⟩ := ih
    simp only [places] at h1 h2
    refine ⟨(List.nodup_append.1 h1).1, fun key hk => ?_⟩
    rw [h2 key (List.mem_append_left _ hk)]
    simp only [kont]
    obtain ⟨x, hx⟩ := mem_kont a cur (seqK (fun σ => pev E cur b σ K) K) hk
    rw [hx]
  | @seqR cur a b K Q h ih =>
    obtain ⟨h1, h2⟩ := ih
    simp only [places] at h1 h2
    have hd := List.nodup_append.1 h1
    refine ⟨hd.2.1, fun key hk => ?_⟩
    rw [h2 key (List.mem_append_right _ hk)]
    simp only [kont]
    split
    · rename_i y hy
      exact absurd rfl (hd.2.2 key (kont_mem _ _ _ _ hy) key hk)
    · rfl
  | @condL cur c a b K Q h ih =>
    obtain ⟨h1, h2⟩ := ih
    simp only [places] at h1 h2
    refine ⟨(List.nodup_append.1 h1).1, fun key hk => ?_⟩
    rw [h2 key (List.mem_append_left _ hk)]
    simp only [kont]
    obtain ⟨x, hx⟩ := mem_kont a cur K hk
    rw [hx]
  | @condR cur c a b K Q h ih =>
    obtain ⟨h1, h2⟩ := ih
    simp only [places] at h1 h2
    have hd := List.nodup_append.1 h1
    refine ⟨hd.2.1, fun key hk => ?_⟩
    rw [h2 key (List.mem_append_right _ hk)]
    simp only [kont]
    split
    · rename_i y hy
      exact absurd rfl (hd.2.2 key (kont_mem _ _ _ _ hy) key hk)
    · rfl
  | @block cur id c K Q h ih => exact ih
  | @loop cur c K Q h ih =>
    obtain ⟨h1, h2⟩ := ih
    simp only [places] at h1 h2
    have hd := List.nodup_cons.1 h1
    refine ⟨hd.2, fun key hk => ?_⟩
    rw [h2 key (List.mem_cons_of_mem _ hk)]
    have hne : Nat.beq key (2 * cur) = false := by
      cases hb : Nat.beq key (2 * cur) with
      | false => rfl
      | true => exact absurd (by rw [← Nat.eq_of_beq_eq_true hb]; exact hk) hd.1
    simp only [kont, hne, cond_false]

theorem At.kont (hnd : (places E.cut 0 body).Nodup) {cur key : Nat} {c : Code} {K : KT β} {Q : QT} (h : At E body K0 Q0 cur c K Q) (hk : keyAt E.cut cur c = some key) : kont E key 0 body K0 = some (c, K) := by
  have hu := (h.unique hnd).2 key
  cases c with
  | loop c =>
    simp only [keyAt, Option.some.injEq] at hk
    subst hk
    rw [hu (by simp [places])]
    simp [Sx.kont]
  | region id ops d =>
    simp only [keyAt] at hk
    cases hc : E.cut id with
    | false => rw [hc] at hk; cases hk
    | true =>
      rw [hc] at hk
      simp only [cond_true, Option.some.injEq] at hk
      subst hk
      rw [hu (by simp [places, hc])]
      simp [Sx.kont, hc]
  | _ => cases hk

theorem At.q {cur : Nat} {c : Code} {K : KT β} {Q : QT} (h : At E body K0 Q0 cur c K Q) : AtQ E.P body Q0 cur c Q := by
  induction h with
  | root => exact .root
  | seqL _ ih => exact ih.seqL
  | seqR _ ih => exact ih.seqR
  | condL _ ih => exact ih.condL
  | condR _ ih => exact ih.condR
  | block _ ih => exact ih.block
  | loop _ ih => exact ih.loop

theorem AtQ.at {cur : Nat} {c : Code} {Q : QT} (h : AtQ E.P body Q0 cur c Q) : ∃ K, At E body K0 Q0 cur c K Q := by
  induction h with
  | root => exact ⟨_, .root⟩
  | seqL _ ih => obtain ⟨K, h⟩ := ih; exact ⟨_, h.seqL⟩
  | seqR _ ih => obtain ⟨K, h⟩ := ih; exact ⟨_, h.seqR⟩
  | condL _ ih => obtain ⟨K, h⟩ := ih; exact ⟨_, h.condL⟩
  | condR _ ih => obtain ⟨K, h⟩ := ih; exact ⟨_, h.condR⟩
  | block _ ih => obtain ⟨K, h⟩ := ih; exact ⟨_, h.block⟩
  | loop _ ih => obtain ⟨K, h⟩ := ih; exact ⟨_, h.loop⟩

/-! what a place comes to -/
def HGood (C : Cfg) (body : Code) (Q0 : QT) (G0 : Gh) (w0 : World) (h0 : List Ent) (key : Nat) (vs : List TV) (hp : List Ent) : Prop :=
  ∀ cur c Q, AtQ C.P body Q0 cur c Q → keyAt C.cut cur c = some key → ∀ G w a, Inv C G0 w0 h0 G w (expand C.n (C.live key) vs hp) a → PlaceW C.P c Q a w

def Cont (C : Cfg) (G0 : Gh) (w0 : World) (h0 : List Ent) (r : β) (K : KT β) (Q : QT) : Prop := ∀ e σ G w a, K e σ = some r → Inv C G0 w0 h0 G w σ a → Q e.out a w

theorem Inv.next {G G' : Gh} {w w' : World} {σ σ' : St} {a a' : Act} (h : Inv E.toCfg G0 w0 h0 G w σ a) (h1 : RelS G' w' σ' a') (h2 : σ'.tmps.length = σ.tmps.length) (h3 : Ext G w G' w') (h4 : Keep E.pars G w σ.heap G' w' σ'.heap) : Inv E.toCfg G0 w0 h0 G' w' σ' a' :=
  ⟨h1, h2.trans h.len, h.ext.trans h3, h.keep.trans h.ext.size h3 h4⟩

theorem Inv.compact {G : Gh} {w : World} {σ : St} {a : Act} (h : Inv E.toCfg G0 w0 h0 G w σ a) (live : List Nat) :
    ∃ G', Inv E.toCfg G0 w0 h0 G' w (expand E.n live (compact E.pars live σ).1 (compact E.pars live σ).2) a := by
  obtain ⟨G', h1, h2, h3⟩ := compact_ok (pars := E.pars) (live := live) h.rel
  rw [h.len] at h1
  exact ⟨G', h1, expand_get.1, h.ext.trans h2, h.keep.trans h.ext.size h2 h3⟩

theorem pev_wp (hO : OOk E.P E.O) (hH : ∀ key vs hp, E.H key vs hp = some r → HGood E.toCfg body Q0 G0 w0 h0 key vs hp) : ∀ (c : Code) (cur : Nat) (K : KT β) (Q : QT), At E body K0 Q0 cur c K Q → Cont E.toCfg G0 w0 h0 r K Q →
    ∀ (σ : St) (G : Gh) (w : World) (a : Act), Inv E.toCfg G0 w0 h0 G w σ a → pev E cur c σ K = some r → c.wp E.P Q a w := by
  intro c
  induction c with
  | skip => intro cur K Q hat hk σ G w a hi h; exact wp_skip (hk .normal σ G w a h hi)
  | exit id => intro cur K Q hat hk σ G w a hi h; exact wp_exit (hk (.exit id) σ G w a h hi)
  | ret => intro cur K Q hat hk σ G w a hi h; exact wp_ret (hk .ret σ G w a h hi)
  | seq x y ihx ihy =>
    intro cur K Q hat hk σ G w a hi h
    refine wp_seq (ihx cur (seqK (fun σ => pev E cur y σ K) K) _ hat.seqL (fun e σ' G' w' a' he hi' => ?_) σ G w a hi h)
    cases e with
    | normal => exact ihy cur K Q hat.seqR hk σ' G' w' a' hi' he
    | exit id => exact hk (.exit id) σ' G' w' a' he hi'
    | ret => exact hk .ret σ' G' w' a' he hi'
  | cond o x y ihx ihy =>
    intro cur K Q hat hk σ G w a hi h
    simp only [pev] at h
    split at h
    · rename_i t ho
      have hv := hi.rel.opVal o
      rw [ho] at hv
      have hv := bv_bool hv
      cases t with
      | true => exact wp_cond_true hv (ihx cur K Q hat.condL hk σ G w a hi h)
      | false => exact wp_cond_false hv (ihy cur K Q hat.condR hk σ G w a hi h)
    · cases h
  | block id c ih =>
    intro cur K Q hat hk σ G w a hi h
    refine wp_block (ih id (blockK id K) _ hat.block (fun e σ' G' w' a' he hi' => ?_) σ G w a hi h)
    cases e with
    | normal => exact hk .normal σ' G' w' a' he hi'
    | ret => exact hk .ret σ' G' w' a' he hi'
    | exit i =>
      simp only [blockK] at he
      simp only [PX.out, Exit.inBlock]
      cases hb : Nat.beq i id with
      | true =>
        rw [hb] at he
        rw [if_pos (Nat.eq_of_beq_eq_true hb)]
        exact hk .normal σ' G' w' a' he hi'
      | false =>
        rw [hb] at he
        rw [if_neg (Nat.ne_of_beq_eq_false hb)]
        exact hk (.exit i) σ' G' w' a' he hi'
  | loop c ih =>
    intro cur K Q hat hk σ G w a hi h
    obtain ⟨G', hi'⟩ := hi.compact (E.live (2 * cur))
    exact wp_loopW (hH _ _ _ h cur (.loop c) Q hat.q rfl G' w a hi')
  | region id ops d =>
    intro cur K Q hat hk σ G w a hi h
    simp only [pev] at h
    cases hc : E.cut id with
    | true =>
      rw [hc] at h
      obtain ⟨G', hi'⟩ := hi.compact (E.live (2 * id + 1))
      exact hH _ _ _ h cur _ Q hat.q (by simp [keyAt, hc]) G' w a hi'
    | false =>
      rw [hc] at h
      exact region_wp hO hi.rel h fun σ' G' w' a' he h1 h2 h3 h4 => hk .normal σ' G' w' a' he (hi.next h2 h1 h3 h4)
  | _ => intro cur K Q hat hk σ G w a hi h; cases h

theorem At.cont (hO : OOk E.P E.O) (hH : ∀ key vs hp, E.H key vs hp = some r → HGood E.toCfg body Q0 G0 w0 h0 key vs hp) (hroot : Cont E.toCfg G0 w0 h0 r K0 Q0) {cur : Nat} {c : Code} {K : KT β} {Q : QT} (hat : At E body K0 Q0 cur c K Q) : Cont E.toCfg G0 w0 h0 r K Q := by
  induction hat with
  | root => exact hroot
  | @seqL cur x y K Q hat ih =>
    intro e σ G w a he hi
    cases e with
    | normal => exact pev_wp hO hH y cur K Q hat.seqR ih σ G w a hi he
    | exit id => exact ih (.exit id) σ G w a he hi
    | ret => exact ih .ret σ G w a he hi
  | seqR _ ih => exact ih
  | condL _ ih => exact ih
  | condR _ ih => exact ih
  | @block cur id c K Q hat ih =>
    intro e σ G w a he hi
    cases e with
    | normal => exact ih .normal σ G w a he hi
    | ret => exact ih .ret σ G w a he hi
    | exit i =>
      simp only [blockK] at he
      simp only [PX.out, Exit.inBlock]
      cases hb : Nat.beq i id with
      | true => rw [hb] at he; rw [if_pos (Nat.eq_of_beq_eq_true hb)]; exact ih .normal σ G w a he hi
      | false => rw [hb] at he; rw [if_neg (Nat.ne_of_beq_eq_false hb)]; exact ih (.exit i) σ G w a he hi
  | @loop cur c K Q hat ih =>
    intro e σ G w a he hi
    cases e with
    | normal =>
      obtain ⟨G', hi'⟩ := hi.compact (E.live (2 * cur))
      exact hH _ _ _ he cur (.loop c) Q hat.q rfl G' w a hi'
    | exit id => exact ih (.exit id) σ G w a he hi
    | ret => exact ih .ret σ G w a he hi

theorem goOn_good (hO : OOk E.P E.O) (hH : ∀ key vs hp, E.H key vs hp = some r → HGood E.toCfg body Q0 G0 w0 h0 key vs hp) (hroot : Cont E.toCfg G0 w0 h0 r K0 Q0) (hnd : (places E.cut 0 body).Nodup) {key : Nat} {x : Code × KT β} (hk : kont E key 0 body K0 = some x)
    {vs : List TV} {hp : List Ent} (h : goOn E key (expand E.n (E.live key) vs hp) x = some r) : HGood E.toCfg body Q0 G0 w0 h0 key vs hp := by
  intro cur c Q hatq hkey G w a hi
  obtain ⟨K, hat⟩ := AtQ.at (E := E) (K0 := K0) hatq
  have := hat.kont hnd hkey
  rw [hk] at this
  simp only [Option.some.injEq] at this
  subst this
  have hcont := hat.cont hO hH hroot
  cases c with
  | loop c =>
    simp only [keyAt, Option.some.injEq] at hkey
    subst hkey
    refine loopW_round (pev_wp hO hH c cur (seqK (goto E (2 * cur)) K) _ hat.loop (hat.loop.cont hO hH hroot) _ G w a hi ?_)
    simp only [goOn] at h
    rw [Nat.mul_div_cancel_left _ (by decide : 0 < 2)] at h
    exact h
  | region id ops d =>
    simp only [goOn] at h
    exact region_wp hO hi.rel h fun σ' G' w' a' he h1 h2 h3 h4 => hcont .normal σ' G' w' a' he (hi.next h2 h1 h3 h4)
  | _ => cases hkey
end
end Go.Sx

/- The interpreter is right: a function's contract. -/
set_option linter.unusedVariables false
set_option linter.unusedSimpArgs false
namespace Go.Sx

section
variable {G : Gh} {w : World} {σ : St} {a : Act} {P : Program}

def readVar (a : Act) : ResultVar → Sem Value
  | .tmp t => pure (a.tmps.getD t undef)
  | .cell t ty => do loadVar ty (← asAddr (a.tmps.getD t undef))

theorem result_run (hr : RelS G w σ a) {x : ResultVar} {c : CV} (h : resultTV P σ x = some c) : ∃ v, (readVar a x).run P w = .ok v w ∧ RelCV G w σ.heap v c := by
  cases x with
  | tmp t =>
    simp only [resultTV] at h
    have hv := hr.get t
    split at h
    · rename_i c' hc
      rw [hc] at hv
      simp only [Option.some.injEq] at h
      subst h
      exact ⟨_, rfl, hv⟩
    · cases h
  | cell t ty =>
    simp only [resultTV] at h
    have hv := hr.get t
    split at h
    · rename_i n off hc
      rw [hc] at hv
      obtain ⟨cs, hcs, he⟩ := hv
      rw [List.getD_eq_getElem?_getD, hcs] at h
      simp only [Option.getD_some] at h
      obtain ⟨_, vs, hb, _, hcl⟩ := hr.heap.ent n _ hcs
      split at h
      · rename_i g δ hp
        obtain ⟨v, y, rfl, hrun, hrel⟩ := pick_ok hb hcl hp
        simp only at h
        split at h
        · rename_i c' 
          simp only [Option.some.injEq] at h
          subst h
          refine ⟨v, ?_, hrel⟩
          simp only [Act.eval] at he
          simp [readVar, he, asAddr, hrun]
        · cases h
      · cases h
    · cases h

theorem results_list (hr : RelS G w σ a) : ∀ (l : List ResultVar) (cs : List CV), resultsTV P σ l = some cs → ∃ vs : List Value, (l.mapM (readVar a)).run P w = .ok vs w ∧ vs.length = cs.length ∧ ∀ (i : Nat) (x : CV), cs[i]? = some x → ∃ v, vs[i]? = some v ∧ RelCV G w σ.heap v x
  | [], cs, h => by
    simp only [resultsTV, Option.some.injEq] at h
    subst h
    exact ⟨[], rfl, rfl, fun i x hi => by simp at hi⟩
  | x :: l, cs, h => by
    simp only [resultsTV] at h
    split at h
    · rename_i c cs' h1 h2
      simp only [Option.some.injEq] at h
      subst h
      obtain ⟨v, v1, v2⟩ := result_run hr h1
      obtain ⟨vs, u1, u2, u3⟩ := results_list hr l cs' h2
      refine ⟨v :: vs, by simp [List.mapM_cons, v1, u1], by simp [u2], fun i y hi => ?_⟩
      cases i with
      | zero =>
        simp only [List.getElem?_cons_zero, Option.some.injEq] at hi
        subst hi
        exact ⟨v, by simp, v2⟩
      | succ i =>
        simp only [List.getElem?_cons_succ] at hi
        obtain ⟨u, k1, k2⟩ := u3 i y hi
        exact ⟨u, by simpa using k1, k2⟩
    · cases h

def packTV : List CV → TV
  | [r] => .c r
  | rs => .tup rs

theorem results_ok (hr : RelS G w σ a) {fn : Func} {cs : List CV} (h : resultsTV P σ fn.results.toList = some cs) : ∃ v, (results fn a.tmps).run P w = .ok v w ∧ RelTV G w σ.heap v (packTV cs) := by
  obtain ⟨vs, h1, h2, h3⟩ := results_list hr _ _ h
  have hm : (fn.results.mapM (readVar a)).run P w = .ok vs.toArray w := by
    rw [Array.mapM_eq_mapM_toList]
    simp [h1]
  refine ⟨if h : vs.toArray.size = 1 then vs.toArray[0] else .tuple vs.toArray, ?_, ?_⟩
  · have : results fn a.tmps = (do
        let vs ← fn.results.mapM (readVar a)
        pure (if h : vs.size = 1 then vs[0] else .tuple vs)) := by
      unfold results
      congr 1
    rw [this]
    simp only [Sem.run_bind, hm, Result.andThen_ok]
    rfl
  · rcases cs with _ | ⟨c, _ | ⟨d, cs⟩⟩
    · have hv : vs = [] := List.length_eq_zero_iff.1 h2
      subst hv
      exact ⟨#[], by simp, rfl, fun i x hi => by simp at hi⟩
    · obtain ⟨v, k1, k2⟩ := h3 0 c rfl
      obtain ⟨u, rfl⟩ := List.length_eq_one_iff.1 h2
      simp only [List.getElem?_cons_zero, Option.some.injEq] at k1
      subst k1
      exact k2
    · have : ¬ vs.toArray.size = 1 := by simp [h2]
      rw [dif_neg this]
      exact ⟨vs.toArray, rfl, by simpa using h2, fun i x hi => by obtain ⟨v, k1, k2⟩ := h3 i x hi; exact ⟨v, by simpa using k1, k2⟩⟩
end

section
variable {G0 : Gh} {w0 : World} {h0 : List Ent} {out : Out}

/-- What a contract says of a call's end. -/
def Left (G0 : Gh) (w0 : World) (h0 : List Ent) (out : Out) (e : Ending) (w' : World) : Prop :=
  ∃ v G', e = .returned v ∧ Ext G0 w0 G' w' ∧ RelH G' w' out.2 ∧ RelTV G' w' out.2 v out.1 ∧ Keep h0.length G0 w0 h0 G' w' out.2

theorem finish_ok {E : Cfg} {fn : Func} (hp : E.pars = h0.length) : Cont E G0 w0 h0 out (finish E.P fn.results E.pars) (bodyPost E.P fn (Left G0 w0 h0 out)) := by
  intro e σ G w a h hi
  have key : ∀ rs, resultsTV E.P σ fn.results.toList = some rs → some ((packTV rs).ren E.pars (orderOf E.pars σ.heap (packTV rs).names), renHeap E.pars (orderOf E.pars σ.heap (packTV rs).names) σ.heap) = some out →
      a.defers = [] ∧ ∃ v, (results fn a.tmps).run E.P w = .ok v w ∧ Left G0 w0 h0 out (.returned v) w := by
    intro rs hrs hout
    simp only [Option.some.injEq] at hout
    subst hout
    obtain ⟨v, hv, hrel⟩ := results_ok hi.rel hrs
    have hs := order_spec σ.heap E.pars (packTV rs).names
    refine ⟨hi.rel.defers, v, hv, v, G.ren E.pars (orderOf E.pars σ.heap (packTV rs).names), rfl, hi.ext.trans ren_ext, ren_relH hs.1 hs.2 hi.rel.heap, ren_relTV hrel, ?_⟩
    rw [← hp]
    exact hi.keep.trans hi.ext.size ren_ext ren_keep
  have key2 : (match resultsTV E.P σ fn.results.toList with
      | none => none
      | some rs => some ((packTV rs).ren E.pars (orderOf E.pars σ.heap (packTV rs).names), renHeap E.pars (orderOf E.pars σ.heap (packTV rs).names) σ.heap)) = some out →
      a.defers = [] ∧ ∃ v, (results fn a.tmps).run E.P w = .ok v w ∧ Left G0 w0 h0 out (.returned v) w := by
    intro h
    split at h
    · cases h
    · rename_i rs hrs
      exact key rs hrs h
  cases e with
  | exit id => cases h
  | normal => exact key2 h
  | ret => exact key2 h

/-- The end of a function, its results taken out. -/
def fin {β : Type} (P : Program) (results : Array ResultVar) (pars : Nat) (dec : Out → Option β) (e : PX) (σ : St) : Option β :=
  match finish P results pars e σ with
  | some out => dec out
  | none => none

def LeftR {β : Type} (G0 : Gh) (w0 : World) (h0 : List Ent) (dec : Out → Option β) (r : β) (e : Ending) (w' : World) : Prop := ∃ out, dec out = some r ∧ Left G0 w0 h0 out e w'

theorem fin_ok {β : Type} {C : Cfg} {fn : Func} {dec : Out → Option β} {r : β} (hp : C.pars = h0.length) : Cont C G0 w0 h0 r (fin C.P fn.results C.pars dec) (bodyPost C.P fn (LeftR G0 w0 h0 dec r)) := by
  intro e σ G w a h hi
  unfold fin at h
  split at h
  · rename_i out ho
    have := finish_ok (fn := fn) hp e σ G w a ho hi
    cases e with
    | exit id => exact this.elim
    | normal => obtain ⟨h1, v, h2, h3⟩ := this; exact ⟨h1, v, h2, out, h, h3⟩
    | ret => obtain ⟨h1, v, h2, h3⟩ := this; exact ⟨h1, v, h2, out, h, h3⟩
  · cases h

/-- A function's contract, out of the interpreter's run. -/
theorem con_of {β : Type} {E : Env β} {f : FuncId} {fn : Func} {c : Code} {args : List TV} {dec : Out → Option β} {enc : β → Out} {r : β} (hf : E.P.funcs[f]? = some fn) (hrn : (fn.name == "runtime.NumGoroutine") = false) (hb : fn.body = some c)
    (hp : E.pars = h0.length) (hn : E.n = fn.ntmps) (hlen : args.length ≤ fn.ntmps) (hO : OOk E.P E.O)
    (hH : ∀ G0 w0 key vs hp, E.H key vs hp = some r → HGood E.toCfg c (bodyPost E.P fn (LeftR G0 w0 h0 dec r)) G0 w0 h0 key vs hp)
    (hdec : ∀ out G0 w0 G' w', dec out = some r → Keep h0.length G0 w0 h0 G' w' out.2 → enc r = out)
    (hev : pev E 0 c (enter fn.ntmps args h0) (fin E.P fn.results E.pars dec) = some r) : Con E.P f h0 args (enc r) := by
  refine ⟨⟨fn, hf, hrn, by rw [hb]; rfl⟩, fun G w vs hh hargs => ?_⟩
  have key : Calls E.P f vs w (LeftR G w h0 dec r) := by
    refine calls_of_wp hf hb ?_
    refine pev_wp hO (hH G w) c 0 _ _ .root (fin_ok hp) _ G w _ ⟨⟨hh, ?_, fun t x hx => ?_, rfl⟩, ?_, Ext.refl _ _, Keep.refl _ _ _ _⟩ hev
    · simp [enter, hargs.1]
    · simp only [enter] at hx
      by_cases ht : t < args.length
      · rw [List.getElem?_append_left ht] at hx
        obtain ⟨v, v1, v2⟩ := hargs.2 t x hx
        exact ⟨v, by simp only; rw [Array.getElem?_append_left (by rw [hargs.1]; exact ht)]; exact v1, v2⟩
      · rw [List.getElem?_append_right (by omega), List.getElem?_replicate] at hx
        split at hx
        · rename_i hlt
          simp only [Option.some.injEq] at hx
          subst hx
          refine ⟨undef, ?_, trivial⟩
          simp only
          rw [Array.getElem?_append_right (by rw [hargs.1]; omega), Array.getElem?_replicate, if_pos (by rw [hargs.1]; exact hlt)]
        · cases hx
    · simp only [enter, List.length_append, List.length_replicate]; omega
  refine key.mono fun e w' he => ?_
  obtain ⟨out, ho, v, G', h1, h2, h3, h4, h5⟩ := he
  have := hdec out _ _ _ _ ho h5
  subst this
  exact ⟨v, G', h1, h2, h3, h4, h5⟩
end
end Go.Sx

/- Shapes: states whose data are open. -/
set_option linter.unusedVariables false
set_option linter.unusedSimpArgs false
namespace Go.Sx

inductive Hole where
  | int (k : IntKind) | bool | str | nat | rows (r : Row)

@[reducible] def Hole.den : Hole → Type
  | .int _ => Int | .bool => Bool | .str => ByteArray | .nat => Nat | .rows r => List r.den

@[reducible] def HL : List Hole → Type
  | [] => Unit
  | h :: l => h.den × HL l

inductive CSh where
  | int (k : IntKind) | bool | str | ref (n : Nat) | ptr (n off : Nat)

inductive BSh where
  | undef | nilp | int (k : IntKind) | bool | str | ref (n : Nat) | sub (n : Nat) | lit (r : Row) | ptrB (n off : Nat) | ptrE (n j : Nat) | emp (r : Row) | fn (f : FuncId) (caps : List CSh)

@[reducible] def CSh.holes (rest : List Hole) : CSh → List Hole
  | .int k => .int k :: rest | .bool => .bool :: rest | .str => .str :: rest | .ref _ | .ptr _ _ => rest
@[reducible] def CSh.holesL (rest : List Hole) : List CSh → List Hole
  | [] => rest
  | s :: l => s.holes (CSh.holesL rest l)

def CSh.dec {rest : List Hole} (x : HL rest) : (s : CSh) → CapV → Option (HL (s.holes rest))
  | .int k, .int l n => if k = l then some (n, x) else none
  | .bool, .bool b => some (b, x)
  | .str, .str s => some (s, x)
  | .ref n, .ref m => bif Nat.beq n m then some x else none
  | .ptr n o, .ptr m p => bif Nat.beq n m && Nat.beq o p then some x else none
  | _, _ => none
def CSh.decL {rest : List Hole} (x : HL rest) : (l : List CSh) → List CapV → Option (HL (CSh.holesL rest l))
  | [], [] => some x
  | s :: l, c :: cs => match CSh.decL x l cs with
    | some y => s.dec y c
    | none => none
  | _, _ => none
def CSh.enc {rest : List Hole} : (s : CSh) → HL (s.holes rest) → CapV × HL rest
  | .int k, y => (.int k y.1, y.2)
  | .bool, y => (.bool y.1, y.2)
  | .str, y => (.str y.1, y.2)
  | .ref n, y => (.ref n, y)
  | .ptr n o, y => (.ptr n o, y)
def CSh.encL {rest : List Hole} : (l : List CSh) → HL (CSh.holesL rest l) → List CapV × HL rest
  | [], y => ([], y)
  | s :: l, y => let c := s.enc y; let cs := CSh.encL l c.2; (c.1 :: cs.1, cs.2)

theorem CSh.ok {rest : List Hole} {x : HL rest} {s : CSh} {c : CapV} {y : HL (s.holes rest)} (h : s.dec x c = some y) : s.enc y = (c, x) := by
  cases s <;> cases c <;> simp only [CSh.dec, reduceCtorEq] at h
  case int.int k l n =>
    split at h
    · rename_i e; subst e; simp only [Option.some.injEq] at h; subst h; rfl
    · cases h
  case bool.bool b => simp only [Option.some.injEq] at h; subst h; rfl
  case str.str b => simp only [Option.some.injEq] at h; subst h; rfl
  case ref.ref n m =>
    cases e : Nat.beq n m with
    | false => rw [e] at h; cases h
    | true => rw [e] at h; have := Nat.eq_of_beq_eq_true e; subst this; simp only [cond_true, Option.some.injEq] at h; subst h; rfl
  case ptr.ptr n o m p =>
    cases e : (Nat.beq n m && Nat.beq o p) with
    | false => rw [e] at h; cases h
    | true =>
      rw [e] at h
      simp only [Bool.and_eq_true] at e
      have e1 := Nat.eq_of_beq_eq_true e.1
      have e2 := Nat.eq_of_beq_eq_true e.2
      subst e1 e2; simp only [cond_true, Option.some.injEq] at h; subst h; rfl

theorem CSh.okL {rest : List Hole} {x : HL rest} : ∀ {l : List CSh} {cs : List CapV} {y : HL (CSh.holesL rest l)}, CSh.decL x l cs = some y → CSh.encL l y = (cs, x)
  | [], [], y, h => by simp only [CSh.decL, Option.some.injEq] at h; subst h; rfl
  | [], _ :: _, y, h => by cases h
  | _ :: _, [], y, h => by cases h
  | s :: l, c :: cs, y, h => by
    simp only [CSh.decL] at h
    split at h
    · rename_i z hz
      have h1 := CSh.okL hz
      have h2 := CSh.ok h
      simp only [CSh.encL, h2, h1]
    · cases h

@[reducible] def BSh.holes (rest : List Hole) : BSh → List Hole
  | .int k => .int k :: rest | .bool => .bool :: rest | .str => .str :: rest | .sub _ => .nat :: .nat :: rest | .lit r => .rows r :: rest | .ptrE _ _ => .nat :: rest
  | .fn _ caps => CSh.holesL rest caps
  | .undef | .nilp | .ref _ | .ptrB _ _ | .emp _ => rest

def BSh.dec {rest : List Hole} (x : HL rest) : (s : BSh) → BV → Option (HL (s.holes rest))
  | .undef, .undef => some x
  | .nilp, .nilp => some x
  | .int k, .int l n => if k = l then some (n, x) else none
  | .bool, .bool b => some (b, x)
  | .str, .str s => some (s, x)
  | .ref n, .ref m => bif Nat.beq n m then some x else none
  | .sub n, .sub m lo len => bif Nat.beq n m then some (lo, len, x) else none
  | .lit r, .lit none none r' xs => if e : r' = r then some (e ▸ xs, x) else none
  | .ptrB n o, .ptrB m p => bif Nat.beq n m && Nat.beq o p then some x else none
  | .ptrE n j, .ptrE m i j' => bif Nat.beq n m && Nat.beq j j' then some (i, x) else none
  | .fn f caps, .fn g cs => bif Nat.beq f g then CSh.decL x caps cs else none
  | .emp r, .emp r' => if r' = r then some x else none
  | _, _ => none
def BSh.enc {rest : List Hole} : (s : BSh) → HL (s.holes rest) → BV × HL rest
  | .undef, y => (.undef, y)
  | .nilp, y => (.nilp, y)
  | .int k, y => (.int k y.1, y.2)
  | .bool, y => (.bool y.1, y.2)
  | .str, y => (.str y.1, y.2)
  | .ref n, y => (.ref n, y)
  | .sub n, y => (.sub n y.1 y.2.1, y.2.2)
  | .lit r, y => (.lit none none r y.1, y.2)
  | .ptrB n o, y => (.ptrB n o, y)
  | .ptrE n j, y => (.ptrE n y.1 j, y.2)
  | .fn f caps, y => let c := CSh.encL caps y; (.fn f c.1, c.2)
  | .emp r, y => (.emp r, y)

theorem beq_some {α : Type} {n m : Nat} {o : Option α} {y : α} (h : (bif Nat.beq n m then o else none) = some y) : n = m ∧ o = some y := by
  cases e : Nat.beq n m with
  | false => rw [e] at h; cases h
  | true => rw [e] at h; exact ⟨Nat.eq_of_beq_eq_true e, h⟩

theorem beq2_some {α : Type} {n m k l : Nat} {o : Option α} {y : α} (h : (bif Nat.beq n m && Nat.beq k l then o else none) = some y) : n = m ∧ k = l ∧ o = some y := by
  cases e : (Nat.beq n m && Nat.beq k l) with
  | false => rw [e] at h; cases h
  | true =>
    rw [e] at h
    simp only [Bool.and_eq_true] at e
    exact ⟨Nat.eq_of_beq_eq_true e.1, Nat.eq_of_beq_eq_true e.2, h⟩

theorem BSh.ok {rest : List Hole} {x : HL rest} {s : BSh} {c : BV} {y : HL (s.holes rest)} (h : s.dec x c = some y) : s.enc y = (c, x) := by
  cases s with
  | undef => cases c <;> simp only [BSh.dec, reduceCtorEq, Option.some.injEq] at h; subst h; rfl
  | nilp => cases c <;> simp only [BSh.dec, reduceCtorEq, Option.some.injEq] at h; subst h; rfl
  | int k =>
    cases c <;> simp only [BSh.dec, reduceCtorEq] at h
    split at h
    · rename_i e; subst e; simp only [Option.some.injEq] at h; subst h; rfl
    · cases h
  | bool => cases c <;> simp only [BSh.dec, reduceCtorEq, Option.some.injEq] at h; subst h; rfl
  | str => cases c <;> simp only [BSh.dec, reduceCtorEq, Option.some.injEq] at h; subst h; rfl
  | ref n =>
    cases c <;> simp only [BSh.dec, reduceCtorEq] at h
    obtain ⟨rfl, h2⟩ := beq_some h
    simp only [Option.some.injEq] at h2; subst h2; rfl
  | sub n =>
    cases c <;> simp only [BSh.dec, reduceCtorEq] at h
    obtain ⟨rfl, h2⟩ := beq_some h
    simp only [Option.some.injEq] at h2; subst h2; rfl
  | lit r =>
    cases c <;> simp only [BSh.dec, reduceCtorEq] at h
    case lit s ho r' xs =>
      cases s <;> cases ho <;> simp only [BSh.dec, reduceCtorEq] at h
      split at h
      · rename_i e; subst e; simp only [Option.some.injEq] at h; subst h; rfl
      · cases h
  | ptrB n o =>
    cases c <;> simp only [BSh.dec, reduceCtorEq] at h
    obtain ⟨rfl, rfl, h2⟩ := beq2_some h
    simp only [Option.some.injEq] at h2; subst h2; rfl
  | ptrE n j =>
    cases c <;> simp only [BSh.dec, reduceCtorEq] at h
    obtain ⟨rfl, rfl, h2⟩ := beq2_some h
    simp only [Option.some.injEq] at h2; subst h2; rfl
  | emp r =>
    cases c <;> simp only [BSh.dec, reduceCtorEq] at h
    split at h
    · rename_i e; subst e; simp only [Option.some.injEq] at h; subst h; rfl
    · cases h
  | fn f caps =>
    cases c <;> simp only [BSh.dec, reduceCtorEq] at h
    obtain ⟨rfl, h2⟩ := beq_some h
    simp only [BSh.enc, CSh.okL h2]

/-- A cell that is not known may hold anything. -/
def BSh.decU {rest : List Hole} (x : HL rest) (s : BSh) (b : BV) : Option (HL (s.holes rest)) := s.dec x b

@[reducible] def BSh.holesL (rest : List Hole) : List BSh → List Hole
  | [] => rest
  | s :: l => s.holes (BSh.holesL rest l)
def BSh.decL {rest : List Hole} (x : HL rest) : (l : List BSh) → List BV → Option (HL (BSh.holesL rest l))
  | [], [] => some x
  | s :: l, c :: cs => match BSh.decL x l cs with
    | some y => s.dec y c
    | none => none
  | _, _ => none
def BSh.encL {rest : List Hole} : (l : List BSh) → HL (BSh.holesL rest l) → List BV × HL rest
  | [], y => ([], y)
  | s :: l, y => let c := s.enc y; let cs := BSh.encL l c.2; (c.1 :: cs.1, cs.2)
theorem BSh.okL {rest : List Hole} {x : HL rest} : ∀ {l : List BSh} {cs : List BV} {y : HL (BSh.holesL rest l)}, BSh.decL x l cs = some y → BSh.encL l y = (cs, x)
  | [], [], y, h => by simp only [BSh.decL, Option.some.injEq] at h; subst h; rfl
  | [], _ :: _, y, h => by cases h
  | _ :: _, [], y, h => by cases h
  | s :: l, c :: cs, y, h => by
    simp only [BSh.decL] at h
    split at h
    · rename_i z hz
      have h1 := BSh.okL hz
      have h2 := BSh.ok h
      simp only [BSh.encL, h2, h1]
    · cases h

inductive VSh where
  | v (b : BSh) | agg (l : List BSh)
@[reducible] def VSh.holes (rest : List Hole) : VSh → List Hole
  | .v b => b.holes rest
  | .agg l => BSh.holesL rest l
def VSh.dec {rest : List Hole} (x : HL rest) : (s : VSh) → CV → Option (HL (s.holes rest))
  | .v b, .v c => b.dec x c
  | .agg l, .agg cs => BSh.decL x l cs
  | _, _ => none
def VSh.enc {rest : List Hole} : (s : VSh) → HL (s.holes rest) → CV × HL rest
  | .v b, y => let c := b.enc y; (.v c.1, c.2)
  | .agg l, y => let c := BSh.encL l y; (.agg c.1, c.2)
theorem VSh.ok {rest : List Hole} {x : HL rest} {s : VSh} {c : CV} {y : HL (s.holes rest)} (h : s.dec x c = some y) : s.enc y = (c, x) := by
  cases s <;> cases c <;> simp only [VSh.dec, reduceCtorEq] at h
  · simp only [VSh.enc, BSh.ok h]
  · simp only [VSh.enc, BSh.okL h]

@[reducible] def VSh.holesL (rest : List Hole) : List VSh → List Hole
  | [] => rest
  | s :: l => s.holes (VSh.holesL rest l)
def VSh.decL {rest : List Hole} (x : HL rest) : (l : List VSh) → List CV → Option (HL (VSh.holesL rest l))
  | [], [] => some x
  | s :: l, c :: cs => match VSh.decL x l cs with
    | some y => s.dec y c
    | none => none
  | _, _ => none
def VSh.encL {rest : List Hole} : (l : List VSh) → HL (VSh.holesL rest l) → List CV × HL rest
  | [], y => ([], y)
  | s :: l, y => let c := s.enc y; let cs := VSh.encL l c.2; (c.1 :: cs.1, cs.2)
theorem VSh.okL {rest : List Hole} {x : HL rest} : ∀ {l : List VSh} {cs : List CV} {y : HL (VSh.holesL rest l)}, VSh.decL x l cs = some y → VSh.encL l y = (cs, x)
  | [], [], y, h => by simp only [VSh.decL, Option.some.injEq] at h; subst h; rfl
  | [], _ :: _, y, h => by cases h
  | _ :: _, [], y, h => by cases h
  | s :: l, c :: cs, y, h => by
    simp only [VSh.decL] at h
    split at h
    · rename_i z hz
      have h1 := VSh.okL hz
      have h2 := VSh.ok h
      simp only [VSh.encL, h2, h1]
    · cases h

inductive TSh where
  | one (s : VSh) | tup (l : List VSh)
@[reducible] def TSh.holes (rest : List Hole) : TSh → List Hole
  | .one b => b.holes rest
  | .tup l => VSh.holesL rest l
def TSh.dec {rest : List Hole} (x : HL rest) : (s : TSh) → TV → Option (HL (s.holes rest))
  | .one b, .c c => b.dec x c
  | .tup l, .tup cs => VSh.decL x l cs
  | _, _ => none
def TSh.enc {rest : List Hole} : (s : TSh) → HL (s.holes rest) → TV × HL rest
  | .one b, y => let c := b.enc y; (.c c.1, c.2)
  | .tup l, y => let c := VSh.encL l y; (.tup c.1, c.2)
theorem TSh.ok {rest : List Hole} {x : HL rest} {s : TSh} {c : TV} {y : HL (s.holes rest)} (h : s.dec x c = some y) : s.enc y = (c, x) := by
  cases s <;> cases c <;> simp only [TSh.dec, reduceCtorEq] at h
  · simp only [TSh.enc, VSh.ok h]
  · simp only [TSh.enc, VSh.okL h]

@[reducible] def TSh.holesL (rest : List Hole) : List TSh → List Hole
  | [] => rest
  | s :: l => s.holes (TSh.holesL rest l)
def TSh.decL {rest : List Hole} (x : HL rest) : (l : List TSh) → List TV → Option (HL (TSh.holesL rest l))
  | [], [] => some x
  | s :: l, c :: cs => match TSh.decL x l cs with
    | some y => s.dec y c
    | none => none
  | _, _ => none
def TSh.encL {rest : List Hole} : (l : List TSh) → HL (TSh.holesL rest l) → List TV × HL rest
  | [], y => ([], y)
  | s :: l, y => let c := s.enc y; let cs := TSh.encL l c.2; (c.1 :: cs.1, cs.2)
theorem TSh.okL {rest : List Hole} {x : HL rest} : ∀ {l : List TSh} {cs : List TV} {y : HL (TSh.holesL rest l)}, TSh.decL x l cs = some y → TSh.encL l y = (cs, x)
  | [], [], y, h => by simp only [TSh.decL, Option.some.injEq] at h; subst h; rfl
  | [], _ :: _, y, h => by cases h
  | _ :: _, [], y, h => by cases h
  | s :: l, c :: cs, y, h => by
    simp only [TSh.decL] at h
    split at h
    · rename_i z hz
      have h1 := TSh.okL hz
      have h2 := TSh.ok h
      simp only [TSh.encL, h2, h1]
    · cases h

/-- Rows and boxes. -/
inductive ESh where
  | gone | box (l : List BSh) | arr (r : Row) (own virt fix : Bool)
@[reducible] def ESh.holes (rest : List Hole) : ESh → List Hole
  | .gone => rest
  | .box l => BSh.holesL rest l
  | .arr r _ _ _ => .rows r :: rest

def Arr.asRows (a : Arr) (r : Row) : Option (List r.den) := if e : a.row = r then some (e ▸ a.rows) else none

def Arr.flags (a : Arr) (own virt fix : Bool) : Bool := (a.own == own) && ((a.virt == virt) && ((a.fix == fix) && (!a.nest && a.hole.isNone)))

def ESh.dec {rest : List Hole} (x : HL rest) : (s : ESh) → Ent → Option (HL (s.holes rest))
  | .gone, .gone => some x
  | .box l, .box cs => BSh.decL x l cs
  | .arr r own virt fix, .arr a => bif a.flags own virt fix then (match a.asRows r with
    | some xs => some (xs, x)
    | none => none) else none
  | _, _ => none
def ESh.enc {rest : List Hole} : (s : ESh) → HL (s.holes rest) → Ent × HL rest
  | .gone, y => (.gone, y)
  | .box l, y => let c := BSh.encL l y; (.box c.1, c.2)
  | .arr r own virt fix, y => (.arr { row := r, own := own, nest := false, virt := virt, fix := fix, hole := none, rows := y.1 }, y.2)

theorem Arr.asRows_flags {a : Arr} {r : Row} {own virt fix : Bool} {xs : List r.den} (hf : a.flags own virt fix = true) (h : a.asRows r = some xs) : a = { row := r, own := own, nest := false, virt := virt, fix := fix, hole := none, rows := xs } := by
  unfold Arr.asRows at h
  unfold Arr.flags at hf
  obtain ⟨row, ow, ne, vi, fi, ho, rows⟩ := a
  simp only at h hf
  split at h
  · rename_i e
    subst e
    simp only [Option.some.injEq] at h
    subst h
    simp only [Bool.and_eq_true, beq_iff_eq, Bool.not_eq_true', Option.isNone_iff_eq_none] at hf
    obtain ⟨rfl, rfl, rfl, rfl, rfl⟩ := hf
    rfl
  · cases h

theorem ESh.ok {rest : List Hole} {x : HL rest} {s : ESh} {c : Ent} {y : HL (s.holes rest)} (h : s.dec x c = some y) : s.enc y = (c, x) := by
  cases s <;> cases c <;> simp only [ESh.dec, reduceCtorEq] at h
  · simp only [Option.some.injEq] at h; subst h; rfl
  · simp only [ESh.enc, BSh.okL h]
  · rename_i r own virt fix a
    cases hf : a.flags own virt fix with
    | false => rw [hf] at h; cases h
    | true =>
      rw [hf] at h
      simp only [cond_true] at h
      split at h
      · rename_i xs hx
        simp only [Option.some.injEq] at h
        subst h
        simp only [ESh.enc, Arr.asRows_flags hf hx]
      · cases h

@[reducible] def ESh.holesL (rest : List Hole) : List ESh → List Hole
  | [] => rest
  | s :: l => s.holes (ESh.holesL rest l)
def ESh.decL {rest : List Hole} (x : HL rest) : (l : List ESh) → List Ent → Option (HL (ESh.holesL rest l))
  | [], [] => some x
  | s :: l, c :: cs => match ESh.decL x l cs with
    | some y => s.dec y c
    | none => none
  | _, _ => none
def ESh.encL {rest : List Hole} : (l : List ESh) → HL (ESh.holesL rest l) → List Ent × HL rest
  | [], y => ([], y)
  | s :: l, y => let c := s.enc y; let cs := ESh.encL l c.2; (c.1 :: cs.1, cs.2)
theorem ESh.okL {rest : List Hole} {x : HL rest} : ∀ {l : List ESh} {cs : List Ent} {y : HL (ESh.holesL rest l)}, ESh.decL x l cs = some y → ESh.encL l y = (cs, x)
  | [], [], y, h => by simp only [ESh.decL, Option.some.injEq] at h; subst h; rfl
  | [], _ :: _, y, h => by cases h
  | _ :: _, [], y, h => by cases h
  | s :: l, c :: cs, y, h => by
    simp only [ESh.decL] at h
    split at h
    · rename_i z hz
      have h1 := ESh.okL hz
      have h2 := ESh.ok h
      simp only [ESh.encL, h2, h1]
    · cases h

/-- Rows and boxes behind a call: a row that was handed in to be read is as it was. -/
inductive OSh where
  | same (fix : Bool) | sh (s : ESh)
@[reducible] def OSh.holes (rest : List Hole) : OSh → List Hole
  | .same _ => rest
  | .sh s => s.holes rest
@[reducible] def OSh.holesL (rest : List Hole) : List OSh → List Hole
  | [] => rest
  | s :: l => s.holes (OSh.holesL rest l)
def OSh.dec {rest : List Hole} (x : HL rest) : (s : OSh) → Ent → Option (HL (s.holes rest))
  | .same fix, .arr a => bif !a.own && (a.fix == fix) then some x else none
  | .sh s, e => s.dec x e
  | _, _ => none
def OSh.decL {rest : List Hole} (x : HL rest) : (l : List OSh) → List Ent → Option (HL (OSh.holesL rest l))
  | [], [] => some x
  | s :: l, c :: cs => match OSh.decL x l cs with
    | some y => s.dec y c
    | none => none
  | _, _ => none
/-- With what was handed in. -/
def OSh.enc {rest : List Hole} (e : Ent) : (s : OSh) → HL (s.holes rest) → Ent × HL rest
  | .same fix, y => (match e with | .arr a => (bif fix then .arr a else .arr a.frz) | e => e, y)
  | .sh s, y => s.enc y
def OSh.encL {rest : List Hole} : List Ent → (l : List OSh) → HL (OSh.holesL rest l) → List Ent × HL rest
  | _, [], y => ([], y)
  | es, s :: l, y => let c := s.enc (es.headD .gone) y; let cs := OSh.encL es.tail l c.2; (c.1 :: cs.1, cs.2)

/-- What was handed in to be read is as it was. -/
def Stays (e0 e : Ent) : Prop := ∀ a, e0 = .arr a → a.own = false → ∃ b, e = .arr b ∧ (b = a ∨ b = a.frz)

/-- A row that 'same' speaks of was handed in to be read. -/
def OSh.fits : List Ent → List OSh → Bool
  | _, [] => true
  | es, .same _ :: l => (match es.headD .gone with | .arr a => !a.own && a.fix | _ => false) && OSh.fits es.tail l
  | es, .sh _ :: l => OSh.fits es.tail l

def OSh.fitsS : List ESh → List OSh → Bool
  | _, [] => true
  | es, .same _ :: l => (match es.headD .gone with | .arr _ own _ fix => !own && fix | _ => false) && OSh.fitsS es.tail l
  | es, .sh _ :: l => OSh.fitsS es.tail l

theorem OSh.fits_of {rest : List Hole} : ∀ (l : List OSh) (es : List ESh) (x : HL (ESh.holesL rest es)), OSh.fitsS es l = true → OSh.fits (ESh.encL es x).1 l = true
  | [], es, x, h => by cases es <;> rfl
  | .same fix :: l, [], x, h => by cases h
  | .same fix :: l, e :: es, x, h => by
    simp only [OSh.fitsS, List.headD_cons, List.tail_cons, Bool.and_eq_true] at h
    simp only [OSh.fits, ESh.encL, List.headD_cons, List.tail_cons, Bool.and_eq_true]
    refine ⟨?_, OSh.fits_of l es _ h.2⟩
    cases e with
    | arr r own virt fx => have h1 : (!own && fx) = true := h.1; simp only [ESh.enc]; simpa using h1
    | _ => cases h.1
  | .sh s :: l, [], x, h => by
    simp only [OSh.fitsS, List.tail_nil] at h
    exact OSh.fits_of l [] x h
  | .sh s :: l, e :: es, x, h => by
    simp only [OSh.fitsS, List.tail_cons] at h
    simp only [OSh.fits, ESh.encL, List.tail_cons]
    exact OSh.fits_of l es _ h

theorem OSh.okL {rest : List Hole} {x : HL rest} : ∀ {l : List OSh} {es cs : List Ent} {y : HL (OSh.holesL rest l)}, OSh.fits es l = true → (∀ (i : Nat) (e0 : Ent), es[i]? = some e0 → ∀ e, cs[i]? = some e → Stays e0 e) → OSh.decL x l cs = some y → OSh.encL es l y = (cs, x)
  | [], es, [], y, hf, hs, h => by simp only [OSh.decL, Option.some.injEq] at h; subst h; rfl
  | [], es, _ :: _, y, hf, hs, h => by cases h
  | _ :: _, es, [], y, hf, hs, h => by cases h
  | s :: l, es, c :: cs, y, hf, hs, h => by
    simp only [OSh.decL] at h
    split at h
    · rename_i z hz
      have hs' : ∀ (i : Nat) (e0 : Ent), es.tail[i]? = some e0 → ∀ e, cs[i]? = some e → Stays e0 e := fun i e0 h0 e he => hs (i + 1) e0 (by cases es with | nil => simp at h0 | cons a es => simpa using h0) e (by simpa using he)
      cases s with
      | sh s =>
        simp only [OSh.fits] at hf
        have h1 := OSh.okL (es := es.tail) hf hs' hz
        have h2 := ESh.ok (s := s) h
        simp only [OSh.encL, OSh.enc, h2, h1]
      | same fix =>
        simp only [OSh.fits, Bool.and_eq_true] at hf
        have h1 := OSh.okL (es := es.tail) hf.2 hs' hz
        cases c with
        | arr b =>
          simp only [OSh.dec] at h
          cases hc : (!b.own && (b.fix == fix)) with
          | false => rw [hc] at h; cases h
          | true =>
            rw [hc] at h
            simp only [cond_true, Option.some.injEq] at h
            subst h
            simp only [Bool.and_eq_true, Bool.not_eq_true', beq_iff_eq] at hc
            cases es with
            | nil => cases hf.1
            | cons e0 es =>
              cases e0 with
              | arr a =>
                have hfa : (!a.own && a.fix) = true := hf.1
                simp only [Bool.and_eq_true, Bool.not_eq_true'] at hfa
                obtain ⟨b', hb, hor⟩ := hs 0 (.arr a) rfl (.arr b) rfl a rfl hfa.1
                injection hb with hb
                subst hb
                simp only [List.tail_cons] at h1
                simp only [OSh.encL, OSh.enc, List.headD_cons, List.tail_cons, h1]
                rcases hor with rfl | rfl
                · have : fix = true := by rw [← hc.2]; exact hfa.2
                  rw [this]; rfl
                · have : fix = false := by rw [← hc.2]; rfl
                  rw [this]; rfl
              | _ => cases hf.1
        | _ => cases h
    · cases h
end Go.Sx

/- Functions as Lean functions. -/
set_option linter.unusedVariables false
set_option linter.unusedSimpArgs false
namespace Go.Sx

theorem all0 {α : Type _} {p : α → Prop} : ∀ a ∈ ([] : List α), p a := fun a h => absurd h (by simp)
theorem all1 {α : Type _} {p : α → Prop} {a : α} {l : List α} (h : p a) (hl : ∀ b ∈ l, p b) : ∀ b ∈ a :: l, p b := List.forall_mem_cons.2 ⟨h, hl⟩
def look2 {α : Type} (k : Nat) : List (Nat × α) → Option α
  | [] => none
  | x :: l => bif Nat.beq x.1 k then some x.2 else look2 k l

/-- A function's shapes: what comes in, what comes back. -/
structure Sgn where
  ents : List ESh
  args : List TSh
  res : TSh
  outs : List OSh

@[reducible] def Sgn.X (s : Sgn) : Type := HL (TSh.holesL (ESh.holesL [] s.ents) s.args)
@[reducible] def Sgn.R (s : Sgn) : Type := HL (TSh.holes (OSh.holesL [] s.outs) s.res)

def Sgn.decIn (s : Sgn) (e : List Ent) (v : List TV) : Option s.X :=
  match ESh.decL (rest := []) () s.ents e with
  | some y => TSh.decL y s.args v
  | none => none
def Sgn.inE (s : Sgn) (x : s.X) : List Ent := (ESh.encL s.ents (TSh.encL s.args x).2).1
def Sgn.inV (s : Sgn) (x : s.X) : List TV := (TSh.encL s.args x).1
def Sgn.decOut (s : Sgn) (o : Out) : Option s.R :=
  match OSh.decL (rest := []) () s.outs o.2 with
  | some y => s.res.dec y o.1
  | none => none
def Sgn.encOut (s : Sgn) (x : s.X) (r : s.R) : Out := ((s.res.enc r).1, (OSh.encL (s.inE x) s.outs (s.res.enc r).2).1)

theorem Sgn.in_ok {s : Sgn} {e : List Ent} {v : List TV} {x : s.X} (h : s.decIn e v = some x) : s.inE x = e ∧ s.inV x = v := by
  unfold Sgn.decIn at h
  split at h
  · rename_i y hy
    have h1 := ESh.okL hy
    have h2 := TSh.okL h
    unfold Sgn.inE Sgn.inV
    rw [h2]
    exact ⟨by rw [h1], rfl⟩
  · cases h

theorem Sgn.out_ok {s : Sgn} {x : s.X} {o : Out} {r : s.R} (hf : OSh.fitsS s.ents s.outs = true) (hs : ∀ (i : Nat) (e0 : Ent), (s.inE x)[i]? = some e0 → ∀ e, o.2[i]? = some e → Stays e0 e) (h : s.decOut o = some r) : s.encOut x r = o := by
  unfold Sgn.decOut at h
  split at h
  · rename_i y hy
    have h2 := TSh.ok h
    have h1 : OSh.encL (s.inE x) s.outs y = (o.2, ()) := OSh.okL (OSh.fits_of s.outs s.ents _ hf) hs hy
    unfold Sgn.encOut
    rw [h2]
    simp only
    rw [h1]
  · cases h

theorem keep_stays {pars : Nat} {G G' : Gh} {w w' : World} {h h' : List Ent} (hk : Keep pars G w h G' w' h') (hp : pars = h.length) (i : Nat) (e0 : Ent) (h0 : h[i]? = some e0) (e : Ent) (he : h'[i]? = some e) : Stays e0 e := by
  intro a ha ho
  subst ha
  obtain ⟨b, h1, h2, h3, _⟩ := hk.imm i a (by rw [hp]; exact (List.getElem?_eq_some_iff.1 h0).1) h0 ho
  rw [he] at h1
  injection h1 with h1
  exact ⟨b, h1, h3⟩

structure Fun where
  f : FuncId
  s : Sgn
  fn : s.X → Option s.R

def FOk (P : Program) (F : Fun) : Prop := ∀ x r, F.fn x = some r → Con P F.f (F.s.inE x) (F.s.inV x) (F.s.encOut x r)

def oracle {β : Type} : List Fun → Oracle β
  | [], _, _, _, _ => none
  | F :: l, f, e, v, k => bif Nat.beq F.f f then
      (match F.s.decIn e v with
      | some x => F.fn x >>= fun r => k (F.s.encOut x r).1 (F.s.encOut x r).2
      | none => oracle l f e v k)
    else oracle l f e v k

theorem oracle_ok {β : Type} {P : Program} : ∀ {l : List Fun}, (∀ F ∈ l, FOk P F) → OOk P (oracle l : Oracle β)
  | [], _, f, e, v, k, r, h => by cases h
  | F :: l, hl, f, e, v, k, r, h => by
    have ih := oracle_ok (β := β) (l := l) fun G hG => hl G (List.mem_cons_of_mem _ hG)
    simp only [oracle] at h
    cases hb : Nat.beq F.f f with
    | false => rw [hb] at h; exact ih f e v k r h
    | true =>
      rw [hb] at h
      simp only [cond_true] at h
      split at h
      · rename_i x hx
        obtain ⟨rfl, rfl⟩ := Sgn.in_ok hx
        have hb := Nat.eq_of_beq_eq_true hb
        subst hb
        cases hq : F.fn x with
        | none => rw [hq] at h; cases h
        | some r' =>
          rw [hq] at h
          exact ⟨_, hl F List.mem_cons_self x r' hq, h⟩
      · exact ih f e v k r h

/-- A place as a Lean function. -/
structure Spot (β : Type) where
  key : Nat
  tvs : List TSh
  ents : List ESh
  fn : HL (TSh.holesL (ESh.holesL [] ents) tvs) → Option β

def Spot.dec {β : Type} (L : Spot β) (v : List TV) (e : List Ent) : Option (HL (TSh.holesL (ESh.holesL [] L.ents) L.tvs)) :=
  match ESh.decL (rest := []) () L.ents e with
  | some y => TSh.decL y L.tvs v
  | none => none
def Spot.inE {β : Type} (L : Spot β) (x : HL (TSh.holesL (ESh.holesL [] L.ents) L.tvs)) : List Ent := (ESh.encL L.ents (TSh.encL L.tvs x).2).1
def Spot.inV {β : Type} (L : Spot β) (x : HL (TSh.holesL (ESh.holesL [] L.ents) L.tvs)) : List TV := (TSh.encL L.tvs x).1

theorem Spot.in_ok {β : Type} {L : Spot β} {e : List Ent} {v : List TV} {x : HL (TSh.holesL (ESh.holesL [] L.ents) L.tvs)} (h : L.dec v e = some x) : L.inE x = e ∧ L.inV x = v := by
  unfold Spot.dec at h
  split at h
  · rename_i y hy
    have h1 := ESh.okL hy
    have h2 := TSh.okL h
    unfold Spot.inE Spot.inV
    rw [h2]
    exact ⟨by rw [h1], rfl⟩
  · cases h

def handlers {β : Type} : List (Spot β) → Nat → List TV → List Ent → Option β
  | [], _, _, _ => none
  | L :: l, key, v, e => bif Nat.beq L.key key then
      (match L.dec v e with
      | some x => L.fn x
      | none => handlers l key v e)
    else handlers l key v e

/-- A function's text with its shapes. -/
structure Txt where
  P : Program
  fn : Func
  c : Code
  s : Sgn
  S : FuncId → Option Sig
  cut : Nat → Bool
  live : Nat → List Nat

def Txt.cfg (T : Txt) : Cfg := { P := T.P, S := T.S, cut := T.cut, live := T.live, pars := T.s.ents.length, n := T.fn.ntmps }
def Txt.env (T : Txt) (fs : List Fun) (ls : List (Spot T.s.R)) : Env T.s.R := { T.cfg with O := oracle fs, H := handlers ls }
def Txt.fin (T : Txt) : KT T.s.R := Sx.fin T.P T.fn.results T.s.ents.length T.s.decOut
def Txt.run (T : Txt) (fs : List Fun) (ls : List (Spot T.s.R)) (x : T.s.X) : Option T.s.R := pev (T.env fs ls) 0 T.c (enter T.fn.ntmps (T.s.inV x) (T.s.inE x)) T.fin
def Txt.goOn (T : Txt) (fs : List Fun) (ls : List (Spot T.s.R)) (key : Nat) (v : List TV) (e : List Ent) : Option T.s.R :=
  match kont (T.env fs ls) key 0 T.c T.fin with
  | some y => Sx.goOn (T.env fs ls) key (expand T.fn.ntmps (T.live key) v e) y
  | none => none

/-- What a place comes to is so. -/
def Txt.Good (T : Txt) (key : Nat) (v : List TV) (e : List Ent) (r : T.s.R) : Prop :=
  ∀ h0 : List Ent, T.s.ents.length = h0.length → ∀ G0 w0, HGood T.cfg T.c (bodyPost T.P T.fn (LeftR G0 w0 h0 T.s.decOut r)) G0 w0 h0 key v e

def Txt.SOk (T : Txt) (L : Spot T.s.R) : Prop := ∀ x r, L.fn x = some r → T.Good L.key (L.inV x) (L.inE x) r

theorem handlers_ok {T : Txt} : ∀ {ls : List (Spot T.s.R)}, (∀ L ∈ ls, T.SOk L) → ∀ key v e r, handlers ls key v e = some r → T.Good key v e r
  | [], _, key, v, e, r, h => by cases h
  | L :: l, hl, key, v, e, r, h => by
    have ih := handlers_ok (T := T) (ls := l) fun L hL => hl L (List.mem_cons_of_mem _ hL)
    simp only [handlers] at h
    cases hb : Nat.beq L.key key with
    | false => rw [hb] at h; exact ih key v e r h
    | true =>
      rw [hb] at h
      simp only [cond_true] at h
      split at h
      · rename_i x hx
        obtain ⟨rfl, rfl⟩ := Spot.in_ok hx
        have hb := Nat.eq_of_beq_eq_true hb
        subst hb
        exact hl L List.mem_cons_self x r h
      · exact ih key v e r h

theorem Txt.round {T : Txt} {fs : List Fun} {ls : List (Spot T.s.R)} (hnd : (places T.cut 0 T.c).Nodup) (hO : ∀ F ∈ fs, FOk T.P F) (hL : ∀ L ∈ ls, T.SOk L) {key : Nat} {v : List TV} {e : List Ent} {r : T.s.R} (h : T.goOn fs ls key v e = some r) : T.Good key v e r := by
  intro h0 hp G0 w0
  unfold Txt.goOn at h
  split at h
  · rename_i y hy
    exact goOn_good (E := T.env fs ls) (oracle_ok hO) (fun key v e h => handlers_ok hL key v e r h h0 hp G0 w0) (fin_ok (C := T.cfg) hp) hnd hy h
  · cases h

theorem encL_length : ∀ {rest : List Hole} (l : List TSh) (x : HL (TSh.holesL rest l)), (TSh.encL l x).1.length = l.length
  | rest, [], x => rfl
  | rest, s :: l, x => by simp only [TSh.encL, List.length_cons, encL_length l]
theorem encE_length : ∀ {rest : List Hole} (l : List ESh) (x : HL (ESh.holesL rest l)), (ESh.encL l x).1.length = l.length
  | rest, [], x => rfl
  | rest, s :: l, x => by simp only [ESh.encL, List.length_cons, encE_length l]

theorem Txt.fok {T : Txt} {fs : List Fun} {ls : List (Spot T.s.R)} {f : FuncId} {g : T.s.X → Option T.s.R} (hf : T.P.funcs[f]? = some T.fn) (hrn : (T.fn.name == "runtime.NumGoroutine") = false) (hb : T.fn.body = some T.c) (hlen : Nat.ble T.s.args.length T.fn.ntmps = true)
    (hfit : OSh.fitsS T.s.ents T.s.outs = true) (hO : ∀ F ∈ fs, FOk T.P F) (hL : ∀ L ∈ ls, T.SOk L) (hev : ∀ x, T.run fs ls x = g x) : FOk T.P { f := f, s := T.s, fn := g } := by
  intro x r h
  have hx := (hev x).trans h
  have hpl : T.s.ents.length = (T.s.inE x).length := (encE_length _ _).symm
  exact con_of (E := T.env fs ls) (enc := T.s.encOut x) (dec := T.s.decOut) hf hrn hb hpl rfl (by rw [show (T.s.inV x).length = T.s.args.length from encL_length _ _]; exact Nat.le_of_ble_eq_true hlen) (oracle_ok hO)
    (fun G0 w0 key v e h => handlers_ok hL key v e r h _ hpl G0 w0) (fun out G0 w0 G' w' ho hk => Sgn.out_ok hfit (fun i e0 h0 e he => keep_stays hk rfl i e0 h0 e he) ho) hx
end Go.Sx
