/- Part Sd of a proof: every text below is one step of it; what the last part proves is said there. -/
import Derived.Test.YtidikilmomkbbaaSc
import Derived.Shelf.Strings.Repeat
import Derived.ReadAgain
import Derived.ProofKit
import Derived.Below
import Derived.ChangeSame

/- What some functions of Go's library come to. -/
set_option linter.unusedVariables false
namespace Go.Sx

/-- slices.Delete of a row of its own. -/
def delFn (r : Row) : Int × Int × List r.den × Unit → Option (List r.den × Unit)
  | (i, j, xs, ()) => if decide (0 ≤ i) && (decide (i ≤ j) && decide (j ≤ (xs.length : Int))) then some (xs.take i.toNat ++ xs.drop j.toNat, ()) else none
def delSgn (r : Row) : Sgn := ⟨[.arr r true false false], [.one (.v (.ref 0)), .one (.v (.int .i64)), .one (.v (.int .i64))], .one (.v (.ref 0)), [.sh (.arr r true false false)]⟩

/-- slices.Insert into a row of its own. -/
def insFn (r : Row) : Int × List r.den × List r.den × Unit → Option (List r.den × Unit)
  | (i, xs, vs, ()) => if decide (0 ≤ i) && (decide (i ≤ (xs.length : Int)) && decide (xs.length + vs.length ≤ most)) then some (xs.take i.toNat ++ vs ++ xs.drop i.toNat, ()) else none
def insSgn (r : Row) : Sgn := ⟨[.arr r true false false, .arr r false false true], [.one (.v (.ref 0)), .one (.v (.int .i64)), .one (.v (.ref 1))], .one (.v (.ref 0)), [.sh (.arr r true false false), .same true]⟩

def repL (l : List UInt8) : Nat → List UInt8
  | 0 => []
  | n + 1 => l ++ repL l n
/-- strings.Repeat. -/
def repFn : ByteArray × Int × Unit → Option (ByteArray × Unit)
  | (s, n, ()) => if decide (0 ≤ n) && (decide (n ≤ 2147483648) && decide (s.size ≤ 65536)) then some (⟨(repL s.data.toList n.toNat).toArray⟩, ()) else none
def repSgn : Sgn := ⟨[], [.one (.v .str), .one (.v (.int .i64))], .one (.v .str), []⟩
end Go.Sx

/- slices.Delete, slices.Insert of rows of their own: out of what they do in the machine. -/
set_option linter.unusedVariables false
set_option linter.unusedSimpArgs false
namespace Go.Sx

/-- Two writes in one block. -/
theorem two_writes {w : World} {b : Nat} {vs : Array Value} {e : TypeId} {fr : Nat × Nat} (hb : w.heap[b]? = some (.cells vs e fr)) {o1 o2 : Nat} {us1 us2 : List Value} (h1 : o1 + us1.length ≤ vs.size) (h2 : o2 + us2.length ≤ vs.size) :
    ∃ vs' : Array Value, ((w.drew.setCells b o1 us1).setCells b o2 us2).heap[b]? = some (.cells vs' e fr) ∧ vs'.size = vs.size ∧
      (∀ k, vs'[k]? = if o2 ≤ k ∧ k < o2 + us2.length then us2[k - o2]? else if o1 ≤ k ∧ k < o1 + us1.length then us1[k - o1]? else vs[k]?) := by
  obtain ⟨v1, p1, p2, p3⟩ := setCells_blk us1 o1 w.drew vs hb h1
  obtain ⟨v2, q1, q2, q3⟩ := setCells_blk us2 o2 _ v1 p1 (by rw [p2]; exact h2)
  exact ⟨v2, q1, q2.trans p2, fun k => by rw [q3, p3]⟩

theorem two_same {w : World} {b : Nat} {o1 o2 : Nat} {us1 us2 : List Value} : let w' := (w.drew.setCells b o1 us1).setCells b o2 us2
    w'.os = w.os ∧ w'.tape = w.tape ∧ w'.output = w.output ∧ w'.heap.size = w.heap.size ∧ (∀ k, k ≠ b → w'.heap[k]? = w.heap[k]?) ∧ ∀ x, w'.frozen? x = w.frozen? x := by
  obtain ⟨a1, a2, a3, a4⟩ := setCells_same b us1 o1 w.drew
  obtain ⟨b1, b2, b3, b4⟩ := setCells_same b us2 o2 (w.drew.setCells b o1 us1)
  refine ⟨b1.trans a1, b2.trans a2, b3.trans a3, b4.trans a4, fun k hk => (setCells_far _ _ _ hk).trans (setCells_far _ _ _ hk), fun x => ?_⟩
  rw [World.frozen?_setCells, World.frozen?_setCells]; rfl

/-- A row of its own behind writes in its block: what is asked to go on. -/
structure Wrote (G : Gh) (w : World) (n : Nat) (r : Row) (base' : Option Addr) (cap' : Nat) (rows' : List r.den) (w' : World) : Prop where
  size : w.heap.size ≤ w'.heap.size
  os : w'.os = w.os
  tape : w'.tape = w.tape
  output : w'.output = w.output
  old : ∀ b, b < w.heap.size → G.zone b ≠ .top n → w'.heap[b]? = w.heap[b]?
  thaw : ∀ b, (b < w.heap.size → G.zone b = .top n) → ∀ vs, Blk w' b vs → ∀ i, i < vs.size → w'.frozen? ⟨b, i, none⟩ = false
  sl : RelSl w' (fun b => b < w.heap.size → G.zone b = .top n) (fun b => b < w.heap.size ∧ G.zone b = .frz) r base' cap' rows'
  clean : CleanAt w' r base' cap'

def ownDelta (n : Nat) (r : Row) (rows' : List r.den) : Delta := { val := .c (.v (.ref n)), kills := [n], sets := [(n, .arr (.mk' true r rows'))] }

theorem Wrote.left {G : Gh} {w : World} {n : Nat} {a : Arr} {h : List Ent} {base' : Option Addr} {cap' : Nat} {rows' : List a.row.den} {w' : World} (hh : RelH G w h) (hn : h[n]? = some (.arr a)) (hown : a.own = true) (wr : Wrote G w n a.row base' cap' rows' w') :
    ∃ v G', Ending.returned (.slice base' rows'.length cap') = .returned v ∧ Ext G w G' w' ∧ RelH G' w' (newHeap h (ownDelta n a.row rows')) ∧ RelTV G' w' (newHeap h (ownDelta n a.row rows')) v (.c (.v (.ref n))) ∧ Keep h.length G w h G' w' (newHeap h (ownDelta n a.row rows')) := by
  have hd := done_own (pars := h.length) hh hn hown wr.size wr.os wr.tape wr.output wr.old wr.thaw wr.sl wr.clean
  obtain ⟨G', k1, k2, k3, k4, _⟩ := hd.keep hh
  exact ⟨_, G', rfl, k1, k2, k3, k4⟩

/-- In place: the block is written twice. -/
theorem wrote_two {G : Gh} {w : World} {n : Nat} {r : Row} {a : Addr} {cap cap' : Nat} {vs : Array Value} {h : List Ent} {rows' : List r.den} {o1 o2 : Nat} {us1 us2 : List Value} (hh : RelH G w h) (hs : a.spot = none) (hz : G.zone a.block = .top n) (hb : Blk w a.block vs) (hsz : a.off + cap * r.size ≤ vs.size)
    (hcl : CleanAt w r (some a) cap) (hl : rows'.length ≤ cap) (h1 : o1 + us1.length ≤ vs.size) (h2 : o2 + us2.length ≤ vs.size)
    (hr : ∀ vs' : Array Value, (∀ k, vs'[k]? = if o2 ≤ k ∧ k < o2 + us2.length then us2[k - o2]? else if o1 ≤ k ∧ k < o1 + us1.length then us1[k - o1]? else vs[k]?) → ∀ (i : Nat) (x : r.den), rows'[i]? = some x → RelRow w (fun b => G.zone b = .frz) r vs' (a.off + i * r.size) x) :
    Wrote G w n r (some a) cap rows' ((w.drew.setCells a.block o1 us1).setCells a.block o2 us2) := by
  have hb0 := hb
  obtain ⟨e, fr, hb⟩ := hb
  obtain ⟨vs', p1, p2, p3⟩ := two_writes hb h1 h2
  obtain ⟨s1, s2, s3, s4, s5, s6⟩ := two_same (w := w) (b := a.block) (o1 := o1) (o2 := o2) (us1 := us1) (us2 := us2)
  have hne : ∀ b, G.zone b ≠ .top n → b ≠ a.block := fun b hb e => hb (e ▸ hz)
  refine ⟨by rw [s4]; exact Nat.le_refl _, s1, s2, s3, fun b _ hq => s5 b (hne b hq), fun b hq ws hws i hi => ?_, ⟨hl, ?_⟩, fun hr0 hc ad ws hba hws => ?_⟩
  · rw [s6]
    by_cases hbb : b = a.block
    · subst hbb
      obtain ⟨_, _, hws⟩ := hws
      rw [p1] at hws
      injection hws with hws
      injection hws with hws
      subst hws
      exact hh.thaw _ (by rw [hz]; simp) (by rw [hz]; simp) vs hb0 i (by rw [p2] at hi; exact hi)
    · have hws' := hws.same (s5 b hbb).symm
      have := hq hws'.lt
      exact hh.thaw b (by rw [this]; simp) (by rw [this]; simp) ws hws' i hi
  · refine .inr ⟨a, vs', rfl, hs, fun _ => hz, ⟨e, fr, p1⟩, by rw [p2]; exact hsz, fun i x hx => ?_⟩
    exact RelRow.mono (fun b hb hz => ⟨hb, hz⟩) (fun b hb hzb => s5 b (hne b (by rw [hzb]; simp))) _ _ _ _ (hr vs' p3 i x hx)
  · injection hba with hba
    subst hba
    obtain ⟨_, _, hws⟩ := hws
    rw [p1] at hws
    injection hws with hws
    injection hws with hws
    subst hws
    rw [s6, p2]
    exact hcl hr0 hc a vs rfl hb0

/-- It stays as it is. -/
theorem wrote_none {G : Gh} {w : World} {n : Nat} {h : List Ent} {a : Arr} (hh : RelH G w h) (hn : h[n]? = some (.arr a)) (hown : a.own = true) : Wrote G w n a.row (G.base n) (G.cap n) a.rows w := by
  refine ⟨Nat.le_refl _, rfl, rfl, rfl, fun _ _ _ => rfl, fun b hq vs hb i hi => ?_, ?_, (relArr_of hh hn).1.2 hown⟩
  · have := hq hb.lt
    exact hh.thaw b (by rw [this]; simp) (by rw [this]; simp) vs hb i hi
  · exact (own_slice hh hn hown).mono (fun b hb hz => ⟨fun _ => hz, rfl⟩) (fun b hb hz => ⟨⟨hb, hz⟩, rfl⟩)

theorem cells_of {w : World} {Zt Z : Nat → Prop} {r : Row} {a : Addr} {cap : Nat} {xs : List r.den} {vs : Array Value} (hsp : a.spot = none) (hb : Blk w a.block vs) (hsz : a.off + cap * r.size ≤ vs.size) (hl : xs.length ≤ cap) (hr : ∀ (i : Nat) (x : r.den), xs[i]? = some x → RelRow w Z r vs (a.off + i * r.size) x) :
    ∃ cs : List Value, cs.length = xs.length * r.size ∧ (∀ j, j < xs.length * r.size → cs[j]? = vs[a.off + j]?) ∧ (∀ j v, cs[j]? = some v → w.cell? ⟨a.block, a.off + j, none⟩ = some v) ∧ (∀ v ∈ cs, v.oneCell' = true) := by
  have hle := Nat.mul_le_mul_right r.size hl
  have hlen : (vs.extract a.off (a.off + xs.length * r.size)).size = xs.length * r.size := by rw [Array.size_extract]; omega
  have hget : ∀ j, j < xs.length * r.size → (vs.extract a.off (a.off + xs.length * r.size))[j]? = vs[a.off + j]? := fun j hj => by
    rw [Array.getElem?_extract, if_pos (by omega)]
  refine ⟨(vs.extract a.off (a.off + xs.length * r.size)).toList, by rw [Array.length_toList]; exact hlen, fun j hj => by rw [Array.getElem?_toList]; exact hget j hj, fun j v hj => ?_, ?_⟩
  · rw [Array.getElem?_toList] at hj
    have hj2 : j < xs.length * r.size := by
      have := (Array.getElem?_eq_some_iff.1 hj).1
      omega
    rw [hb.cell]
    rw [← hget j hj2]; exact hj
  · have : InRow w Z r (vs.extract a.off (a.off + xs.length * r.size)) xs := ⟨hlen, fun i x hx => RelRow.alike r (fun j hj => by
      have hi : i < xs.length := (List.getElem?_eq_some_iff.1 hx).1
      have := Nat.mul_le_mul_right r.size hi
      rw [Nat.succ_mul] at this
      rw [hget _ (by omega), Nat.add_assoc]) (hr i x hx)⟩
    exact this.one
end Go.Sx

/- slices.Delete of a row of its own: the contract. -/
set_option linter.unusedVariables false
set_option linter.unusedSimpArgs false
namespace Go.Sx

theorem args3 {G : Gh} {w : World} {h : List Ent} {vs : Array Value} {x y z : TV} (ha : RelArgs G w h vs [x, y, z]) : ∃ u v t, vs = #[u, v, t] ∧ RelTV G w h u x ∧ RelTV G w h v y ∧ RelTV G w h t z := by
  obtain ⟨h0, h1⟩ := ha
  obtain ⟨u, p1, p2⟩ := h1 0 x rfl
  obtain ⟨v, q1, q2⟩ := h1 1 y rfl
  obtain ⟨t, r1, r2⟩ := h1 2 z rfl
  refine ⟨u, v, t, ?_, p2, q2, r2⟩
  apply Array.ext'
  obtain ⟨l⟩ := vs
  simp only [List.size_toArray, List.length_cons, List.length_nil] at h0
  match l, h0 with
  | [a, b, c], _ => simp_all

theorem del_fok {P : Program} {f : FuncId} {r : Row} {zs : Nat → List Value}
    (able : ∃ fn, P.funcs[f]? = some fn ∧ (fn.name == "runtime.NumGoroutine") = false ∧ fn.body.isNone = false)
    (hnone : ∀ (base : Option Addr) (n c i : Nat) (w : World), i ≤ n → n ≤ c → Calls P f #[.slice base n c, .int .i64 i, .int .i64 i] w fun e w' => e = .returned (.slice base n c) ∧ w' = w)
    (hsome : ∀ (b off n c i j : Nat) (cs : List Value) (w : World), i < j → j ≤ n → n ≤ c → cs.length = n * r.size → (∀ j v, cs[j]? = some v → w.cell? ⟨b, off + j, none⟩ = some v) → (∀ j, j < n * r.size → w.frozen? ⟨b, off + j, none⟩ = false) → (∀ v ∈ cs, v.oneCell' = true) →
      Calls P f #[.slice (some ⟨b, off, none⟩) n c, .int .i64 i, .int .i64 j] w fun e w' => e = .returned (.slice (some ⟨b, off, none⟩) (i + (n - j)) c) ∧ w' = (w.drew.setCells b (off + i * r.size) (cs.drop (j * r.size))).setCells b (off + (i + (n - j)) * r.size) (zs (n - (i + (n - j)))))
    (hz : ∀ m, (zs m).length = m * r.size) : FOk P ⟨f, delSgn r, delFn r⟩ := by
  rintro ⟨i, j, xs, ⟨⟩⟩ res h
  have h : (if (decide (0 ≤ i) && (decide (i ≤ j) && decide (j ≤ (xs.length : Int)))) = true then some (xs.take i.toNat ++ xs.drop j.toNat, ()) else none) = some res := h
  split at h
  case isFalse => cases h
  rename_i hc
  rw [Bool.and_eq_true, Bool.and_eq_true, decide_eq_true_eq, decide_eq_true_eq, decide_eq_true_eq] at hc
  obtain ⟨c1, c2, c3⟩ := hc
  have h := Option.some.inj h
  subst h
  refine ⟨able, fun G w vs hh hargs => ?_⟩
  let a : Arr := .mk' true r xs
  have hh : RelH G w [Ent.arr a] := hh
  have hargs : RelArgs G w [Ent.arr a] vs [.c (.v (.ref 0)), .c (.v (.int .i64 i)), .c (.v (.int .i64 j))] := hargs
  obtain ⟨u, v, t, rfl, hu, hv, ht⟩ := args3 hargs
  have hv : v = .int .i64 i := hv
  have ht : t = .int .i64 j := ht
  subst hv ht
  obtain ⟨a', ha', hu⟩ : ∃ a' : Arr, [Ent.arr a][0]? = some (Ent.arr a') ∧ u = .slice (G.base 0) a'.rows.length (G.cap 0) := hu
  simp only [List.getElem?_cons_zero, Option.some.injEq, Ent.arr.injEq] at ha'
  subst ha'
  subst hu
  have hn : [Ent.arr a][0]? = some (.arr a) := rfl
  have hsl := own_slice hh hn rfl
  have hcl : CleanAt w r (G.base 0) (G.cap 0) := (relArr_of hh hn).1.2 rfl
  obtain ⟨hl, hbk⟩ := hsl
  have hl : xs.length ≤ G.cap 0 := hl
  obtain ⟨ni, rfl⟩ := Int.eq_ofNat_of_zero_le c1
  obtain ⟨nj, rfl⟩ := Int.eq_ofNat_of_zero_le (Int.le_trans c1 c2)
  have c2 : ni ≤ nj := Int.ofNat_le.1 c2
  have c3 : nj ≤ xs.length := Int.ofNat_le.1 c3
  show Calls P f #[.slice (G.base 0) xs.length (G.cap 0), .int .i64 ni, .int .i64 nj] w fun e w' => ∃ v G', e = .returned v ∧ Ext G w G' w' ∧ RelH G' w' [.arr (.mk' true r (xs.take ni ++ xs.drop nj))] ∧ RelTV G' w' [.arr (.mk' true r (xs.take ni ++ xs.drop nj))] v (.c (.v (.ref 0))) ∧ Keep 1 G w [Ent.arr a] G' w' [.arr (.mk' true r (xs.take ni ++ xs.drop nj))]
  have fin : ∀ {base' : Option Addr} {cap' : Nat} {w' : World} {k : Nat}, Wrote G w 0 r base' cap' (xs.take ni ++ xs.drop nj) w' → k = (xs.take ni ++ xs.drop nj).length → ∃ v G', Ending.returned (.slice base' k cap') = .returned v ∧ Ext G w G' w' ∧ RelH G' w' [.arr (.mk' true r (xs.take ni ++ xs.drop nj))] ∧ RelTV G' w' [.arr (.mk' true r (xs.take ni ++ xs.drop nj))] v (.c (.v (.ref 0))) ∧ Keep 1 G w [Ent.arr a] G' w' [.arr (.mk' true r (xs.take ni ++ xs.drop nj))] := by
    intro base' cap' w' k wr hk
    subst hk
    exact wr.left (a := a) hh hn rfl
  by_cases he : ni = nj
  · subst he
    refine (hnone (G.base 0) xs.length (G.cap 0) ni w c3 hl).mono fun e w' he => ?_
    obtain ⟨rfl, rfl⟩ := he
    have e1 : xs.take ni ++ xs.drop ni = xs := List.take_append_drop ni xs
    exact fin (by rw [e1]; exact wrote_none hh hn rfl) (by rw [e1])
  · have hlt : ni < nj := by omega
    rcases hbk with h0 | ⟨ad, vb, p1, p2, p3, p4, p5, p6⟩
    · omega
    · have p5 : ad.off + G.cap 0 * r.size ≤ vb.size := p5
      have p6 : ∀ (i : Nat) (x : r.den), xs[i]? = some x → RelRow w (fun b => G.zone b = .frz) r vb (ad.off + i * r.size) x := p6
      obtain ⟨cs, q1, q2, q3, q4⟩ := cells_of (Zt := fun b => G.zone b = .top 0) p2 p4 p5 hl p6
      have hle := Nat.mul_le_mul_right r.size hl
      have hth := hh.thaw ad.block (by rw [p3]; simp) (by rw [p3]; simp) vb p4
      have ha : ad = ⟨ad.block, ad.off, none⟩ := addr_eta p2
      have hbase : G.base 0 = some ⟨ad.block, ad.off, none⟩ := by rw [p1, ← ha]
      rw [hbase]
      refine (hsome ad.block ad.off xs.length (G.cap 0) ni nj cs w hlt c3 hl q1 q3 (fun j hj => hth _ (by omega)) q4).mono fun e w' he => ?_
      obtain ⟨rfl, rfl⟩ := he
      have e1 : (xs.take ni ++ xs.drop nj).length = ni + (xs.length - nj) := by rw [List.length_append, List.length_take, List.length_drop]; omega
      refine fin ?_ e1.symm
      have m1 := Nat.mul_le_mul_right r.size c3
      have m2 := Nat.mul_le_mul_right r.size (Nat.le_of_lt hlt)
      have m3 : (ni + (xs.length - nj)) * r.size = ni * r.size + (xs.length * r.size - nj * r.size) := by rw [Nat.add_mul, Nat.sub_mul]
      have m4 : (xs.length - (ni + (xs.length - nj))) * r.size = nj * r.size - ni * r.size := by rw [show xs.length - (ni + (xs.length - nj)) = nj - ni by omega, Nat.sub_mul]
      have hd : (cs.drop (nj * r.size)).length = xs.length * r.size - nj * r.size := by rw [List.length_drop, q1]
      have hwr := wrote_two (rows' := xs.take ni ++ xs.drop nj) (o1 := ad.off + ni * r.size) (o2 := ad.off + (ni + (xs.length - nj)) * r.size) (us1 := cs.drop (nj * r.size)) (us2 := zs (xs.length - (ni + (xs.length - nj)))) (cap' := 0) hh p2 p3 p4 p5 (by rw [← p1]; exact hcl) (by rw [e1]; omega) (by rw [hd]; omega) (by rw [hz]; omega) ?_
      · rw [← ha]
        exact hwr
      · intro vs' hv k x hx
        have hxl : k < ni + (xs.length - nj) := by rw [← e1]; exact (List.getElem?_eq_some_iff.1 hx).1
        have n1 := Nat.mul_le_mul_right r.size hxl
        rw [Nat.succ_mul] at n1
        by_cases hk : k < ni
        · have n2 := Nat.mul_le_mul_right r.size hk
          rw [Nat.succ_mul] at n2
          rw [List.getElem?_append_left (by rw [List.length_take]; omega), List.getElem?_take, if_pos hk] at hx
          refine RelRow.alike r (fun q hq => ?_) (p6 k x hx)
          rw [hv, if_neg (by omega), if_neg (by omega)]
        · have n2 := Nat.mul_le_mul_right r.size (Nat.le_of_not_lt hk)
          rw [List.getElem?_append_right (by rw [List.length_take]; omega), List.length_take, List.getElem?_drop, show min ni xs.length = ni by omega] at hx
          refine RelRow.alike r (fun q hq => ?_) (p6 _ x hx)
          have n3 : (nj + (k - ni)) * r.size = nj * r.size + (k * r.size - ni * r.size) := by rw [Nat.add_mul, Nat.sub_mul]
          rw [hv, if_neg (by omega), if_pos (by rw [hd]; omega), List.getElem?_drop, q2 _ (by omega), n3]
          congr 1
          omega
end Go.Sx

/- slices.Insert into a row of its own: the contract. -/
set_option linter.unusedVariables false
set_option linter.unusedSimpArgs false
namespace Go.Sx

/-- In memory of its own, written twice. -/
theorem wrote_grow {G : Gh} {w : World} {n : Nat} {r : Row} {cap' : Nat} {h : List Ent} {rows' : List r.den} {o1 o2 : Nat} {us1 us2 : List Value} {ROW : Array Value} {e : TypeId} (hh : RelH G w h)
    (hl : rows'.length ≤ cap') (hsz : cap' * r.size ≤ ROW.size) (h1 : o1 + us1.length ≤ ROW.size) (h2 : o2 + us2.length ≤ ROW.size)
    (hr : ∀ vs' : Array Value, (∀ k, vs'[k]? = if o2 ≤ k ∧ k < o2 + us2.length then us2[k - o2]? else if o1 ≤ k ∧ k < o1 + us1.length then us1[k - o1]? else ROW[k]?) → ∀ (i : Nat) (x : r.den), rows'[i]? = some x → RelRow w (fun b => G.zone b = .frz) r vs' (i * r.size) x) :
    Wrote G w n r (some ⟨w.heap.size, 0, none⟩) cap' rows' ((((w.alloc (.cells ROW e)).drew.setCells w.heap.size o1 us1).drew).setCells w.heap.size o2 us2) := by
  have hb0 : ((w.alloc (.cells ROW e)).drew).heap[w.heap.size]? = some (.cells ROW e (0, 0)) := alloc_new w _
  obtain ⟨v1, p1, p2, p3⟩ := setCells_blk us1 o1 _ ROW hb0 h1
  obtain ⟨v2, q1, q2, q3⟩ := setCells_blk us2 o2 ((w.alloc (.cells ROW e)).drew.setCells w.heap.size o1 us1).drew v1 p1 (by rw [p2]; exact h2)
  obtain ⟨a1, a2, a3, a4⟩ := setCells_same w.heap.size us1 o1 (w.alloc (.cells ROW e)).drew
  obtain ⟨b1, b2, b3, b4⟩ := setCells_same w.heap.size us2 o2 ((w.alloc (.cells ROW e)).drew.setCells w.heap.size o1 us1).drew
  have hold : ∀ b, b < w.heap.size → ((((w.alloc (.cells ROW e)).drew.setCells w.heap.size o1 us1).drew).setCells w.heap.size o2 us2).heap[b]? = w.heap[b]? := fun b hb => by
    rw [setCells_far _ _ _ (by omega)]
    show ((w.alloc (.cells ROW e)).drew.setCells w.heap.size o1 us1).heap[b]? = _
    rw [setCells_far _ _ _ (by omega)]
    exact alloc_old w _ hb
  have hfr : ∀ x, ((((w.alloc (.cells ROW e)).drew.setCells w.heap.size o1 us1).drew).setCells w.heap.size o2 us2).frozen? x = (w.alloc (.cells ROW e)).frozen? x := fun x => by
    rw [World.frozen?_setCells]
    show ((w.alloc (.cells ROW e)).drew.setCells w.heap.size o1 us1).frozen? x = _
    rw [World.frozen?_setCells]; rfl
  have hnew : ∀ j, (w.alloc (.cells ROW e)).frozen? ⟨w.heap.size, j, none⟩ = false := fun j => by
    unfold World.frozen?
    simp only [alloc_new]
    simp
  have hsize : ((((w.alloc (.cells ROW e)).drew.setCells w.heap.size o1 us1).drew).setCells w.heap.size o2 us2).heap.size = w.heap.size + 1 := by
    rw [b4]
    show ((w.alloc (.cells ROW e)).drew.setCells w.heap.size o1 us1).heap.size = _
    rw [a4]
    exact alloc_size w _
  refine ⟨by rw [hsize]; exact Nat.le_succ _, b1.trans a1, b2.trans a2, b3.trans a3, fun b hb _ => hold b hb, fun b hq ws hws i hi => ?_, ⟨hl, ?_⟩, fun hr0 hc ad ws hba hws => ?_⟩
  · rw [hfr]
    rcases Nat.lt_or_ge b w.heap.size with hb | hb
    · have hws' := hws.same (hold b hb).symm
      have hzz := hq hb
      have := hh.thaw b (by rw [hzz]; simp) (by rw [hzz]; simp) ws hws' i hi
      unfold World.frozen? at *
      rw [alloc_old w _ hb]; exact this
    · have := hws.lt
      rw [hsize] at this
      have : b = w.heap.size := by omega
      subst this
      exact hnew i
  · refine .inr ⟨⟨w.heap.size, 0, none⟩, v2, rfl, rfl, fun hb => absurd hb (Nat.lt_irrefl _), ⟨e, (0, 0), q1⟩, ?_, fun i x hx => ?_⟩
    · show 0 + _ ≤ _
      rw [Nat.zero_add, q2, p2]; exact hsz
    · show RelRow _ _ r _ (0 + i * r.size) x
      rw [Nat.zero_add]
      exact RelRow.mono (fun b hb hz => ⟨hb, hz⟩) (fun b hb hzb => hold b hb) _ _ _ _ (hr v2 (fun k => by rw [q3, p3]) i x hx)
  · injection hba with hba
    subst hba
    rw [hfr]
    exact hnew _

theorem ins_fok {P : Program} {f : FuncId} {r : Row} {t e : TypeId} {i : TypeInfo} {z : Value}
    (able : ∃ fn, P.funcs[f]? = some fn ∧ (fn.name == "runtime.NumGoroutine") = false ∧ fn.body.isNone = false)
    (ht : P.underlying t = some (.slice e)) (hi : P.info? e = some i) (hz : i.zero = some z) (hsz : i.size = r.size) (hzs : z.cells.size = r.size) (hby : i.bytes ≤ 1024) (hrow : r ≠ .one (.int .u8))
    (hnone : ∀ (base : Option Addr) (n c i : Nat) (vb : Option Addr) (vc : Nat) (w : World), i ≤ n → n ≤ c → Calls P f #[.slice base n c, .int .i64 i, .slice vb 0 vc] w fun e w' => e = .returned (.slice base n c) ∧ w' = w)
    (hshift : ∀ (b off n c i vb voff m vc : Nat) (cs vs : List Value) (w : World), i < n → 0 < m → n + m ≤ c → n + m ≤ 4294967296 → vb ≠ b → cs.length = n * r.size → vs.length = m * r.size →
      (∀ j v, cs[j]? = some v → w.cell? ⟨b, off + j, none⟩ = some v) → (∀ j, j < (n + m) * r.size → (w.cell? ⟨b, off + j, none⟩).isSome = true) → (∀ j, j < (n + m) * r.size → w.frozen? ⟨b, off + j, none⟩ = false) →
      (∀ j v, vs[j]? = some v → w.cell? ⟨vb, voff + j, none⟩ = some v) → (∀ v ∈ cs, v.oneCell' = true) → (∀ v ∈ vs, v.oneCell' = true) →
      ∀ (tA tB : TypeId) (kA kB : Nat), w.shape? vb = some (tA, kA) → w.shape? b = some (tB, kB) → kA ≠ 0 → w.frozen? ⟨b, kB, none⟩ = false →
      Calls P f #[.slice (some ⟨b, off, none⟩) n c, .int .i64 i, .slice (some ⟨vb, voff, none⟩) m vc] w fun e w' =>
        e = .returned (.slice (some ⟨b, off, none⟩) (n + m) c) ∧ w' = (w.drew.setCells b (off + (i + m) * r.size) (cs.drop (i * r.size))).setCells b (off + i * r.size) vs)
    (hend : ∀ (base vb : Option Addr) (n c m vc : Nat) (w w1 : World) (v : Value), 0 < m → n ≤ c → (∀ ty, (Builtin.append_ #[t, t] ty #[.slice base n c, .slice vb m vc]).run P w = .ok v w1) →
      Calls P f #[.slice base n c, .int .i64 n, .slice vb m vc] w fun e w' => e = .returned v ∧ w' = w1)
    (hgrow : ∀ (b off n c i vb voff m vc : Nat) (cs vs : List Value) (w : World), i < n → 0 < m → n ≤ c → c < n + m → n + m ≤ most → cs.length = n * r.size → vs.length = m * r.size →
      (∀ j v, cs[j]? = some v → w.cell? ⟨b, off + j, none⟩ = some v) → (∀ j v, vs[j]? = some v → w.cell? ⟨vb, voff + j, none⟩ = some v) → (∀ v ∈ cs, v.oneCell' = true) → (∀ v ∈ vs, v.oneCell' = true) →
      Calls P f #[.slice (some ⟨b, off, none⟩) n c, .int .i64 i, .slice (some ⟨vb, voff, none⟩) m vc] w fun e' w' =>
        e' = .returned (.slice (some ⟨w.heap.size, 0, none⟩) (n + m) (grownCap w (n + m) c e)) ∧
        w' = (((w.alloc (.cells ((cs.take (i * r.size)).toArray ++ Builtin.zeroCells z.cells (n + m - i) ++ Builtin.zeroCells z.cells (grownCap w (n + m) c e - (n + m))) e)).drew.setCells w.heap.size (i * r.size) vs).drew).setCells w.heap.size ((i + m) * r.size) (cs.drop (i * r.size))) :
    FOk P ⟨f, insSgn r, insFn r⟩ := by
  rintro ⟨ix, xs, ys, ⟨⟩⟩ res h
  have h : (if (decide (0 ≤ ix) && (decide (ix ≤ (xs.length : Int)) && decide (xs.length + ys.length ≤ most))) = true then some (xs.take ix.toNat ++ ys ++ xs.drop ix.toNat, ()) else none) = some res := h
  split at h
  case isFalse => cases h
  rename_i hc
  rw [Bool.and_eq_true, Bool.and_eq_true, decide_eq_true_eq, decide_eq_true_eq, decide_eq_true_eq] at hc
  obtain ⟨c1, c2, c3⟩ := hc
  have h := Option.some.inj h
  subst h
  refine ⟨able, fun G w vs hh hargs => ?_⟩
  let a : Arr := .mk' true r xs
  let a2 : Arr := { row := r, own := false, nest := false, virt := false, fix := true, hole := none, rows := ys }
  have hh : RelH G w [Ent.arr a, .arr a2] := hh
  have hargs : RelArgs G w [Ent.arr a, .arr a2] vs [.c (.v (.ref 0)), .c (.v (.int .i64 ix)), .c (.v (.ref 1))] := hargs
  obtain ⟨u, v, t', rfl, hu, hv, hu2⟩ := args3 hargs
  have hv : v = .int .i64 ix := hv
  subst hv
  obtain ⟨a', ha', hu⟩ : ∃ a' : Arr, [Ent.arr a, .arr a2][0]? = some (Ent.arr a') ∧ u = .slice (G.base 0) a'.rows.length (G.cap 0) := hu
  simp only [List.getElem?_cons_zero, Option.some.injEq, Ent.arr.injEq] at ha'
  subst ha'
  subst hu
  obtain ⟨a', ha', hu2⟩ : ∃ a' : Arr, [Ent.arr a, .arr a2][1]? = some (Ent.arr a') ∧ t' = .slice (G.base 1) a'.rows.length (G.cap 1) := hu2
  simp only [List.getElem?_cons_succ, List.getElem?_cons_zero, Option.some.injEq, Ent.arr.injEq] at ha'
  subst ha'
  subst hu2
  have hn : [Ent.arr a, .arr a2][0]? = some (.arr a) := rfl
  have hn2 : [Ent.arr a, .arr a2][1]? = some (.arr a2) := rfl
  have hsl := own_slice hh hn rfl
  have hcl : CleanAt w r (G.base 0) (G.cap 0) := (relArr_of hh hn).1.2 rfl
  obtain ⟨ni, rfl⟩ := Int.eq_ofNat_of_zero_le c1
  have c2 : ni ≤ xs.length := Int.ofNat_le.1 c2
  have c3 : xs.length + ys.length ≤ most := c3
  have hmost : most = 4294967296 := rfl
  let out : List Ent := [.arr (.mk' true r (xs.take ni ++ ys ++ xs.drop ni)), .arr a2]
  show Calls P f #[.slice (G.base 0) xs.length (G.cap 0), .int .i64 ni, .slice (G.base 1) ys.length (G.cap 1)] w fun e w' => ∃ v G', e = .returned v ∧ Ext G w G' w' ∧ RelH G' w' out ∧ RelTV G' w' out v (.c (.v (.ref 0))) ∧ Keep 2 G w [Ent.arr a, .arr a2] G' w' out
  have fin : ∀ {base' : Option Addr} {cap' : Nat} {w' : World} {k : Nat}, Wrote G w 0 r base' cap' (xs.take ni ++ ys ++ xs.drop ni) w' → k = (xs.take ni ++ ys ++ xs.drop ni).length → ∃ v G', Ending.returned (.slice base' k cap') = .returned v ∧ Ext G w G' w' ∧ RelH G' w' out ∧ RelTV G' w' out v (.c (.v (.ref 0))) ∧ Keep 2 G w [Ent.arr a, .arr a2] G' w' out := by
    intro base' cap' w' k wr hk
    subst hk
    exact wr.left (a := a) hh hn rfl
  have e1 : (xs.take ni ++ ys ++ xs.drop ni).length = xs.length + ys.length := by rw [List.length_append, List.length_append, List.length_take, List.length_drop]; omega
  have hl : xs.length ≤ G.cap 0 := hsl.1
  obtain ⟨_, _, hl2, hbk2⟩ := relArr_of hh hn2
  have hl2 : ys.length ≤ G.cap 1 := hl2
  by_cases hm : ys.length = 0
  · have hys : ys = [] := List.length_eq_zero_iff.1 hm
    rw [hm]
    refine (hnone (G.base 0) xs.length (G.cap 0) ni (G.base 1) (G.cap 1) w c2 hl).mono fun e w' he => ?_
    obtain ⟨rfl, rfl⟩ := he
    have e2 : xs.take ni ++ ys ++ xs.drop ni = xs := by rw [hys, List.append_nil]; exact List.take_append_drop ni xs
    exact fin (by rw [e2]; exact wrote_none hh hn rfl) (by rw [e2])
  · have hm : 0 < ys.length := by omega
    -- what is laid in
    obtain ⟨ad2, vb2, g1, g2, g3, g4, g5, g6⟩ : ∃ ad2 vb2, G.base 1 = some ad2 ∧ ad2.spot = none ∧ (G.zone ad2.block = .frz ∨ G.zone ad2.block = .top 1) ∧ Blk w ad2.block vb2 ∧ ad2.off + G.cap 1 * r.size ≤ vb2.size ∧ ∀ (i : Nat) (x : r.den), ys[i]? = some x → RelRow w (fun b => G.zone b = .frz) r vb2 (ad2.off + i * r.size) x := by
      rcases hbk2 with h0 | hbk2
      · omega
      · obtain ⟨ad2, vb2, g1, g2, g3, g4, g5, g6⟩ := hbk2
        exact ⟨ad2, vb2, g1, g2, g3, g4, g5, g6⟩
    obtain ⟨cv, y1, y2, y3, y4⟩ := cells_of (Zt := fun b => True) g2 g4 g5 hl2 g6
    have ha2 : ad2 = ⟨ad2.block, ad2.off, none⟩ := addr_eta g2
    have hbase2 : G.base 1 = some ⟨ad2.block, ad2.off, none⟩ := by rw [g1, ← ha2]
    have hle2 := Nat.mul_le_mul_right r.size hl2
    have hyrow : ∀ (k : Nat) (x : r.den), ys[k]? = some x → ∀ {vs' : Array Value} {o : Nat}, (∀ q, q < r.size → vs'[o + q]? = cv[k * r.size + q]?) → RelRow w (fun b => G.zone b = .frz) r vs' o x := by
      intro k x hx vs' o hq
      have hk : k < ys.length := (List.getElem?_eq_some_iff.1 hx).1
      have n1 := Nat.mul_le_mul_right r.size hk
      rw [Nat.succ_mul] at n1
      refine RelRow.alike r (fun q hq' => ?_) (g6 k x hx)
      rw [hq q hq', y2 _ (by omega)]
      congr 1; omega
    by_cases hie : ni = xs.length
    · -- at the end
      subst hie
      have hio : InRow w (fun b => G.zone b = .frz) r cv.toArray ys := ⟨by rw [List.size_toArray]; exact y1, fun k x hx => hyrow k x hx fun q _ => by rw [List.getElem?_toArray]⟩
      have hx : ∀ w2 : World, w2.heap = w.heap → (Builtin.lenOf (.slice (G.base 1) ys.length (G.cap 1))).run P w2 = .ok ys.length w2 ∧ (Builtin.firstCells r.size ys.length (.slice (G.base 1) ys.length (G.cap 1))).run P w2 = .ok cv.toArray w2 := by
        intro w2 hw
        refine ⟨rfl, ?_⟩
        rw [hbase2]
        exact run_firstCells_some w2 r.size ys.length _ ys.length (G.cap 1) cv y1 (fun j v hj => by
          rw [Addr.add_lit, cell_of_heap hw]
          exact y3 j v hj)
      obtain ⟨base', cap', w', r1, r2, r3, r4, r5, r6, r7, r8, r9⟩ := append_core (ty := 0) (at_ := #[t, t]) hh rfl rfl ht (.inl ⟨e, ht⟩) hi hz hsz hzs hby hsl hcl hx hio c3
      have hrun : ∀ ty, (Builtin.append_ #[t, t] ty #[.slice (G.base 0) xs.length (G.cap 0), .slice (G.base 1) ys.length (G.cap 1)]).run P w = .ok (.slice base' (xs ++ ys).length cap') w' := fun ty => r1
      refine (hend (G.base 0) (G.base 1) xs.length (G.cap 0) ys.length (G.cap 1) w w' _ hm hl hrun).mono fun e w2 he => ?_
      obtain ⟨rfl, rfl⟩ := he
      have e2 : xs.take xs.length ++ ys ++ xs.drop xs.length = xs ++ ys := by rw [List.take_length, List.drop_length, List.append_nil]
      refine fin ?_ (by rw [e2])
      rw [e2]
      exact ⟨r2, r3, r4, r5, r6, r7, r8, r9⟩
    · have hlt : ni < xs.length := by omega
      obtain ⟨_, hbk⟩ := hsl
      rcases hbk with h0 | ⟨ad, vb, p1, p2, p3, p4, p5, p6⟩
      · have h0 : G.cap 0 = 0 := h0
        omega
      · have p5 : ad.off + G.cap 0 * r.size ≤ vb.size := p5
        have p6 : ∀ (i : Nat) (x : r.den), xs[i]? = some x → RelRow w (fun b => G.zone b = .frz) r vb (ad.off + i * r.size) x := p6
        obtain ⟨cs, q1, q2, q3, q4⟩ := cells_of (Zt := fun b => G.zone b = .top 0) p2 p4 p5 hl p6
        have hle := Nat.mul_le_mul_right r.size hl
        have hth := hh.thaw ad.block (by rw [p3]; simp) (by rw [p3]; simp) vb p4
        have ha : ad = ⟨ad.block, ad.off, none⟩ := addr_eta p2
        have hbase : G.base 0 = some ⟨ad.block, ad.off, none⟩ := by rw [p1, ← ha]
        have m1 := Nat.mul_le_mul_right r.size c2
        have m2 : (ni + ys.length) * r.size = ni * r.size + ys.length * r.size := Nat.add_mul _ _ _
        have m3 : (xs.length + ys.length) * r.size = xs.length * r.size + ys.length * r.size := Nat.add_mul _ _ _
        have hd : (cs.drop (ni * r.size)).length = xs.length * r.size - ni * r.size := by rw [List.length_drop, q1]
        have hpos : 0 < ys.length * r.size := Nat.mul_pos hm r.size_pos
        have hxrow : ∀ (k : Nat) (x : r.den), xs[k]? = some x → ∀ {vs' : Array Value} {o : Nat}, (∀ q, q < r.size → vs'[o + q]? = cs[k * r.size + q]?) → RelRow w (fun b => G.zone b = .frz) r vs' o x := by
          intro k x hx vs' o hq
          have hk : k < xs.length := (List.getElem?_eq_some_iff.1 hx).1
          have n1 := Nat.mul_le_mul_right r.size hk
          rw [Nat.succ_mul] at n1
          refine RelRow.alike r (fun q hq' => ?_) (p6 k x hx)
          rw [hq q hq', q2 _ (by omega)]
          congr 1; omega
        -- the rows, read
        have rows_of : ∀ {vs' : Array Value} {o : Nat}, (∀ k, k < (xs.length + ys.length) * r.size → vs'[o + k]? = if k < ni * r.size then cs[k]? else if k < (ni + ys.length) * r.size then cv[k - ni * r.size]? else cs[k - ys.length * r.size]?) →
            ∀ (k : Nat) (x : r.den), (xs.take ni ++ ys ++ xs.drop ni)[k]? = some x → RelRow w (fun b => G.zone b = .frz) r vs' (o + k * r.size) x := by
          intro vs' o hv k x hx
          have hxl : k < xs.length + ys.length := by rw [← e1]; exact (List.getElem?_eq_some_iff.1 hx).1
          have n1 := Nat.mul_le_mul_right r.size hxl
          rw [Nat.succ_mul] at n1
          rw [List.append_assoc] at hx
          by_cases hk : k < ni
          · have n2 := Nat.mul_le_mul_right r.size hk
            rw [Nat.succ_mul] at n2
            rw [List.getElem?_append_left (by rw [List.length_take]; omega), List.getElem?_take, if_pos hk] at hx
            refine hxrow k x hx fun q hq => ?_
            rw [Nat.add_assoc, hv _ (by omega), if_pos (by omega)]
          · have n2 := Nat.mul_le_mul_right r.size (Nat.le_of_not_lt hk)
            rw [List.getElem?_append_right (by rw [List.length_take]; omega), List.length_take, show min ni xs.length = ni by omega] at hx
            by_cases hk2 : k < ni + ys.length
            · have n3 := Nat.mul_le_mul_right r.size hk2
              rw [Nat.succ_mul] at n3
              rw [List.getElem?_append_left (by omega)] at hx
              refine hyrow _ x hx fun q hq => ?_
              rw [Nat.add_assoc, hv _ (by omega), if_neg (by omega), if_pos (by omega), Nat.sub_mul]
              congr 1; omega
            · have n3 := Nat.mul_le_mul_right r.size (Nat.le_of_not_lt hk2)
              rw [List.getElem?_append_right (by omega), List.getElem?_drop] at hx
              refine hxrow _ x hx fun q hq => ?_
              have n4 : (ni + (k - ni - ys.length)) * r.size = k * r.size - ys.length * r.size := by
                rw [show ni + (k - ni - ys.length) = k - ys.length by omega, Nat.sub_mul]
              rw [Nat.add_assoc, hv _ (by omega), if_neg (by omega), if_neg (by omega), n4]
              congr 1; omega
        by_cases hfit : xs.length + ys.length ≤ G.cap 0
        · -- there is room
          have hfl := Nat.mul_le_mul_right r.size hfit
          have hne : ad2.block ≠ ad.block := fun e => by
            rw [e, p3] at g3
            rcases g3 with g3 | g3 <;> cases g3
          obtain ⟨eA, fA, hA⟩ := id g4
          obtain ⟨eB, fB, hB⟩ := id p4
          rw [hbase, hbase2]
          refine (hshift ad.block ad.off xs.length (G.cap 0) ni ad2.block ad2.off ys.length (G.cap 1) cs cv w hlt hm hfit (by omega) hne q1 y1 q3 (fun j hj => by rw [p4.cell, Array.getElem?_eq_getElem (by omega)]; rfl) (fun j hj => hth _ (by omega)) y3 q4 y4
            eA eB vb2.size vb.size (by simp [World.shape?, hA]) (by simp [World.shape?, hB]) (by omega) (hcl hrow (by omega) ad vb p1 p4)).mono fun e w' he => ?_
          obtain ⟨rfl, rfl⟩ := he
          refine fin ?_ e1.symm
          have hwr := wrote_two (rows' := xs.take ni ++ ys ++ xs.drop ni) (o1 := ad.off + (ni + ys.length) * r.size) (o2 := ad.off + ni * r.size) (us1 := cs.drop (ni * r.size)) (us2 := cv) (cap' := 0) hh p2 p3 p4 p5 (by rw [← p1]; exact hcl) (by rw [e1]; omega) (by rw [hd]; omega) (by rw [y1]; omega) ?_
          · rw [← ha]
            exact hwr
          · intro vs' hv
            refine rows_of fun k hk => ?_
            rw [hv]
            by_cases k1 : k < ni * r.size
            · rw [if_pos k1, if_neg (by omega), if_neg (by omega), q2 _ (by omega)]
            · rw [if_neg k1]
              by_cases k2 : k < (ni + ys.length) * r.size
              · rw [if_pos k2, if_pos (by rw [y1]; omega)]
                congr 1; omega
              · rw [if_neg k2, if_neg (by rw [y1]; omega), if_pos (by rw [hd]; omega), List.getElem?_drop]
                congr 1; omega
        · -- there is none
          rw [hbase, hbase2]
          refine (hgrow ad.block ad.off xs.length (G.cap 0) ni ad2.block ad2.off ys.length (G.cap 1) cs cv w hlt hm hl (by omega) c3 q1 y1 q3 y3 q4 y4).mono fun e' w' he => ?_
          obtain ⟨rfl, rfl⟩ := he
          refine fin ?_ e1.symm
          have hge := grownCap_ge w (xs.length + ys.length) (G.cap 0) e
          have hzl : ∀ k, (Builtin.zeroCells z.cells k).size = k * r.size := fun k => by simp [Builtin.zeroCells, hzs]
          have htl : (cs.take (ni * r.size)).length = ni * r.size := by rw [List.length_take, q1]; omega
          have s1 : (xs.length + ys.length - ni) * r.size = xs.length * r.size + ys.length * r.size - ni * r.size := by rw [Nat.sub_mul, m3]
          have s2 : (grownCap w (xs.length + ys.length) (G.cap 0) e - (xs.length + ys.length)) * r.size = grownCap w (xs.length + ys.length) (G.cap 0) e * r.size - (xs.length * r.size + ys.length * r.size) := by rw [Nat.sub_mul, m3]
          have s3 := Nat.mul_le_mul_right r.size hge
          have hRS : ((cs.take (ni * r.size)).toArray ++ Builtin.zeroCells z.cells (xs.length + ys.length - ni) ++ Builtin.zeroCells z.cells (grownCap w (xs.length + ys.length) (G.cap 0) e - (xs.length + ys.length))).size = grownCap w (xs.length + ys.length) (G.cap 0) e * r.size := by
            rw [Array.size_append, Array.size_append, hzl, hzl, List.size_toArray, htl, s1, s2]; omega
          refine wrote_grow hh (by rw [e1]; exact hge) (by rw [hRS]; exact Nat.le_refl _) (by rw [hRS, y1]; omega) (by rw [hRS, hd]; omega) ?_
          intro vs' hv k x hx
          have := rows_of (vs' := vs') (o := 0) (fun k hk => ?_) k x hx
          · rwa [Nat.zero_add] at this
          · rw [Nat.zero_add, hv]
            by_cases k1 : k < ni * r.size
            · rw [if_pos k1, if_neg (by omega), if_neg (by omega), Array.getElem?_append_left (by rw [Array.size_append, List.size_toArray, htl]; omega), Array.getElem?_append_left (by rw [List.size_toArray, htl]; omega), List.getElem?_toArray, List.getElem?_take, if_pos k1]
            · rw [if_neg k1]
              by_cases k2 : k < (ni + ys.length) * r.size
              · rw [if_pos k2, if_neg (by omega), if_pos (by rw [y1]; omega)]
              · rw [if_neg k2, if_pos (by rw [hd]; omega), List.getElem?_drop]
                congr 1; omega
end Go.Sx

/- strings.Repeat: the contract. -/
set_option linter.unusedVariables false
set_option linter.unusedSimpArgs false
namespace Go.Sx

theorem repL_eq (l : List UInt8) : ∀ n, repL l n = Lib.repeatL l n
  | 0 => rfl
  | n + 1 => by
    show l ++ repL l n = _
    rw [repL_eq l n]
    simp [Lib.repeatL, List.replicate_succ]

theorem args2 {G : Gh} {w : World} {h : List Ent} {vs : Array Value} {x y : TV} (ha : RelArgs G w h vs [x, y]) : ∃ u v, vs = #[u, v] ∧ RelTV G w h u x ∧ RelTV G w h v y := by
  obtain ⟨h0, h1⟩ := ha
  obtain ⟨u, p1, p2⟩ := h1 0 x rfl
  obtain ⟨v, q1, q2⟩ := h1 1 y rfl
  refine ⟨u, v, ?_, p2, q2⟩
  apply Array.ext'
  obtain ⟨l⟩ := vs
  simp only [List.size_toArray, List.length_cons, List.length_nil] at h0
  match l, h0 with
  | [a, b], _ => simp_all

theorem rep_fok {P : Program} {f : FuncId} (able : ∃ fn, P.funcs[f]? = some fn ∧ (fn.name == "runtime.NumGoroutine") = false ∧ fn.body.isNone = false)
    (hrep : ∀ (s : ByteArray) (c : Nat) (w : World), c ≤ 9223372036854775807 → s.size * c ≤ 140737488355328 → Calls P f #[.string s, .int .i64 c] w fun e w' => e = .returned (.string ⟨(Lib.repeatL s.data.toList c).toArray⟩) ∧ RowKit.Below w.heap.size w w') : FOk P ⟨f, repSgn, repFn⟩ := by
  rintro ⟨s, c, ⟨⟩⟩ res h
  have h : (if (decide (0 ≤ c) && (decide (c ≤ 2147483648) && decide (s.size ≤ 65536))) = true then some ((⟨(repL s.data.toList c.toNat).toArray⟩ : ByteArray), ()) else none) = some res := h
  split at h
  case isFalse => cases h
  rename_i hc
  rw [Bool.and_eq_true, Bool.and_eq_true, decide_eq_true_eq, decide_eq_true_eq, decide_eq_true_eq] at hc
  obtain ⟨c1, c2, c3⟩ := hc
  have h := Option.some.inj h
  subst h
  refine ⟨able, fun G w vs hh hargs => ?_⟩
  have hargs : RelArgs G w [] vs [.c (.v (.str s)), .c (.v (.int .i64 c))] := hargs
  have hh : RelH G w [] := hh
  obtain ⟨u, v, rfl, hu, hv⟩ := args2 hargs
  have hu : u = .string s := hu
  have hv : v = .int .i64 c := hv
  subst hu hv
  obtain ⟨n, rfl⟩ := Int.eq_ofNat_of_zero_le c1
  have c2 : n ≤ 2147483648 := Int.ofNat_le.1 c2
  have c3 : s.size ≤ 65536 := c3
  have hm : s.size * n ≤ 65536 * 2147483648 := Nat.mul_le_mul c3 c2
  show Calls P f #[.string s, .int .i64 n] w fun e w' => ∃ v G', e = .returned v ∧ Ext G w G' w' ∧ RelH G' w' [] ∧ v = .string ⟨(repL s.data.toList n).toArray⟩ ∧ Keep 0 G w [] G' w' []
  refine (hrep s n w (by omega) (by omega)).mono fun e w' he => ?_
  obtain ⟨rfl, hb⟩ := he
  refine ⟨_, { G with zone := fun b => if b < w.heap.size then G.zone b else .hid }, rfl, ⟨hb.size, hb.os, hb.tape, hb.output, fun b hlt hz => ⟨by simp only [if_pos hlt]; exact hz, hb.block b hlt⟩, fun b hlt hz => ⟨by simp only [if_pos hlt]; exact hz, hb.block b hlt⟩⟩, ⟨fun k e he => by simp at he, fun b hz hz' vs hv i hi => ?_⟩, by rw [repL_eq], ⟨fun _ hn => absurd hn (Nat.not_lt_zero _), fun _ _ hn => absurd hn (Nat.not_lt_zero _), fun _ _ hn => absurd hn (Nat.not_lt_zero _)⟩⟩
  by_cases hlt : b < w.heap.size
  · simp only [if_pos hlt] at hz hz'
    have h1 := hb.block b hlt
    have := hh.thaw b hz hz' vs (hv.same h1.symm) i hi
    unfold World.frozen? at *
    rw [h1]; exact this
  · simp only [if_neg hlt] at hz'
    exact absurd rfl hz'
end Go.Sx

/- What comes in from outside: values that read as data. -/
set_option linter.unusedVariables false
set_option linter.unusedSimpArgs false
namespace Go.Sx

mutual
/-- Numbers are of their kind; texts and rows have a length that Go knows. -/
def Ty.wf : (t : Ty) → t.den → Prop
  | .int k, x => (fun (n : Int) => k.min ≤ n ∧ n ≤ k.max) x
  | .bool, _ => True
  | .str, x => ByteArray.size x ≤ maxLen
  | .sl r, xs => (fun (ys : List r.den) => ys.length ≤ maxLen ∧ ∀ y ∈ ys, r.wf y) xs
def Row.wf : (r : Row) → r.den → Prop
  | .one t, x => t.wf x
  | .cons t r, x => t.wf x.1 ∧ r.wf x.2
end

/-- The cells of a type without arrays. -/
def tysIn (P : Program) : Nat → TypeId → Option (List Ty)
  | 0, _ => none
  | n + 1, t => match P.underlying t with
    | some (.int k) => some [.int k]
    | some .bool => some [.bool]
    | some .string => some [.str]
    | some (.slice e) => match tysIn P n e with
      | some l => (mkRow l).map fun r => [.sl r]
      | none => none
    | some (.struct fs) => fs.toList.foldr (fun f acc => match tysIn P n f.type, acc with
      | some a, some b => some (a ++ b)
      | _, _ => none) (some [])
    | _ => none

def anyZ : Nat → Prop := fun _ => True

/-- Cells that read as data. -/
def Opens (w : World) : List Ty → List Value → Prop
  | [], [] => True
  | t :: l, v :: cs => (∃ x, RelCell w anyZ t v x ∧ t.wf x) ∧ Opens w l cs
  | _, _ => False

theorem Opens.length {w : World} : ∀ {l : List Ty} {cs : List Value}, Opens w l cs → cs.length = l.length
  | [], [], _ => rfl
  | t :: l, v :: cs, h => by simp [Opens.length h.2]
  | [], _ :: _, h => h.elim
  | _ :: _, [], h => h.elim

theorem Opens.append {w : World} : ∀ {l m : List Ty} {cs ds : List Value}, Opens w l cs → Opens w m ds → Opens w (l ++ m) (cs ++ ds)
  | [], _, [], _, _, h => h
  | t :: l, m, v :: cs, ds, h, h' => ⟨h.1, Opens.append h.2 h'⟩
  | [], _, _ :: _, _, h, _ => h.elim
  | _ :: _, _, [], _, h, _ => h.elim

theorem mkRow_size : ∀ {l : List Ty} {r : Row}, mkRow l = some r → r.size = l.length
  | [], r, h => by cases h
  | [t], r, h => by simp only [mkRow, Option.some.injEq] at h; subst h; rfl
  | t :: u :: l, r, h => by
    simp only [mkRow, Option.map_eq_some_iff] at h
    obtain ⟨r', h1, rfl⟩ := h
    have := mkRow_size h1
    simp only [Row.size, this, List.length_cons]

theorem opens_row {w : World} {vs : Array Value} : ∀ {l : List Ty} {r : Row} {cs : List Value} {o : Nat}, mkRow l = some r → Opens w l cs → (∀ j v, cs[j]? = some v → vs[o + j]? = some v) → ∃ x, RelRow w anyZ r vs o x ∧ r.wf x
  | [], r, cs, o, h, _, _ => by cases h
  | [t], r, [v], o, h, hc, hv => by
    simp only [mkRow, Option.some.injEq] at h
    subst h
    obtain ⟨⟨x, h1, h2⟩, _⟩ := hc
    refine ⟨x, ?_, ?_⟩
    · simp only [RelRow]
      exact ⟨v, by have := hv 0 v rfl; simpa using this, h1⟩
    · simp only [Row.wf]; exact h2
  | [t], r, [], o, h, hc, hv => hc.elim
  | [t], r, v :: v' :: cs, o, h, hc, hv => hc.2.elim
  | t :: u :: l, r, [], o, h, hc, hv => hc.elim
  | t :: u :: l, r, v :: cs, o, h, hc, hv => by
    simp only [mkRow, Option.map_eq_some_iff] at h
    obtain ⟨r', h1, rfl⟩ := h
    obtain ⟨⟨x, k1, k2⟩, k3⟩ := hc
    obtain ⟨y, y1, y2⟩ := opens_row (o := o + 1) h1 k3 (fun j v' hj => by have := hv (j + 1) v' (by simpa using hj); rwa [show o + (j + 1) = o + 1 + j by omega] at this)
    refine ⟨(x, y), ?_, ?_⟩
    · simp only [RelRow]
      exact ⟨⟨v, by have := hv 0 v rfl; simpa using this, k1⟩, y1⟩
    · simp only [Row.wf]; exact ⟨k2, y2⟩

theorem exists_list {α : Type} {p : Nat → α → Prop} : ∀ (n : Nat), (∀ i, i < n → ∃ x, p i x) → ∃ xs : List α, xs.length = n ∧ ∀ i x, xs[i]? = some x → p i x
  | 0, _ => ⟨[], rfl, fun i x h => by simp at h⟩
  | n + 1, h => by
    obtain ⟨xs, h1, h2⟩ := exists_list n fun i hi => h i (by omega)
    obtain ⟨x, hx⟩ := h n (by omega)
    refine ⟨xs ++ [x], by simp [h1], fun i y hy => ?_⟩
    by_cases hi : i < xs.length
    · rw [List.getElem?_append_left hi] at hy; exact h2 i y hy
    · rw [List.getElem?_append_right (by omega)] at hy
      have hi' : i - xs.length = 0 := by
        rcases Nat.eq_zero_or_pos (i - xs.length) with h0 | h0
        · exact h0
        · rw [List.getElem?_eq_none (by simp; omega)] at hy; cases hy
      rw [hi'] at hy
      simp only [List.getElem?_cons_zero, Option.some.injEq] at hy
      have : i = n := by omega
      rw [this, ← hy]; exact hx

section
variable {H : Type} {enc : TypeId × Value → H} {P : Program} {w : World} {base : Nat} {held : Bool}

theorem cells_at {b : Nat} {a : Addr} {n : Nat} {cs : List Value} (h : w.cells? b a n = some cs) : cs.length = n ∧ ∀ j v, cs[j]? = some v → w.cell? (a.add j) = some v := by
  obtain ⟨_, h2, h3⟩ := World.cells?_some h
  refine ⟨h2, fun j v hj => ?_⟩
  have hlt : j < n := by rw [← h2]; exact (List.getElem?_eq_some_iff.1 hj).1
  have := h3 j hlt
  rw [this, hj]

theorem cell_blk {a : Addr} {v : Value} (h : w.cell? a = some v) : a.spot = none ∧ ∃ vs, Blk w a.block vs ∧ vs[a.off]? = some v := by
  unfold World.cell? at h
  split at h
  · rename_i c e fr hb
    cases hs : a.spot with
    | some s => rw [hs] at h; simp at h
    | none => rw [hs] at h; exact ⟨rfl, c, ⟨e, fr, hb⟩, h⟩
  · cases h

theorem fields_opens (hk : Kids P (· < P.types.size)) {n k : Nat} (ih : ∀ t l fuel cs x, t < P.types.size → tysIn P n t = some l → DataW.trod enc P w base (fun _ => true) held fuel t cs = some x → Opens w l cs) {cs : List Value} :
    ∀ (fs : List Field) (o : Nat) (l : List Ty), (∀ f ∈ fs, f.type < P.types.size) → fs.foldr (fun f acc => match tysIn P n f.type, acc with
      | some a, some b => some (a ++ b)
      | _, _ => none) (some []) = some l →
      (∀ (j : Nat) f, fs[j]? = some f → f.offset = o + ((fs.take j).map fun f => P.cellsOf f.type).sum) →
      (∀ (j : Nat) f, fs[j]? = some f → ∃ x, DataW.trod enc P w base (fun _ => true) held k f.type ((cs.drop f.offset).take (P.cellsOf f.type)) = some x) →
      cs.length = o + (fs.map fun f => P.cellsOf f.type).sum → Opens w l (cs.drop o)
  | [], o, l, _, hl, _, _, hlen => by
    simp only [List.foldr_nil, Option.some.injEq] at hl
    subst hl
    simp only [List.map_nil, List.sum_nil, Nat.add_zero] at hlen
    rw [List.drop_of_length_le (by omega)]
    trivial
  | f :: fs, o, l, hT, hl, ho, ht, hlen => by
    simp only [List.foldr_cons] at hl
    cases h1 : tysIn P n f.type with
    | none => rw [h1] at hl; cases hl
    | some a =>
      rw [h1] at hl
      cases h2 : fs.foldr (fun f acc => match tysIn P n f.type, acc with
        | some a, some b => some (a ++ b)
        | _, _ => none) (some []) with
      | none => rw [h2] at hl; cases hl
      | some b =>
        rw [h2] at hl
        simp only [Option.some.injEq] at hl
        subst hl
        have hoff := ho 0 f rfl
        simp only [List.take_zero, List.map_nil, List.sum_nil, Nat.add_zero] at hoff
        obtain ⟨x, hx⟩ := ht 0 f rfl
        rw [hoff] at hx
        have hp := ih _ _ _ _ _ (hT f List.mem_cons_self) h1 hx
        simp only [List.map_cons, List.sum_cons] at hlen
        have hrest := fields_opens hk ih fs (o + P.cellsOf f.type) b (fun g hg => hT g (List.mem_cons_of_mem _ hg)) h2 (fun j g hj => by
          have := ho (j + 1) g (by simpa using hj)
          simp only [List.take_succ_cons, List.map_cons, List.sum_cons] at this
          omega) (fun j g hj => ht (j + 1) g (by simpa using hj)) (by omega)
        have e : cs.drop o = (cs.drop o).take (P.cellsOf f.type) ++ cs.drop (o + P.cellsOf f.type) := by
          rw [← List.drop_drop, List.take_append_drop]
        rw [e]
        exact hp.append hrest

theorem open_trod (hk : Kids P (· < P.types.size)) : ∀ (n : Nat) (t : TypeId) (l : List Ty) (fuel : Nat) (cs : List Value) (x : DataW H × List MemPlace), t < P.types.size → tysIn P n t = some l →
    DataW.trod enc P w base (fun _ => true) held fuel t cs = some x → Opens w l cs := by
  intro n
  induction n with
  | zero => intro t l fuel cs x _ h; cases h
  | succ n ih =>
    intro t l fuel cs x hT hl h
    unfold tysIn at hl
    split at hl
    · rename_i k hu
      simp only [Option.some.injEq] at hl
      subst hl
      obtain ⟨m, rfl, _, hw⟩ := DataW.trod_int hu h
      refine ⟨⟨m, by simp only [RelCell], ?_⟩, trivial⟩
      simp only [Lit.wf, Bool.and_eq_true, decide_eq_true_eq] at hw
      simp only [Ty.wf]; exact hw
    · rename_i hu
      simp only [Option.some.injEq] at hl
      subst hl
      obtain ⟨b, rfl, _⟩ := DataW.trod_bool hu h
      exact ⟨⟨b, by simp only [RelCell], by simp only [Ty.wf]⟩, trivial⟩
    · rename_i hu
      simp only [Option.some.injEq] at hl
      subst hl
      obtain ⟨s, rfl, _, hs⟩ := DataW.trod_string hu h
      exact ⟨⟨s, by simp only [RelCell], by simp only [Ty.wf]; exact hs⟩, trivial⟩
    · rename_i e hu
      cases he : tysIn P n e with
      | none => rw [he] at hl; cases hl
      | some le =>
        rw [he] at hl
        simp only [Option.map_eq_some_iff] at hl
        obtain ⟨r, hr, rfl⟩ := hl
        have hTe := hk.slice hT hu
        rcases DataW.trod_slice hu h with ⟨rfl, _⟩ | ⟨a, len, cap, elems, rest, m, _, rfl, _, hb, hlc, hm, hlen, hel, hsp, _⟩
        · refine ⟨⟨([] : List r.den), ?_, ?_⟩, trivial⟩
          · exact relCell_sl.2 ⟨none, 0, rfl, (Nat.le_refl 0 : ([] : List r.den).length ≤ 0), .inl rfl⟩
          · simp only [Ty.wf]; exact ⟨Nat.zero_le _, fun y hy => by cases hy⟩
        · have hsz := mkRow_size hr
          -- each of the places
          have each : ∀ i, i < cap → ∃ cs', w.cells? base (a.add (i * P.cellsOf e)) (P.cellsOf e) = some cs' ∧ Opens w le cs' := by
            intro i hi
            have hb' : ∃ y, (w.cells? base (a.add (i * P.cellsOf e)) (P.cellsOf e)).bind (DataW.trod enc P w base (fun _ => true) held m e) = some y := by
              by_cases hil : i < len
              · exact ⟨elems[i], by rw [hel i hil]; exact List.getElem?_eq_getElem (by omega)⟩
              · obtain ⟨h1, h2⟩ := hsp rfl
                have := h2 (i - len) (by omega)
                rw [show len + (i - len) = i by omega] at this
                exact ⟨rest[i - len]'(by omega), by rw [this]; exact List.getElem?_eq_getElem (by omega)⟩
            obtain ⟨y, hy⟩ := hb'
            rw [Option.bind_eq_some_iff] at hy
            obtain ⟨cs', h1, h2⟩ := hy
            exact ⟨cs', h1, ih _ _ _ _ _ hTe he h2⟩
          have hpos : 0 < r.size := r.size_pos
          by_cases hc0 : cap = 0
          · have : len = 0 := by omega
            subst this
            refine ⟨⟨([] : List r.den), ?_, ?_⟩, trivial⟩
            · exact relCell_sl.2 ⟨some a, cap, rfl, (Nat.zero_le _ : ([] : List r.den).length ≤ cap), .inl hc0⟩
            · simp only [Ty.wf]; exact ⟨Nat.zero_le _, fun y hy => by cases hy⟩
          · have hsize : P.cellsOf e = r.size := by
              obtain ⟨cs', h1, h2⟩ := each 0 (by omega)
              rw [hsz, ← h2.length, (cells_at h1).1]
            rw [hsize] at each
            -- the block
            obtain ⟨cs0, z1, z2⟩ := each 0 (by omega)
            have hl0 := (cells_at z1).1
            have hcell0 := (cells_at z1).2 0 cs0[0] (List.getElem?_eq_getElem (by omega))
            have ha0 : (a.add (0 * r.size)).add 0 = a := by simp [Addr.add]
            rw [ha0] at hcell0
            obtain ⟨hspot, vs, hblk, _⟩ := cell_blk hcell0
            have hadd : ∀ k : Nat, a.add k = ⟨a.block, a.off + k, none⟩ := fun k => by
              rw [addr_eta hspot, Addr.add_lit]
            have hread : ∀ i, i < cap → ∃ cs', Opens w le cs' ∧ cs'.length = r.size ∧ ∀ j v, cs'[j]? = some v → vs[a.off + i * r.size + j]? = some v := by
              intro i hi
              obtain ⟨cs', h1, h2⟩ := each i hi
              refine ⟨cs', h2, (cells_at h1).1, fun j v hj => ?_⟩
              have := (cells_at h1).2 j v hj
              rw [hadd, Addr.add_lit, hblk.cell] at this
              exact this
            obtain ⟨xs, x1, x2⟩ := exists_list (p := fun i x => RelRow w anyZ r vs (a.off + i * r.size) x ∧ r.wf x) len fun i hi => by
              obtain ⟨cs', h1, h2, h3⟩ := hread i (by omega)
              exact opens_row hr h1 h3
            refine ⟨⟨xs, ?_, ?_⟩, trivial⟩
            · refine relCell_sl.2 ⟨some a, cap, by rw [x1], by rw [x1]; exact hlc, .inr ⟨a, vs, rfl, hspot, trivial, hblk, ?_, fun i x hx => (x2 i x hx).1⟩⟩
              obtain ⟨cs', h1, h2, h3⟩ := hread (cap - 1) (by omega)
              have := h3 (r.size - 1) cs'[r.size - 1] (List.getElem?_eq_getElem (by omega))
              have hlt := (Array.getElem?_eq_some_iff.1 this).1
              have e1 : cap * r.size = (cap - 1) * r.size + r.size := by
                rw [← Nat.succ_mul]; congr 1; omega
              omega
            · simp only [Ty.wf]
              refine ⟨by rw [x1]; omega, fun y hy => ?_⟩
              obtain ⟨i, hi⟩ := List.getElem?_of_mem hy
              exact (x2 i y hi).2
    · rename_i fs hu
      obtain ⟨xs, m, _, _, hcl, hxl, hf⟩ := DataW.trod_struct hu h
      obtain ⟨q1, q2, q3⟩ := hk.struct hT hu
      have := fields_opens (enc := enc) (k := m) (held := held) (base := base) hk ih (cs := cs) fs.toList 0 l q1 hl (fun j f hj => by rw [Nat.zero_add]; exact q3 j f hj) (fun j f hj => by
        have h1 := hf j f (by rw [← Array.getElem?_toList]; exact hj)
        have hlt : j < xs.length := by rw [hxl]; have := (List.getElem?_eq_some_iff.1 hj).1; simpa using this
        rw [List.getElem?_eq_getElem hlt] at h1
        exact ⟨_, h1⟩) (by rw [hcl, q2]; omega)
      simpa using this
    · cases hl
end
end Go.Sx

/- What comes in from outside, as shapes. -/
set_option linter.unusedVariables false
set_option linter.unusedSimpArgs false
namespace Go.Sx

def bshOf : Nat → List Ty → List BSh
  | _, [] => []
  | i, .int k :: l => .int k :: bshOf i l
  | i, .bool :: l => .bool :: bshOf i l
  | i, .str :: l => .str :: bshOf i l
  | i, .sl _ :: l => .ref i :: bshOf (i + 1) l
def rowsOf : List Ty → List Row
  | [] => []
  | .sl r :: l => r :: rowsOf l
  | _ :: l => rowsOf l

/-- The shapes of parameters: whether each is a struct, its cells. -/
def argsOf : Nat → List (Bool × List Ty) → List TSh
  | _, [] => []
  | i, (true, l) :: ps => .one (.agg (bshOf i l)) :: argsOf (i + (rowsOf l).length) ps
  | i, (false, l) :: ps => .one (match bshOf i l with | [b] => .v b | _ => .agg []) :: argsOf (i + (rowsOf l).length) ps
def entsOf (ps : List (Bool × List Ty)) : List ESh := (ps.flatMap fun p => rowsOf p.2).map fun r => .arr r false false true

/-- The data are of their kinds. -/
def HWf : (hs : List Hole) → HL hs → Prop
  | [], _ => True
  | .int k :: hs, x => (fun (n : Int) => k.min ≤ n ∧ n ≤ k.max) x.1 ∧ HWf hs x.2
  | .bool :: hs, x => HWf hs x.2
  | .str :: hs, x => ByteArray.size x.1 ≤ maxLen ∧ HWf hs x.2
  | .nat :: hs, x => HWf hs x.2
  | .rows r :: hs, x => (x.1.length ≤ maxLen ∧ ∀ y ∈ x.1, r.wf y) ∧ HWf hs x.2

/-- Slices of the list are rows from i on. -/
def CellIs (w : World) (i : Nat) (es : List Ent) (bc : List (Option Addr × Nat)) (u : Value) : BV → Prop
  | .int k n => u = .int k n
  | .bool b => u = .bool b
  | .str s => u = .string s
  | .ref k => ∃ j r xs, k = i + j ∧ es[j]? = some (inArr false r xs) ∧ ∃ b c, bc[j]? = some (b, c) ∧ u = .slice b xs.length c
  | _ => False

def EntsFit : List Row → List Ent → Prop
  | [], [] => True
  | r :: rs, e :: es => (∃ xs : List r.den, e = inArr false r xs ∧ xs.length ≤ maxLen ∧ ∀ y ∈ xs, r.wf y) ∧ EntsFit rs es
  | _, _ => False

theorem EntsFit.append : ∀ {rs rt : List Row} {es et : List Ent}, EntsFit rs es → EntsFit rt et → EntsFit (rs ++ rt) (es ++ et)
  | [], _, [], _, _, h => h
  | r :: rs, _, e :: es, _, h, h' => ⟨h.1, EntsFit.append h.2 h'⟩
  | [], _, _ :: _, _, h, _ => h.elim
  | _ :: _, _, [], _, h, _ => h.elim

theorem EntsFit.length : ∀ {rs : List Row} {es : List Ent}, EntsFit rs es → es.length = rs.length
  | [], [], _ => rfl
  | _ :: _, _ :: _, h => by simp [EntsFit.length h.2]
  | [], _ :: _, h => h.elim
  | _ :: _, [], h => h.elim

theorem decL_cons {rest : List Hole} {x : HL rest} {s : ESh} {l : List ESh} {c : Ent} {cs : List Ent} {y : HL (ESh.holesL rest l)} {z : HL (s.holes (ESh.holesL rest l))} (h1 : ESh.decL x l cs = some y) (h2 : s.dec y c = some z) : ESh.decL x (s :: l) (c :: cs) = some z := by
  simp only [ESh.decL, h1, h2]

theorem EntsFit.dec {rest : List Hole} {x : HL rest} (hx : HWf rest x) : ∀ {rs : List Row} {es : List Ent}, EntsFit rs es → ∃ y, ESh.decL x (rs.map fun r => ESh.arr r false false true) es = some y ∧ HWf _ y
  | [], [], _ => ⟨x, rfl, hx⟩
  | r :: rs, e :: es, h => by
    obtain ⟨⟨xs, rfl, h1, h2⟩, h3⟩ := h
    obtain ⟨y, y1, y2⟩ := EntsFit.dec hx h3
    refine ⟨(xs, y), ?_, ⟨h1, h2⟩, y2⟩
    exact decL_cons y1 (by simp [ESh.dec, inArr, Arr.flags, Arr.asRows])
  | [], _ :: _, h => h.elim
  | _ :: _, [], h => h.elim

def EntsOk (w : World) (es : List Ent) (bc : List (Option Addr × Nat)) : Prop :=
  es.length = bc.length ∧ ∀ (j : Nat) (e : Ent), es[j]? = some e → ∃ r xs b c, e = inArr false r xs ∧ bc[j]? = some (b, c) ∧ RelSl w anyZ anyZ r b c xs

theorem CellIs.cons {w : World} {i : Nat} {es : List Ent} {bc : List (Option Addr × Nat)} {e : Ent} {x : Option Addr × Nat} {u : Value} {b : BV} (h : CellIs w (i + 1) es bc u b) : CellIs w i (e :: es) (x :: bc) u b := by
  cases b with
  | ref k => obtain ⟨j, r, xs, h1, h2, b', c, h3, h4⟩ := h; exact ⟨j + 1, r, xs, by omega, by simpa using h2, b', c, by simpa using h3, h4⟩
  | _ => exact h

/-- One row of cells: the values as the interpreter has them, the rows among them, both decoded. -/
theorem build_cells {w : World} : ∀ (l : List Ty) (cs : List Value) (i : Nat), Opens w l cs → ∃ (bs : List BV) (es : List Ent) (bc : List (Option Addr × Nat)), EntsOk w es bc ∧ bs.length = cs.length ∧ EntsFit (rowsOf l) es ∧
    (∀ (j : Nat) (b : BV), bs[j]? = some b → ∃ u, cs[j]? = some u ∧ u.oneCell' = true ∧ CellIs w i es bc u b) ∧
    (∀ (rest : List Hole) (x : HL rest), HWf rest x → ∃ y, BSh.decL x (bshOf i l) bs = some y ∧ HWf _ y)
  | [], [], i, _ => ⟨[], [], [], ⟨rfl, fun j e h => by simp at h⟩, rfl, trivial, fun j b h => by simp at h, fun rest x hx => ⟨x, rfl, hx⟩⟩
  | [], _ :: _, i, h => h.elim
  | _ :: _, [], i, h => h.elim
  | .int k :: l, v :: cs, i, h => by
    obtain ⟨⟨n, h1, h2⟩, h3⟩ := h
    simp only [RelCell] at h1
    simp only [Ty.wf] at h2
    subst h1
    obtain ⟨bs, es, bc, k1, k2, k3, k4, k5⟩ := build_cells l cs i h3
    refine ⟨.int k n :: bs, es, bc, k1, by simp [k2], k3, fun j b hb => ?_, fun rest x hx => ?_⟩
    · cases j with
      | zero => simp only [List.getElem?_cons_zero, Option.some.injEq] at hb; subst hb; exact ⟨_, rfl, rfl, rfl⟩
      | succ j => exact k4 j b (by simpa using hb)
    · obtain ⟨y, y1, y2⟩ := k5 rest x hx
      refine ⟨(n, y), ?_, h2, y2⟩
      simp only [bshOf, BSh.decL, y1, BSh.dec, if_true]
  | .bool :: l, v :: cs, i, h => by
    obtain ⟨⟨n, h1, h2⟩, h3⟩ := h
    simp only [RelCell] at h1
    subst h1
    obtain ⟨bs, es, bc, k1, k2, k3, k4, k5⟩ := build_cells l cs i h3
    refine ⟨.bool n :: bs, es, bc, k1, by simp [k2], k3, fun j b hb => ?_, fun rest x hx => ?_⟩
    · cases j with
      | zero => simp only [List.getElem?_cons_zero, Option.some.injEq] at hb; subst hb; exact ⟨_, rfl, rfl, rfl⟩
      | succ j => exact k4 j b (by simpa using hb)
    · obtain ⟨y, y1, y2⟩ := k5 rest x hx
      exact ⟨(n, y), by simp only [bshOf, BSh.decL, y1, BSh.dec], y2⟩
  | .str :: l, v :: cs, i, h => by
    obtain ⟨⟨n, h1, h2⟩, h3⟩ := h
    simp only [RelCell] at h1
    simp only [Ty.wf] at h2
    subst h1
    obtain ⟨bs, es, bc, k1, k2, k3, k4, k5⟩ := build_cells l cs i h3
    refine ⟨.str n :: bs, es, bc, k1, by simp [k2], k3, fun j b hb => ?_, fun rest x hx => ?_⟩
    · cases j with
      | zero => simp only [List.getElem?_cons_zero, Option.some.injEq] at hb; subst hb; exact ⟨_, rfl, rfl, rfl⟩
      | succ j => exact k4 j b (by simpa using hb)
    · obtain ⟨y, y1, y2⟩ := k5 rest x hx
      exact ⟨(n, y), by simp only [bshOf, BSh.decL, y1, BSh.dec], h2, y2⟩
  | .sl r :: l, v :: cs, i, h => by
    obtain ⟨⟨xs, h1, h2⟩, h3⟩ := h
    obtain ⟨base, cap, rfl, hsl⟩ := relCell_sl.1 h1
    simp only [Ty.wf] at h2
    obtain ⟨bs, es, bc, k1, k2, k3, k4, k5⟩ := build_cells l cs (i + 1) h3
    refine ⟨.ref i :: bs, inArr false r xs :: es, (base, cap) :: bc, ⟨by simp [k1.1], fun j e he => ?_⟩, by simp [k2], ⟨⟨xs, rfl, h2.1, h2.2⟩, k3⟩, fun j b hb => ?_, fun rest x hx => ?_⟩
    · cases j with
      | zero => simp only [List.getElem?_cons_zero, Option.some.injEq] at he; subst he; exact ⟨r, xs, base, cap, rfl, rfl, hsl⟩
      | succ j => obtain ⟨r', xs', b', c', q1, q2, q3⟩ := k1.2 j e (by simpa using he); exact ⟨r', xs', b', c', q1, by simpa using q2, q3⟩
    · cases j with
      | zero =>
        simp only [List.getElem?_cons_zero, Option.some.injEq] at hb
        subst hb
        exact ⟨_, rfl, rfl, 0, r, xs, rfl, rfl, base, cap, rfl, rfl⟩
      | succ j =>
        obtain ⟨u, q1, q2, q3⟩ := k4 j b (by simpa using hb)
        exact ⟨u, by simpa using q1, q2, q3.cons⟩
    · obtain ⟨y, y1, y2⟩ := k5 rest x hx
      refine ⟨y, ?_, y2⟩
      simp only [bshOf, BSh.decL, y1, BSh.dec]
      simp

/-- One argument. -/
def ArgIn (w : World) : Bool × List Ty → Value → Prop
  | (true, l), v => ∃ cs : Array Value, v = .agg cs ∧ Opens w l cs.toList
  | (false, l), v => Opens w l [v]

def ArgsIn (w : World) : List (Bool × List Ty) → List Value → Prop
  | [], [] => True
  | p :: ps, v :: vs => ArgIn w p v ∧ ArgsIn w ps vs
  | _, _ => False

theorem CellIs.more {w : World} {i n : Nat} {es et : List Ent} {bc bd : List (Option Addr × Nat)} (hl : es.length = bc.length) {u : Value} {b : BV} (h : CellIs w i es bc u b) : CellIs w i (es ++ et) (bc ++ bd) u b := by
  cases b with
  | ref k =>
    obtain ⟨j, r, xs, h1, h2, b', c, h3, h4⟩ := h
    have hj : j < es.length := (List.getElem?_eq_some_iff.1 h2).1
    exact ⟨j, r, xs, h1, by rw [List.getElem?_append_left hj]; exact h2, b', c, by rw [List.getElem?_append_left (by omega)]; exact h3, h4⟩
  | _ => exact h

theorem CellIs.behind {w : World} {i n : Nat} {es et : List Ent} {bc bd : List (Option Addr × Nat)} (hl : es.length = bc.length) (hn : es.length = n) {u : Value} {b : BV} (h : CellIs w (i + n) et bd u b) : CellIs w i (es ++ et) (bc ++ bd) u b := by
  cases b with
  | ref k =>
    obtain ⟨j, r, xs, h1, h2, b', c, h3, h4⟩ := h
    refine ⟨n + j, r, xs, by omega, ?_, b', c, ?_, h4⟩
    · rw [List.getElem?_append_right (by omega), show n + j - es.length = j by omega]; exact h2
    · rw [List.getElem?_append_right (by omega), show n + j - bc.length = j by omega]; exact h3
  | _ => exact h

theorem EntsOk.append {w : World} {es et : List Ent} {bc bd : List (Option Addr × Nat)} (h : EntsOk w es bc) (h' : EntsOk w et bd) : EntsOk w (es ++ et) (bc ++ bd) := by
  refine ⟨by simp [h.1, h'.1], fun j e he => ?_⟩
  by_cases hj : j < es.length
  · rw [List.getElem?_append_left hj] at he
    obtain ⟨r, xs, b, c, q1, q2, q3⟩ := h.2 j e he
    exact ⟨r, xs, b, c, q1, by rw [List.getElem?_append_left (by rw [← h.1]; exact hj)]; exact q2, q3⟩
  · rw [List.getElem?_append_right (by omega)] at he
    obtain ⟨r, xs, b, c, q1, q2, q3⟩ := h'.2 _ e he
    exact ⟨r, xs, b, c, q1, by rw [List.getElem?_append_right (by rw [← h.1]; omega), ← h.1]; exact q2, q3⟩

/-- An argument as the interpreter has it. -/
def TvIs (w : World) (i : Nat) (es : List Ent) (bc : List (Option Addr × Nat)) (v : Value) : TV → Prop
  | .c (.v b) => CellIs w i es bc v b
  | .c (.agg bs) => ∃ cs : Array Value, v = .agg cs ∧ cs.size = bs.length ∧ ∀ (j : Nat) (b : BV), bs[j]? = some b → ∃ u, cs[j]? = some u ∧ u.oneCell' = true ∧ CellIs w i es bc u b
  | _ => False

theorem build_args {w : World} : ∀ (ps : List (Bool × List Ty)) (vs : List Value) (i : Nat), ArgsIn w ps vs → ∃ (ts : List TV) (es : List Ent) (bc : List (Option Addr × Nat)), EntsOk w es bc ∧ ts.length = vs.length ∧ EntsFit (ps.flatMap fun p => rowsOf p.2) es ∧
    (∀ (j : Nat) (t : TV), ts[j]? = some t → ∃ v, vs[j]? = some v ∧ TvIs w i es bc v t) ∧ (∀ (rest : List Hole) (x : HL rest), HWf rest x → ∃ y, TSh.decL x (argsOf i ps) ts = some y ∧ HWf _ y)
  | [], [], i, _ => ⟨[], [], [], ⟨rfl, fun j e h => by simp at h⟩, rfl, trivial, fun j b h => by simp at h, fun rest x hx => ⟨x, rfl, hx⟩⟩
  | [], _ :: _, i, h => h.elim
  | _ :: _, [], i, h => h.elim
  | (true, l) :: ps, v :: vs, i, ⟨⟨cs, hv, hc⟩, h⟩ => by
    subst hv
    obtain ⟨bs, es, bc, k1, k2, k3, k4, k5⟩ := build_cells l cs.toList i hc
    obtain ⟨ts, et, bd, m1, m2, m3, m4, m5⟩ := build_args ps vs (i + (rowsOf l).length) h
    have hn := k3.length
    refine ⟨.c (.agg bs) :: ts, es ++ et, bc ++ bd, k1.append m1, by simp [m2], by simp only [List.flatMap_cons]; exact k3.append m3, fun j t ht => ?_, fun rest x hx => ?_⟩
    · cases j with
      | zero =>
        simp only [List.getElem?_cons_zero, Option.some.injEq] at ht
        subst ht
        refine ⟨_, rfl, cs, rfl, by rw [k2]; simp, fun j b hb => ?_⟩
        obtain ⟨u, q1, q2, q3⟩ := k4 j b hb
        exact ⟨u, by rw [← Array.getElem?_toList]; exact q1, q2, q3.more (n := 0) k1.1⟩
      | succ j =>
        obtain ⟨v, q1, q2⟩ := m4 j t (by simpa using ht)
        refine ⟨v, by simpa using q1, ?_⟩
        cases t with
        | tup xs => exact q2.elim
        | c x =>
          cases x with
          | v b => exact CellIs.behind (w := w) k1.1 hn q2
          | agg bs => obtain ⟨cs, p1, p2, p3⟩ := q2; exact ⟨cs, p1, p2, fun j b hb => by obtain ⟨u, u1, u2, u3⟩ := p3 j b hb; exact ⟨u, u1, u2, CellIs.behind (w := w) k1.1 hn u3⟩⟩
    · obtain ⟨y, y1, y2⟩ := m5 rest x hx
      obtain ⟨z, z1, z2⟩ := k5 _ y y2
      exact ⟨z, by simp only [argsOf, TSh.decL, y1, TSh.dec, VSh.dec]; exact z1, z2⟩
  | (false, l) :: ps, v :: vs, i, ⟨hc, h⟩ => by
    have hc : Opens w l [v] := hc
    obtain ⟨bs, es, bc, k1, k2, k3, k4, k5⟩ := build_cells l [v] i hc
    obtain ⟨b, rfl⟩ := List.length_eq_one_iff.1 k2
    obtain ⟨ty, rfl⟩ := List.length_eq_one_iff.1 hc.length.symm
    obtain ⟨ts, et, bd, m1, m2, m3, m4, m5⟩ := build_args ps vs (i + (rowsOf [ty]).length) h
    have hn := k3.length
    have hb : ∃ bb, bshOf i [ty] = [bb] := by cases ty <;> exact ⟨_, rfl⟩
    obtain ⟨bb, hbb⟩ := hb
    refine ⟨.c (.v b) :: ts, es ++ et, bc ++ bd, k1.append m1, by simp [m2], by simp only [List.flatMap_cons]; exact k3.append m3, fun j t ht => ?_, fun rest x hx => ?_⟩
    · cases j with
      | zero =>
        simp only [List.getElem?_cons_zero, Option.some.injEq] at ht
        subst ht
        obtain ⟨u, q1, q2, q3⟩ := k4 0 b rfl
        simp only [List.getElem?_cons_zero, Option.some.injEq] at q1
        subst q1
        exact ⟨v, rfl, q3.more (n := 0) k1.1⟩
      | succ j =>
        obtain ⟨v, q1, q2⟩ := m4 j t (by simpa using ht)
        refine ⟨v, by simpa using q1, ?_⟩
        cases t with
        | tup xs => exact q2.elim
        | c x =>
          cases x with
          | v b => exact CellIs.behind (w := w) k1.1 hn q2
          | agg bs => obtain ⟨cs, p1, p2, p3⟩ := q2; exact ⟨cs, p1, p2, fun j b hb => by obtain ⟨u, u1, u2, u3⟩ := p3 j b hb; exact ⟨u, u1, u2, CellIs.behind (w := w) k1.1 hn u3⟩⟩
    · obtain ⟨y, y1, y2⟩ := m5 rest x hx
      obtain ⟨z, z1, z2⟩ := k5 _ y y2
      have hdec : ∀ (bb : BSh) (l' : List BSh) (hl : l' = [bb]) (z : HL (BSh.holesL (TSh.holesL rest (argsOf (i + (rowsOf [ty]).length) ps)) l')), BSh.decL y l' [b] = some z → HWf _ z → ∃ z' : HL (BSh.holes (TSh.holesL rest (argsOf (i + (rowsOf [ty]).length) ps)) bb), bb.dec y b = some z' ∧ HWf _ z' := by
        intro bb l' hl z hz hw
        subst hl
        exact ⟨z, hz, hw⟩
      obtain ⟨z', w1, w2⟩ := hdec bb _ hbb z z1 z2
      have hargs : argsOf i ((false, [ty]) :: ps) = .one (.v bb) :: argsOf (i + (rowsOf [ty]).length) ps := by simp only [argsOf, hbb]
      rw [hargs]
      exact ⟨z', by simp only [TSh.decL, y1, TSh.dec, VSh.dec]; exact w1, w2⟩

/-- The shapes of a function whose arguments come from outside. -/
def rootSgn (ps : List (Bool × List Ty)) (res : TSh) : Sgn := { ents := entsOf ps, args := argsOf 0 ps, res := res, outs := (entsOf ps).map fun _ => .same true }

/-- Arguments that read as data are what a contract speaks of. -/
theorem root_in {w : World} {ps : List (Bool × List Ty)} {vs : Array Value} (h : ArgsIn w ps vs.toList) {s : Sgn} (he : s.ents = entsOf ps) (ha : s.args = argsOf 0 ps) :
    ∃ (x : s.X) (G : Gh), HWf _ x ∧ RelH G w (s.inE x) ∧ RelArgs G w (s.inE x) vs (s.inV x) ∧ ∀ b, G.zone b = .frz := by
  obtain ⟨ents, args, res, outs⟩ := s
  simp only at he ha
  subst he ha
  obtain ⟨ts, es, bc, k1, k2, k3, k4, k5⟩ := build_args ps vs.toList 0 h
  obtain ⟨y, y1, y2⟩ := EntsFit.dec (rest := []) (x := ()) trivial k3
  obtain ⟨x, x1, x2⟩ := k5 _ y y2
  have hdec : Sgn.decIn ⟨entsOf ps, argsOf 0 ps, res, outs⟩ es ts = some x := by
    unfold Sgn.decIn
    simp only [entsOf, y1]
    exact x1
  obtain ⟨e1, e2⟩ := Sgn.in_ok hdec
  let G : Gh := { zone := fun _ => .frz, blk := fun _ => (0, 0), base := fun n => (bc.getD n (none, 0)).1, cap := fun n => (bc.getD n (none, 0)).2 }
  have hcell : ∀ {u : Value} {b : BV}, CellIs w 0 es bc u b → RelB G w es u b := by
    intro u b hb
    cases b with
    | ref k =>
      obtain ⟨j, r, xs, h1, h2, b', c, h3, h4⟩ := hb
      have : k = j := by omega
      subst this
      refine ⟨_, h2, ?_⟩
      simp only [G, List.getD_eq_getElem?_getD, h3, Option.getD_some]
      exact h4
    | int k n => exact hb
    | bool t => exact hb
    | str s => exact hb
    | _ => exact hb.elim
  refine ⟨x, G, x2, ?_, ?_, fun _ => rfl⟩
  · rw [e1]
    refine ⟨fun n e he => ?_, fun b hb => absurd rfl hb⟩
    obtain ⟨r, xs, b, c, rfl, q2, q3⟩ := k1.2 n e he
    refine ⟨⟨rfl, fun ho => (by cases ho)⟩, fun hv => (by cases hv), ?_⟩
    show RelSl w _ _ r (G.base n) (G.cap n) xs
    simp only [G, List.getD_eq_getElem?_getD, q2, Option.getD_some]
    refine q3.mono (fun b _ _ => ⟨?_, rfl⟩) (fun b _ _ => ⟨?_, rfl⟩)
    · unfold ZArr
      simp [G]
    · exact trivial
  · rw [e1, e2]
    refine ⟨by rw [k2]; simp, fun j t ht => ?_⟩
    obtain ⟨v, v1, v2⟩ := k4 j t ht
    refine ⟨v, by rw [← Array.getElem?_toList]; exact v1, ?_⟩
    cases t with
    | tup xs => exact v2.elim
    | c y =>
      cases y with
      | v b => exact hcell v2
      | agg bs => obtain ⟨cs, p1, p2, p3⟩ := v2; exact ⟨cs, p1, p2, fun j b hb => by obtain ⟨u, u1, u2, u3⟩ := p3 j b hb; exact ⟨u, u1, u2, hcell u3⟩⟩
end Go.Sx

/- A law's row out of its function. -/
set_option linter.unusedVariables false
set_option linter.unusedSimpArgs false
namespace Go.Sx
open Go.RowKit Go.WideShapes Go.ChangeShapes

def parsOf (P : Program) : List TypeId → Option (List (Bool × List Ty))
  | [] => some []
  | t :: ts => match tysIn P 6 t, parsOf P ts with
    | some l, some r => some ((isAggB P t, l) :: r)
    | _, _ => none

section
variable {H : Type} {enc : TypeId × Value → H} {P : Program} {w : World}

theorem arg_in (hk : Kids P (· < P.types.size)) {base b0 : Nat} {r : Reach} {held : Bool} {t : TypeId} {l : List Ty} {v : Value} {d : DataW H} {ps : List MemPlace} (hT : t < P.types.size) (hl : tysIn P 6 t = some l) (hv : Value.okWide P w r b0 t v)
    (ht : DataW.Trod enc P w base (fun _ => true) held t v d ps) : ArgIn w (isAggB P t, l) v := by
  obtain ⟨fuel, hf⟩ := ht
  have ho := open_trod hk 6 t l fuel _ _ hT hl hf
  have hs := hl
  unfold tysIn at hs
  split at hs
  · rename_i k hu
    obtain ⟨n, rfl⟩ := okWide_int hu hv
    have : isAggB P t = false := by unfold isAggB; rw [hu]
    rw [this]; exact ho
  · rename_i hu
    obtain ⟨n, rfl⟩ := okWide_bool hu hv
    have : isAggB P t = false := by unfold isAggB; rw [hu]
    rw [this]; exact ho
  · rename_i hu
    obtain ⟨n, rfl⟩ := okWide_string hu hv
    have : isAggB P t = false := by unfold isAggB; rw [hu]
    rw [this]; exact ho
  · rename_i e hu
    obtain ⟨a, len, cap, rfl⟩ := okWide_slice hu hv
    have : isAggB P t = false := by unfold isAggB; rw [hu]
    rw [this]; exact ho
  · rename_i fs hu
    unfold Value.okWide at hv
    rw [hu] at hv
    obtain ⟨cs, rfl, _⟩ := hv
    have : isAggB P t = true := by unfold isAggB; rw [hu]
    rw [this]; exact ⟨cs, rfl, ho⟩
  · cases hs

theorem args_in (hk : Kids P (· < P.types.size)) {base b0 : Nat} {r : Reach} {held : Bool} : ∀ (ts : List TypeId) (vs : List Value) (ds : List (DataW H)) (ps : List MemPlace) (pl : List (Bool × List Ty)), (∀ t ∈ ts, t < P.types.size) → parsOf P ts = some pl →
    (∀ (j : Nat) t v, ts[j]? = some t → vs[j]? = some v → Value.okWide P w r b0 t v) → DataW.TrodAll enc P w base (fun _ => true) held ts vs ds ps → ArgsIn w pl vs ∧ ds.length = ts.length
  | [], [], [], _, pl, _, hp, _, _ => by simp only [parsOf, Option.some.injEq] at hp; subst hp; exact ⟨trivial, rfl⟩
  | t :: ts, v :: vs, d :: ds, ps, pl, hT, hp, hv, h => by
    obtain ⟨p, q, h1, h2, _⟩ := h
    simp only [parsOf] at hp
    split at hp
    · rename_i l rest hl hr
      simp only [Option.some.injEq] at hp
      subst hp
      have ih := args_in hk ts vs ds q rest (fun t ht => hT t (List.mem_cons_of_mem _ ht)) hr (fun j t' v' h1 h2 => hv (j + 1) t' v' (by simpa using h1) (by simpa using h2)) h2
      exact ⟨⟨arg_in hk (hT t List.mem_cons_self) hl (hv 0 t v rfl rfl) h1, ih.1⟩, by simp [ih.2]⟩
    · cases hp
  | [], _ :: _, _, _, _, _, _, _, h => by simp [DataW.TrodAll] at h
  | [], [], _ :: _, _, _, _, _, _, h => by simp [DataW.TrodAll] at h
  | _ :: _, [], _, _, _, _, _, _, h => by simp [DataW.TrodAll] at h
  | _ :: _, _ :: _, [], _, _, _, _, _, h => by simp [DataW.TrodAll] at h

/-- What was there is as it was: the law's end. -/
theorem post_kept {f : Func} {s : ChangeSpec} {apart fresh handsOn again : Bool} {W W' : World} {args : Array Value} {v : Value} {ds gs : List (DataW H)} {before pa pv : List MemPlace}
    (hW : DataW.Whole enc P f.params.toList s.vars apart W args.toList ds gs before) (hres : ∀ (b : Nat) (sp : Nat → Bool) (hd : Bool), DataW.TrodAll enc P W' b sp hd f.resultTypes.toList (v.resultList f.resultTypes.size) (s.fn H (ds ++ gs)).results [])
    (hargs : ∀ sp : Nat → Bool, (∀ p ∈ before, sp p.block = true) → DataW.TrodAll enc P W' 0 sp true f.params.toList args.toList (s.fn H (ds ++ gs)).args pa) (hvars : ∀ sp : Nat → Bool, (∀ p ∈ before, sp p.block = true) → DataW.TrodVars enc P W' sp s.vars (s.fn H (ds ++ gs)).vars pv)
    (hps : before = pa ++ pv) (hb : Below W.heap.size W W') (hok : ∀ (j : Nat) (t : TypeId) (r : Value), f.resultTypes[j]? = some t → (v.resultList f.resultTypes.size)[j]? = some r → Value.okWide P W' .any 0 t r) : s.post enc P f apart fresh handsOn again W args v W' := by
  have hlt : ∀ p ∈ before, p.block < W.heap.size := fun p hp => hW.lt p hp
  have old : ∀ p ∈ before, (fun b => decide (b < W.heap.size)) p.block = true := fun p hp => by simpa using hW.lt p hp
  refine ⟨ds, gs, before, [], pa, pv, hW, hres _ _ _, hargs _ old, hvars _ old, World.keptBut_mono (fun p hp => ⟨hp, ?_⟩) (hb.frame (· ∈ before)), fun _ => ?_⟩
  · rw [hps, List.mem_append] at hp; exact .inr hp
  · obtain ⟨_, _, _, _, _, hz, hn⟩ := hW
    refine ⟨hok, _, _, ([] ++ pa) ++ pv, ⟨[] ++ pa, pv, trodAll_append (hargs _ (fun _ _ => rfl)) (hres _ _ _), hvars _ (fun _ _ => rfl), rfl, fun b off hp => ?_, fun ha => ?_⟩, fun p hp _ => ?_⟩
    · have hin : MemPlace.cell b off ∈ before := by rw [hps]; simpa using hp
      rw [hb.frozen (p := ⟨b, off, none⟩) (hlt _ hin)]
      exact hz b off hin
    · have := hn ha
      rw [hps] at this
      simpa using this
    · rw [hps]; simpa using hp

/-- A law that answers true for whatever reads as data. -/
theorem law_contract (hlo : laidOutB P = true) (hmr : mapsRowed P = true) (hfull : ((List.range P.types.size).all fun t => match P.underlying t with | some (.slice e) => decide (0 < P.cellsOf e) | _ => true) = true)
    {f : Func} {s : ChangeSpec} {apart fresh handsOn again : Bool} {F : Fun} {pl : List (Bool × List Ty)} (hF : FOk P F) (hpl : parsOf P f.params.toList = some pl) (he : F.s.ents = entsOf pl) (ha : F.s.args = argsOf 0 pl)
    (hpt : (f.params.toList.all fun t => decide (t < P.types.size)) = true) {tb : TypeId} (hrt : f.resultTypes = #[tb]) (hb : P.underlying tb = some .bool) (hvars : s.vars = []) (hspec : ∀ (H : Type) (ds : List (DataW H)), ds.length = f.params.toList.length → s.fn H ds = { results := [.lit (.bool true)], args := ds })
    (htrue : ∀ x, HWf _ x → ∃ r, F.fn x = some r ∧ (F.s.encOut x r).1 = .c (.v (.bool true)))
    {W : World} {base : Nat} {args : Array Value} {ds gs : List (DataW H)} {before : List MemPlace} (hval : ∀ (j : Nat) t v, f.params[j]? = some t → args[j]? = some v → Value.okWide P W .any base t v)
    (hW : DataW.Whole enc P f.params.toList s.vars apart W args.toList ds gs before) : Calls P F.f args W fun e W' => ∃ v, e = .returned v ∧ s.post enc P f apart fresh handsOn again W args v W' := by
  have hk := kids_rows hlo hmr
  have hfull := slices_full_of P hfull
  have hT : ∀ t ∈ f.params.toList, t < P.types.size := fun t ht => by simpa using List.all_eq_true.1 hpt t ht
  have hW' := hW
  obtain ⟨pa, pv, hA, hV, hbef, hfz, hnd⟩ := hW'
  rw [hvars] at hV
  obtain ⟨rfl, rfl⟩ := trodVars_none hV
  obtain ⟨hin, hdl⟩ := args_in hk _ _ _ _ pl hT hpl (fun j t v h1 h2 => hval j t v (by rw [← Array.getElem?_toList]; exact h1) (by rw [← Array.getElem?_toList]; exact h2)) hA
  obtain ⟨x, G, hx, hRH, hRA, hz⟩ := root_in hin he ha
  obtain ⟨r, hr, hout⟩ := htrue x hx
  refine ((hF x r hr).run G W args hRH hRA).mono fun e W' he' => ?_
  obtain ⟨v, G', rfl, hext, _, hv, _⟩ := he'
  rw [hout] at hv
  have hv : v = .bool true := hv
  subst hv
  have hbel : Below W.heap.size W W' := ⟨hext.os, hext.tape, hext.output, hext.size, fun k hk => (hext.frz k hk (hz k)).2⟩
  refine ⟨_, rfl, post_kept (pa := pa) (pv := []) hW (fun b sp hd => ?_) (fun sp hsp => ?_) (fun sp hsp => ?_) (by rw [hbef]) hbel (fun j t r h1 h2 => ?_)⟩
  · rw [hspec _ _ (by simpa using hdl), hrt]
    exact trodAll_mk1 (shut_bool hb true)
  · rw [hspec _ _ (by simpa using hdl)]
    simp only [List.append_nil]
    have hcar : DataW.TrodAll enc P W' 0 (fun _ => true) true f.params.toList args.toList ds pa := by
      have key : ∀ (ts : List TypeId) (vs : List Value) (ds : List (DataW H)) (p : List MemPlace), DataW.TrodAll enc P W 0 (fun _ => true) true ts vs ds p → (∀ x ∈ p, W.sameAt W' x) → DataW.TrodAll enc P W' 0 (fun _ => true) true ts vs ds p := by
        intro ts
        induction ts with
        | nil =>
          intro vs ds p h hs
          cases vs <;> cases ds <;> first | exact h | (simp [DataW.TrodAll] at h)
        | cons t ts ih =>
          intro vs ds p h hs
          cases vs with
          | nil => simp [DataW.TrodAll] at h
          | cons v vs =>
            cases ds with
            | nil => simp [DataW.TrodAll] at h
            | cons d ds =>
              obtain ⟨p1, p2, ⟨n, h1⟩, h2, rfl⟩ := h
              exact ⟨p1, p2, ⟨n, DataW.trod_carry n _ _ _ h1 fun x hx => hs x (List.mem_append_left _ hx)⟩, ih vs ds p2 h2 fun x hx => hs x (List.mem_append_right _ hx), rfl⟩
      exact key _ _ _ _ hA fun p hp => hbel.same (hW.lt p (by rw [hbef]; exact List.mem_append_left _ hp))
    exact hcar.respare hk hfull hT (fun p hp => hsp p (by rw [hbef]; exact List.mem_append_left _ hp))
  · rw [hspec _ _ (by simpa using hdl), hvars]
    rfl
  · exact ok_one hrt rfl (okWide_bool_mk hb true) j t r h1 h2
end
end Go.Sx
