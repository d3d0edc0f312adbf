/- Part Pa of a proof: every text below is one step of it; what the last part proves is said there. -/
import Derived.Test.YtidikilmomkbbaaFa
import Derived.Test.YtidikilmomkbbaaSd
import Derived.Laws.BitsLemmas

/- The plain law: sizes, copies, comparisons. -/
set_option linter.unusedVariables false
set_option linter.unusedSimpArgs false
namespace Go.Proofs.Fx
open Go Go.Sx

theorem w64 {n : Int} (h1 : -9223372036854775808 ≤ n) (h2 : n ≤ 9223372036854775807) : IntKind.i64.wrap n = n := by
  rw [IntKind.wrap_i64]; omega
theorem w64s {i : Nat} (h : i < 9223372036854775807) : IntKind.i64.wrap ((i : Int) + 1) = ((i + 1 : Nat) : Int) := by
  rw [w64 (by omega) (by omega)]; omega
theorem within_nat {i n : Nat} (h : i < n) : within (i : Int) n = true := by
  simp [within]; omega
theorem lt_nat {i n : Nat} (h : i < n) : decide ((i : Int) < (n : Int)) = true := by simp; omega
theorem nlt_nat {i n : Nat} (h : n ≤ i) : decide ((i : Int) < (n : Int)) = false := by simp; omega
theorem getD_nat {α : Type} (l : List α) (i : Nat) (d : α) (h : i < l.length) : List.getD l (Int.toNat (i : Int)) d = l[i] := by
  rw [Int.toNat_natCast, List.getD_eq_getElem?_getD, List.getElem?_eq_getElem h]; rfl
theorem strEq_self (s : ByteArray) : strEq s s = true := by simp [strEq]
theorem maxLen_eq : maxLen = 9223372036854775807 := rfl

/-! sizes -/
theorem szStringS_l0 (l : List ByteArray) (hl : l.length ≤ maxLen) (hs : ∀ s ∈ l, s.size ≤ maxLen) : ∀ (k i : Nat) (x0 : Int), i + k = l.length → 0 ≤ x0 → x0 ≤ 1048576 →
    ∃ t, f_laws_szStringS_l0 (x0, (i : Int), l, ()) = some (t, ()) ∧ (0 ≤ t → t ≤ x0 ∧ ∀ s ∈ l.drop i, (s.size : Int) ≤ x0)
  | 0, i, x0, hk, h0, h1 => by
    refine ⟨x0, ?_, fun _ => ⟨Int.le_refl _, by rw [List.drop_eq_nil_of_le (by omega)]; simp⟩⟩
    rw [f_laws_szStringS_l0, nlt_nat (by omega)]; rfl
  | k + 1, i, x0, hk, h0, h1 => by
    rw [maxLen_eq] at *
    have hi : i < l.length := by omega
    have hsz := hs l[i] (List.getElem_mem hi)
    rw [f_laws_szStringS_l0, lt_nat hi, within_nat hi, getD_nat _ _ _ hi, w64 (n := x0 - _) (by omega) (by omega), w64s (by omega)]
    simp only [if_true]
    by_cases hn : x0 - (l[i].size : Int) < 0
    · rw [if_pos (by simpa using hn)]
      exact ⟨-1, rfl, fun h => by omega⟩
    · rw [if_neg (by simpa using hn)]
      obtain ⟨t, t1, t2⟩ := szStringS_l0 l hl hs k (i + 1) (x0 - (l[i].size : Int)) (by omega) (by omega) (by omega)
      refine ⟨t, t1, fun ht => ?_⟩
      obtain ⟨t3, t4⟩ := t2 ht
      refine ⟨by omega, fun s hs' => ?_⟩
      rw [List.drop_eq_getElem_cons hi] at hs'
      rcases List.mem_cons.1 hs' with rfl | hs'
      · omega
      · have := t4 s hs'; omega

theorem szStringS (l : List ByteArray) (hl : l.length ≤ maxLen) (hs : ∀ s ∈ l, s.size ≤ maxLen) (x0 : Int) (h0 : 0 ≤ x0) (h1 : x0 ≤ 1048576) :
    ∃ t, f_laws_szStringS (x0, l, ()) = some (t, ()) ∧ (0 ≤ t → t ≤ x0 ∧ (l.length : Int) ≤ x0 ∧ ∀ s ∈ l, (s.size : Int) ≤ x0) := by
  have hl' := hl
  rw [maxLen_eq] at hl'
  rw [f_laws_szStringS, w64 (by omega) (by omega)]
  by_cases hn : x0 - (l.length : Int) < 0
  · rw [if_pos (by simpa using hn)]
    exact ⟨-1, rfl, fun h => by omega⟩
  · rw [if_neg (by simpa using hn)]
    obtain ⟨t, t1, t2⟩ := szStringS_l0 l hl hs l.length 0 (x0 - l.length) (by omega) (by omega) (by omega)
    refine ⟨t, t1, fun ht => ?_⟩
    obtain ⟨t3, t4⟩ := t2 ht
    exact ⟨by omega, by omega, fun s hs' => by have := t4 s (by simpa using hs'); omega⟩

theorem szPut (a0 : Int) (a1 : ByteArray) (hs : a1.size ≤ maxLen) (x0 : Int) (h0 : 0 ≤ x0) (h1 : x0 ≤ 1048576) : ∃ t, f_laws_szPut (a0, a1, x0, ()) = some (t, ()) ∧ (0 ≤ t → t ≤ x0 ∧ (a1.size : Int) ≤ x0) ∧ t ≤ 1048576 := by
  rw [maxLen_eq] at hs
  rw [f_laws_szPut, w64 (by omega) (by omega)]
  by_cases hn : x0 - (a1.size : Int) < 0
  · rw [if_pos (by simpa using hn)]
    exact ⟨-1, rfl, fun h => by omega, by omega⟩
  · rw [if_neg (by simpa using hn)]
    exact ⟨_, rfl, fun h => by omega, by omega⟩

theorem szPutS_l0 (l : List (Int × ByteArray)) (hl : l.length ≤ maxLen) (hs : ∀ s ∈ l, s.2.size ≤ maxLen) : ∀ (k i : Nat) (x0 : Int), i + k = l.length → 0 ≤ x0 → x0 ≤ 1048576 →
    ∃ t, f_laws_szPutS_l0 (x0, (i : Int), l, ()) = some (t, ()) ∧ (0 ≤ t → t ≤ x0 ∧ ∀ s ∈ l.drop i, (s.2.size : Int) ≤ x0)
  | 0, i, x0, hk, h0, h1 => by
    refine ⟨x0, ?_, fun _ => ⟨Int.le_refl _, by rw [List.drop_eq_nil_of_le (by omega)]; simp⟩⟩
    rw [f_laws_szPutS_l0, nlt_nat (by omega)]; rfl
  | k + 1, i, x0, hk, h0, h1 => by
    have hi : i < l.length := by omega
    have hsz := hs l[i] (List.getElem_mem hi)
    have hl2 := hl
    rw [maxLen_eq] at hl2
    obtain ⟨u, u1, u2, u3⟩ := szPut l[i].1 l[i].2 hsz x0 h0 h1
    rw [f_laws_szPutS_l0, lt_nat hi, within_nat hi, getD_nat _ _ _ hi, u1, w64s (by omega)]
    simp only [if_true, Option.bind_eq_bind, Option.bind_some]
    by_cases hn : u < 0
    · rw [if_pos (by simpa using hn)]
      exact ⟨-1, rfl, fun h => by omega⟩
    · rw [if_neg (by simpa using hn)]
      obtain ⟨u4, u5⟩ := u2 (by omega)
      obtain ⟨t, t1, t2⟩ := szPutS_l0 l hl hs k (i + 1) u (by omega) (by omega) (by omega)
      refine ⟨t, t1, fun ht => ?_⟩
      obtain ⟨t3, t4⟩ := t2 ht
      refine ⟨by omega, fun s hs' => ?_⟩
      rw [List.drop_eq_getElem_cons hi] at hs'
      rcases List.mem_cons.1 hs' with rfl | hs'
      · omega
      · have := t4 s hs'; omega

theorem szPutS (l : List (Int × ByteArray)) (hl : l.length ≤ maxLen) (hs : ∀ s ∈ l, s.2.size ≤ maxLen) (x0 : Int) (h0 : 0 ≤ x0) (h1 : x0 ≤ 1048576) :
    ∃ t, f_laws_szPutS (x0, l, ()) = some (t, ()) ∧ (0 ≤ t → t ≤ x0 ∧ (l.length : Int) ≤ x0 ∧ ∀ s ∈ l, (s.2.size : Int) ≤ x0) := by
  have hl' := hl
  rw [maxLen_eq] at hl'
  rw [f_laws_szPutS, w64 (by omega) (by omega)]
  by_cases hn : x0 - (l.length : Int) < 0
  · rw [if_pos (by simpa using hn)]
    exact ⟨-1, rfl, fun h => by omega⟩
  · rw [if_neg (by simpa using hn)]
    obtain ⟨t, t1, t2⟩ := szPutS_l0 l hl hs l.length 0 (x0 - l.length) (by omega) (by omega) (by omega)
    refine ⟨t, t1, fun ht => ?_⟩
    obtain ⟨t3, t4⟩ := t2 ht
    exact ⟨by omega, by omega, fun s hs' => by have := t4 s (by simpa using hs'); omega⟩

theorem szEntry (a0 a1 : ByteArray) (hs : a0.size ≤ maxLen) (hs1 : a1.size ≤ maxLen) (x0 : Int) (h0 : 0 ≤ x0) (h1 : x0 ≤ 1048576) : ∃ t, f_laws_szEntry (a0, a1, x0, ()) = some (t, ()) ∧ (0 ≤ t → t ≤ x0 ∧ (a0.size : Int) ≤ x0 ∧ (a1.size : Int) ≤ x0) := by
  rw [maxLen_eq] at hs hs1
  rw [f_laws_szEntry, w64 (n := x0 - (a0.size : Int)) (by omega) (by omega)]
  by_cases hn : x0 - (a0.size : Int) < 0
  · rw [if_pos (by simpa using hn)]
    exact ⟨-1, rfl, fun h => by omega⟩
  · rw [if_neg (by simpa using hn), w64 (by omega) (by omega)]
    by_cases hn2 : x0 - (a0.size : Int) - (a1.size : Int) < 0
    · rw [if_pos (by simpa using hn2)]
      exact ⟨-1, rfl, fun h => by omega⟩
    · rw [if_neg (by simpa using hn2)]
      exact ⟨_, rfl, fun h => by omega⟩

theorem szEntryS_l0 (l : List (ByteArray × ByteArray)) (hl : l.length ≤ maxLen) (hs : ∀ s ∈ l, s.1.size ≤ maxLen ∧ s.2.size ≤ maxLen) : ∀ (k i : Nat) (x0 : Int), i + k = l.length → 0 ≤ x0 → x0 ≤ 1048576 →
    ∃ t, f_laws_szEntryS_l0 (x0, (i : Int), l, ()) = some (t, ()) ∧ (0 ≤ t → t ≤ x0 ∧ ∀ s ∈ l.drop i, (s.1.size : Int) ≤ x0 ∧ (s.2.size : Int) ≤ x0)
  | 0, i, x0, hk, h0, h1 => by
    refine ⟨x0, ?_, fun _ => ⟨Int.le_refl _, by rw [List.drop_eq_nil_of_le (by omega)]; simp⟩⟩
    rw [f_laws_szEntryS_l0, nlt_nat (by omega)]; rfl
  | k + 1, i, x0, hk, h0, h1 => by
    have hi : i < l.length := by omega
    obtain ⟨hsz, hsz2⟩ := hs l[i] (List.getElem_mem hi)
    have hl2 := hl
    rw [maxLen_eq] at hl2
    obtain ⟨u, u1, u2⟩ := szEntry l[i].1 l[i].2 hsz hsz2 x0 h0 h1
    rw [f_laws_szEntryS_l0, lt_nat hi, within_nat hi, getD_nat _ _ _ hi, u1, w64s (by omega)]
    simp only [if_true, Option.bind_eq_bind, Option.bind_some]
    by_cases hn : u < 0
    · rw [if_pos (by simpa using hn)]
      exact ⟨-1, rfl, fun h => by omega⟩
    · rw [if_neg (by simpa using hn)]
      obtain ⟨u4, u5, u6⟩ := u2 (by omega)
      obtain ⟨t, t1, t2⟩ := szEntryS_l0 l hl hs k (i + 1) u (by omega) (by omega) (by omega)
      refine ⟨t, t1, fun ht => ?_⟩
      obtain ⟨t3, t4⟩ := t2 ht
      refine ⟨by omega, fun s hs' => ?_⟩
      rw [List.drop_eq_getElem_cons hi] at hs'
      rcases List.mem_cons.1 hs' with rfl | hs'
      · exact ⟨u5, u6⟩
      · have := t4 s hs'; omega

theorem szEntryS (l : List (ByteArray × ByteArray)) (hl : l.length ≤ maxLen) (hs : ∀ s ∈ l, s.1.size ≤ maxLen ∧ s.2.size ≤ maxLen) (x0 : Int) (h0 : 0 ≤ x0) (h1 : x0 ≤ 1048576) :
    ∃ t, f_laws_szEntryS (x0, l, ()) = some (t, ()) ∧ (0 ≤ t → t ≤ x0 ∧ (l.length : Int) ≤ x0 ∧ ∀ s ∈ l, (s.1.size : Int) ≤ x0 ∧ (s.2.size : Int) ≤ x0) := by
  have hl' := hl
  rw [maxLen_eq] at hl'
  rw [f_laws_szEntryS, w64 (by omega) (by omega)]
  by_cases hn : x0 - (l.length : Int) < 0
  · rw [if_pos (by simpa using hn)]
    exact ⟨-1, rfl, fun h => by omega⟩
  · rw [if_neg (by simpa using hn)]
    obtain ⟨t, t1, t2⟩ := szEntryS_l0 l hl hs l.length 0 (x0 - l.length) (by omega) (by omega) (by omega)
    refine ⟨t, t1, fun ht => ?_⟩
    obtain ⟨t3, t4⟩ := t2 ht
    exact ⟨by omega, by omega, fun s hs' => by have := t4 s (by simpa using hs'); omega⟩

theorem szDisk (l : List ByteArray) (p : List (Int × ByteArray)) (hl : l.length ≤ maxLen) (hs : ∀ s ∈ l, s.size ≤ maxLen) (hp : p.length ≤ maxLen) (hq : ∀ s ∈ p, s.2.size ≤ maxLen) (x0 : Int) (h0 : 0 ≤ x0) (h1 : x0 ≤ 1048576) :
    ∃ t, f_laws_szDisk (x0, l, p, ()) = some (t, ()) ∧ (0 ≤ t → t ≤ x0 ∧ ((l.length : Int) ≤ x0 ∧ ∀ s ∈ l, (s.size : Int) ≤ x0) ∧ (p.length : Int) ≤ x0 ∧ ∀ s ∈ p, (s.2.size : Int) ≤ x0) := by
  obtain ⟨t, t1, t2⟩ := szStringS l hl hs x0 h0 h1
  rw [f_laws_szDisk, t1]
  simp only [Option.bind_eq_bind, Option.bind_some]
  by_cases hn : t < 0
  · rw [if_pos (by simpa using hn)]
    exact ⟨-1, rfl, fun h => by omega⟩
  · rw [if_neg (by simpa using hn)]
    obtain ⟨t3, t4, t5⟩ := t2 (by omega)
    obtain ⟨u, u1, u2⟩ := szPutS p hp hq t (by omega) (by omega)
    rw [u1]
    simp only [Option.bind_some]
    by_cases hn : u < 0
    · rw [if_pos (by simpa using hn)]
      exact ⟨-1, rfl, fun h => by omega⟩
    · rw [if_neg (by simpa using hn)]
      obtain ⟨u3, u4, u5⟩ := u2 (by omega)
      exact ⟨u, rfl, fun _ => ⟨by omega, ⟨t4, t5⟩, by omega, fun s hs => by have := u5 s hs; omega⟩⟩

theorem szArchive (a0 : Bool) (a1 a2 a3 : Int) (l : List ByteArray) (p : List (Int × ByteArray)) (q : List (ByteArray × ByteArray)) (hl : l.length ≤ maxLen) (hs : ∀ s ∈ l, s.size ≤ maxLen) (hp : p.length ≤ maxLen) (hq : ∀ s ∈ p, s.2.size ≤ maxLen)
    (hql : q.length ≤ maxLen) (hqs : ∀ s ∈ q, s.1.size ≤ maxLen ∧ s.2.size ≤ maxLen) :
    ∃ t, f_laws_szArchive (a0, a1, a2, a3, 1048576, l, p, q, ()) = some (t, ()) ∧ (0 ≤ t → (l.length ≤ 1048576 ∧ ∀ s ∈ l, s.size ≤ 1048576) ∧ (p.length ≤ 1048576 ∧ ∀ s ∈ p, s.2.size ≤ 1048576) ∧ q.length ≤ 1048576 ∧ ∀ s ∈ q, s.1.size ≤ 1048576 ∧ s.2.size ≤ 1048576) := by
  obtain ⟨t, t1, t2⟩ := szDisk l p hl hs hp hq 1048576 (by omega) (by omega)
  rw [f_laws_szArchive, t1]
  simp only [Option.bind_eq_bind, Option.bind_some]
  by_cases hn : t < 0
  · rw [if_pos (by simpa using hn)]
    exact ⟨-1, rfl, fun h => by omega⟩
  · rw [if_neg (by simpa using hn)]
    obtain ⟨t3, ⟨t4, t5⟩, t6, t7⟩ := t2 (by omega)
    obtain ⟨u, u1, u2⟩ := szEntryS q hql hqs t (by omega) (by omega)
    rw [u1]
    simp only [Option.bind_some]
    by_cases hn : u < 0
    · rw [if_pos (by simpa using hn)]
      exact ⟨-1, rfl, fun h => by omega⟩
    · rw [if_neg (by simpa using hn)]
      obtain ⟨u3, u4, u5⟩ := u2 (by omega)
      exact ⟨u, rfl, fun _ => ⟨⟨by omega, fun s hs => by have := t5 s hs; omega⟩, ⟨by omega, fun s hs => by have := t7 s hs; omega⟩, by omega, fun s hs => by have := u5 s hs; omega⟩⟩
end Go.Proofs.Fx

/- The plain law: copies, comparisons. -/
set_option linter.unusedVariables false
set_option linter.unusedSimpArgs false
namespace Go.Proofs.Fx
open Go Go.Sx

theorem set_step {α : Type} (x1 x2 : List α) (i : Nat) (h1 : i < x1.length) (h2 : i < x2.length) : (x2.set i x1[i]).take (i + 1) ++ x1.drop (i + 1) = x2.take i ++ x1.drop i := by
  rw [List.drop_eq_getElem_cons h1, List.take_add_one, List.getElem?_set_self h2, List.take_set_of_le (Nat.le_refl _)]
  simp

theorem toStringS_l0 (x1 : List ByteArray) (hl : x1.length ≤ 1048576) : ∀ (k i : Nat) (x2 : List ByteArray), i + k = x1.length → x2.length = x1.length → f_laws_toStringS_l0 ((i : Int), x1, x2, ()) = some (x2.take i ++ x1.drop i, ())
  | 0, i, x2, hk, h2 => by
    rw [f_laws_toStringS_l0, nlt_nat (by omega), List.drop_eq_nil_of_le (by omega), List.append_nil, List.take_of_length_le (by omega)]; rfl
  | k + 1, i, x2, hk, h2 => by
    have hi : i < x1.length := by omega
    rw [f_laws_toStringS_l0, lt_nat hi, within_nat hi, within_nat (by omega), getD_nat _ _ _ hi, w64s (by omega), Int.toNat_natCast]
    simp only [if_true]
    rw [toStringS_l0 x1 hl k (i + 1) _ (by omega) (by simpa using h2), set_step x1 x2 i hi (by omega)]

theorem toStringS (x1 : List ByteArray) (hl : x1.length ≤ 1048576) : f_laws_toStringS (x1, ()) = some (x1, ()) := by
  have hm : most = 4294967296 := rfl
  rw [f_laws_toStringS]
  simp only [beq_self_eq_true, Bool.and_true, Int.toNat_natCast]
  rw [if_pos (by simp; omega)]
  have := toStringS_l0 x1 hl x1.length 0 (List.replicate x1.length ByteArray.empty) (by omega) (by simp)
  simpa using this

theorem toPutS_l0 (x1 : List (Int × ByteArray)) (hl : x1.length ≤ 1048576) : ∀ (k i : Nat) (x2 : List (Int × ByteArray)), i + k = x1.length → x2.length = x1.length → f_laws_toPutS_l0 ((i : Int), x1, x2, ()) = some (x2.take i ++ x1.drop i, ())
  | 0, i, x2, hk, h2 => by
    rw [f_laws_toPutS_l0, nlt_nat (by omega), List.drop_eq_nil_of_le (by omega), List.append_nil, List.take_of_length_le (by omega)]; rfl
  | k + 1, i, x2, hk, h2 => by
    have hi : i < x1.length := by omega
    rw [f_laws_toPutS_l0, lt_nat hi, within_nat hi, within_nat (by omega), getD_nat _ _ _ hi, w64s (by omega), Int.toNat_natCast]
    simp only [if_true, f_laws_toPut, Option.bind_eq_bind, Option.bind_some]
    rw [toPutS_l0 x1 hl k (i + 1) _ (by omega) (by simpa using h2), set_step x1 x2 i hi (by omega)]

theorem toPutS (x1 : List (Int × ByteArray)) (hl : x1.length ≤ 1048576) : f_laws_toPutS (x1, ()) = some (x1, ()) := by
  have hm : most = 4294967296 := rfl
  rw [f_laws_toPutS]
  simp only [beq_self_eq_true, Bool.and_true, Int.toNat_natCast]
  rw [if_pos (by simp; omega)]
  have := toPutS_l0 x1 hl x1.length 0 (List.replicate x1.length (0, ByteArray.empty)) (by omega) (by simp)
  simpa using this

theorem toEntryS_l0 (x1 : List (ByteArray × ByteArray)) (hl : x1.length ≤ 1048576) : ∀ (k i : Nat) (x2 : List (ByteArray × ByteArray)), i + k = x1.length → x2.length = x1.length → f_laws_toEntryS_l0 ((i : Int), x1, x2, ()) = some (x2.take i ++ x1.drop i, ())
  | 0, i, x2, hk, h2 => by
    rw [f_laws_toEntryS_l0, nlt_nat (by omega), List.drop_eq_nil_of_le (by omega), List.append_nil, List.take_of_length_le (by omega)]; rfl
  | k + 1, i, x2, hk, h2 => by
    have hi : i < x1.length := by omega
    rw [f_laws_toEntryS_l0, lt_nat hi, within_nat hi, within_nat (by omega), getD_nat _ _ _ hi, w64s (by omega), Int.toNat_natCast]
    simp only [if_true, f_laws_toEntry, Option.bind_eq_bind, Option.bind_some]
    rw [toEntryS_l0 x1 hl k (i + 1) _ (by omega) (by simpa using h2), set_step x1 x2 i hi (by omega)]

theorem toEntryS (x1 : List (ByteArray × ByteArray)) (hl : x1.length ≤ 1048576) : f_laws_toEntryS (x1, ()) = some (x1, ()) := by
  have hm : most = 4294967296 := rfl
  rw [f_laws_toEntryS]
  simp only [beq_self_eq_true, Bool.and_true, Int.toNat_natCast]
  rw [if_pos (by simp; omega)]
  have := toEntryS_l0 x1 hl x1.length 0 (List.replicate x1.length (ByteArray.empty, ByteArray.empty)) (by omega) (by simp)
  simpa using this

theorem toDisk (l : List ByteArray) (p : List (Int × ByteArray)) (hl : l.length ≤ 1048576) (hp : p.length ≤ 1048576) : f_laws_toDisk (l, p, ()) = some (l, p, ()) := by
  rw [f_laws_toDisk, toStringS l hl, toPutS p hp]; rfl

theorem toArchive (a0 : Bool) (a1 a2 a3 : Int) (l : List ByteArray) (p : List (Int × ByteArray)) (q : List (ByteArray × ByteArray)) (hl : l.length ≤ 1048576) (hp : p.length ≤ 1048576) (hq : q.length ≤ 1048576) :
    f_laws_toArchive (a0, a1, a2, a3, l, p, q, ()) = some (a0, a1, a2, a3, l, p, q, ()) := by
  rw [f_laws_toArchive, toDisk l p hl hp, toEntryS q hq]; rfl

/-! comparisons of what is alike -/
theorem eqStringS_l0 (l : List ByteArray) (hl : l.length ≤ 1048576) : ∀ (k i : Nat), i + k = l.length → f_laws_eqStringS_l0 ((i : Int), l, l, ()) = some (true, ())
  | 0, i, hk => by rw [f_laws_eqStringS_l0, nlt_nat (by omega)]; rfl
  | k + 1, i, hk => by
    have hi : i < l.length := by omega
    rw [f_laws_eqStringS_l0, lt_nat hi, within_nat hi, getD_nat _ _ _ hi, w64s (by omega), strEq_self]
    exact eqStringS_l0 l hl k (i + 1) (by omega)
theorem eqStringS (l : List ByteArray) (hl : l.length ≤ 1048576) : f_laws_eqStringS (l, l, ()) = some (true, ()) := by
  rw [f_laws_eqStringS]
  simp only [bne_self_eq_false, Bool.false_eq_true, if_false]
  exact eqStringS_l0 l hl l.length 0 (by omega)

theorem eqPut (a : Int) (s : ByteArray) : f_laws_eqPut (a, s, a, s, ()) = some (true, ()) := by
  rw [f_laws_eqPut]
  simp [strEq_self]
theorem eqPutS_l0 (l : List (Int × ByteArray)) (hl : l.length ≤ 1048576) : ∀ (k i : Nat), i + k = l.length → f_laws_eqPutS_l0 ((i : Int), l, l, ()) = some (true, ())
  | 0, i, hk => by rw [f_laws_eqPutS_l0, nlt_nat (by omega)]; rfl
  | k + 1, i, hk => by
    have hi : i < l.length := by omega
    rw [f_laws_eqPutS_l0, lt_nat hi, within_nat hi, getD_nat _ _ _ hi, w64s (by omega), eqPut]
    exact eqPutS_l0 l hl k (i + 1) (by omega)
theorem eqPutS (l : List (Int × ByteArray)) (hl : l.length ≤ 1048576) : f_laws_eqPutS (l, l, ()) = some (true, ()) := by
  rw [f_laws_eqPutS]
  simp only [bne_self_eq_false, Bool.false_eq_true, if_false]
  exact eqPutS_l0 l hl l.length 0 (by omega)

theorem eqEntry (a s : ByteArray) : f_laws_eqEntry (a, s, a, s, ()) = some (true, ()) := by
  rw [f_laws_eqEntry]
  simp [strEq_self]
theorem eqEntryS_l0 (l : List (ByteArray × ByteArray)) (hl : l.length ≤ 1048576) : ∀ (k i : Nat), i + k = l.length → f_laws_eqEntryS_l0 ((i : Int), l, l, ()) = some (true, ())
  | 0, i, hk => by rw [f_laws_eqEntryS_l0, nlt_nat (by omega)]; rfl
  | k + 1, i, hk => by
    have hi : i < l.length := by omega
    rw [f_laws_eqEntryS_l0, lt_nat hi, within_nat hi, getD_nat _ _ _ hi, w64s (by omega), eqEntry]
    exact eqEntryS_l0 l hl k (i + 1) (by omega)
theorem eqEntryS (l : List (ByteArray × ByteArray)) (hl : l.length ≤ 1048576) : f_laws_eqEntryS (l, l, ()) = some (true, ()) := by
  rw [f_laws_eqEntryS]
  simp only [bne_self_eq_false, Bool.false_eq_true, if_false]
  exact eqEntryS_l0 l hl l.length 0 (by omega)

theorem eqDisk (l : List ByteArray) (p : List (Int × ByteArray)) (hl : l.length ≤ 1048576) (hp : p.length ≤ 1048576) : f_laws_eqDisk (l, p, l, p, ()) = some (true, ()) := by
  rw [f_laws_eqDisk, eqStringS l hl, eqPutS p hp]; rfl
theorem eqHead (a b c : Int) : f_laws_eqHead (a, b, c, a, b, c, ()) = some (true, ()) := by
  rw [f_laws_eqHead]; simp
theorem eqArchive (a0 : Bool) (a1 a2 a3 : Int) (l : List ByteArray) (p : List (Int × ByteArray)) (q : List (ByteArray × ByteArray)) (hl : l.length ≤ 1048576) (hp : p.length ≤ 1048576) (hq : q.length ≤ 1048576) :
    f_laws_eqArchive (a0, a1, a2, a3, a0, a1, a2, a3, l, p, q, l, p, q, ()) = some (true, ()) := by
  rw [f_laws_eqArchive, eqDisk l p hl hp, eqEntryS q hq, eqHead]; simp
end Go.Proofs.Fx

/- The plain law: disks, heads, sectors. -/
set_option linter.unusedVariables false
set_option linter.unusedSimpArgs false
namespace Go.Proofs.Fx
open Go Go.Sx

def inR (a lo hi : Int) : Bool := decide (lo ≤ a) && decide (a ≤ hi)
theorem l1In (a lo hi : Int) : f_spec_l1In (a, lo, hi, ()) = some (inR a lo hi, ()) := by
  rw [f_spec_l1In]
  unfold inR
  by_cases h : lo ≤ a
  · rw [if_pos (by simpa using h)]; simp [h]
  · rw [if_neg (by simpa using h)]; simp [h]
theorem inRange (a lo hi : Int) : f_impl_inRange (a, lo, hi, ()) = some (inR a lo hi, ()) := by
  rw [f_impl_inRange]
  unfold inR
  by_cases h : lo ≤ a
  · rw [if_pos (by simpa using h)]; simp [h]
  · rw [if_neg (by simpa using h)]; simp [h]
theorem l15Sector (a : Int) : f_spec_l15Sector (a, ()) = some (inR a 0 129, ()) := by rw [f_spec_l15Sector, l1In]; rfl
theorem isSector (a : Int) : f_impl_isSector (a, ()) = some (inR a 0 129, ()) := by rw [f_impl_isSector, inRange]; rfl

def putOk (x : Int × ByteArray) : Bool := inR x.1 0 129 && decide (x.2.size = 64)
def diskOk (l : List ByteArray) (p : List (Int × ByteArray)) : Bool := decide (l.length = 130) && (decide (p.length ≤ 200) && (l.all (fun s => decide (s.size = 64)) && p.all putOk))

theorem all_drop {α : Type} (f : α → Bool) (l : List α) (i : Nat) (h : i < l.length) : (l.drop i).all f = (f l[i] && (l.drop (i + 1)).all f) := by
  rw [List.drop_eq_getElem_cons h, List.all_cons]
theorem ne64 (s : ByteArray) : ((s.size : Int) != 64) = !decide (s.size = 64) := by
  by_cases h : s.size = 64
  · simp [h]
  · have : ((s.size : Int) != 64) = true := by simp; omega
    rw [this]; simp [h]

theorem sDiskOk_l1 (l : List ByteArray) (p : List (Int × ByteArray)) (hp : p.length ≤ 1048576) : ∀ (k i : Nat), i + k = p.length → f_spec_DiskOk_l1 ((i : Int), l, p, ()) = some ((p.drop i).all putOk, ())
  | 0, i, hk => by rw [f_spec_DiskOk_l1, nlt_nat (by omega), List.drop_eq_nil_of_le (by omega)]; rfl
  | k + 1, i, hk => by
    have hi : i < p.length := by omega
    rw [f_spec_DiskOk_l1, lt_nat hi, within_nat hi, getD_nat _ _ _ hi, w64s (by omega), l15Sector, all_drop _ _ _ hi]
    simp only [if_true, Option.bind_eq_bind, Option.bind_some, ne64]
    cases h1 : inR p[i].1 0 129
    · simp [putOk, h1]
    · cases h2 : decide (p[i].2.size = 64)
      · simp [putOk, h1, h2]
      · simp only [Bool.not_true, Bool.false_eq_true, if_false]
        rw [sDiskOk_l1 l p hp k (i + 1) (by omega)]
        simp [putOk, h1, h2]

theorem sDiskOk_l0 (l : List ByteArray) (p : List (Int × ByteArray)) (hl : l.length ≤ 1048576) (hp : p.length ≤ 1048576) : ∀ (k i : Nat), i + k = l.length → f_spec_DiskOk_l0 ((i : Int), l, p, ()) = some ((l.drop i).all (fun s => decide (s.size = 64)) && p.all putOk, ())
  | 0, i, hk => by
    rw [f_spec_DiskOk_l0, nlt_nat (by omega), List.drop_eq_nil_of_le (by omega)]
    have := sDiskOk_l1 l p hp p.length 0 (by omega)
    simpa using this
  | k + 1, i, hk => by
    have hi : i < l.length := by omega
    rw [f_spec_DiskOk_l0, lt_nat hi, within_nat hi, getD_nat _ _ _ hi, w64s (by omega), all_drop _ _ _ hi]
    simp only [if_true, ne64]
    cases h2 : decide (l[i].size = 64)
    · simp
    · simp only [Bool.not_true, Bool.false_eq_true, if_false]
      rw [sDiskOk_l0 l p hl hp k (i + 1) (by omega)]
      simp

theorem sDiskOk (l : List ByteArray) (p : List (Int × ByteArray)) (hl : l.length ≤ 1048576) (hp : p.length ≤ 1048576) : f_spec_DiskOk (l, p, ()) = some (diskOk l p, ()) := by
  rw [f_spec_DiskOk]
  unfold diskOk
  by_cases h1 : l.length = 130
  · rw [if_neg (by simp; omega)]
    by_cases h2 : p.length ≤ 200
    · rw [if_neg (by simp; omega)]
      have := sDiskOk_l0 l p hl hp l.length 0 (by omega)
      simp only [List.drop_zero] at this
      rw [show (0 : Int) = ((0 : Nat) : Int) from rfl, this]
      simp [h1, h2]
    · rw [if_pos (by simp; omega)]
      simp [h1, h2]
  · rw [if_pos (by simp; omega)]
    simp [h1]

theorem iDiskOk_l1 (l : List ByteArray) (p : List (Int × ByteArray)) (hp : p.length ≤ 1048576) : ∀ (k i : Nat), i + k = p.length → f_impl_DiskOk_l1 ((p.length : Int), (i : Int), l, p, ()) = some ((p.drop i).all putOk && (decide (l.length = 130) && decide (p.length ≤ 200)), ())
  | 0, i, hk => by
    rw [f_impl_DiskOk_l1, nlt_nat (by omega), List.drop_eq_nil_of_le (by omega)]
    simp only [Bool.false_eq_true, if_false, List.all_nil, Bool.true_and]
    by_cases h1 : l.length = 130
    · rw [if_pos (by simp; omega)]
      by_cases h2 : p.length ≤ 200
      · simp [h1, h2]; omega
      · simp [h1, h2]; omega
    · rw [if_neg (by simp; omega)]; simp [h1]
  | k + 1, i, hk => by
    have hi : i < p.length := by omega
    rw [f_impl_DiskOk_l1, lt_nat hi, within_nat hi, getD_nat _ _ _ hi, w64s (by omega), isSector, all_drop _ _ _ hi]
    simp only [if_true, Option.bind_eq_bind, Option.bind_some, ne64]
    cases h1 : inR p[i].1 0 129
    · simp [putOk, h1]
    · cases h2 : decide (p[i].2.size = 64)
      · simp [putOk, h1, h2]
      · simp only [Bool.not_true, Bool.false_eq_true, if_false]
        rw [iDiskOk_l1 l p hp k (i + 1) (by omega)]
        simp [putOk, h1, h2]

theorem iDiskOk_l0 (l : List ByteArray) (p : List (Int × ByteArray)) (hl : l.length ≤ 1048576) (hp : p.length ≤ 1048576) : ∀ (k i : Nat), i + k = l.length → f_impl_DiskOk_l0 ((l.length : Int), (i : Int), l, p, ()) = some ((l.drop i).all (fun s => decide (s.size = 64)) && (p.all putOk && (decide (l.length = 130) && decide (p.length ≤ 200))), ())
  | 0, i, hk => by
    rw [f_impl_DiskOk_l0, nlt_nat (by omega), List.drop_eq_nil_of_le (by omega)]
    have := iDiskOk_l1 l p hp p.length 0 (by omega)
    simpa using this
  | k + 1, i, hk => by
    have hi : i < l.length := by omega
    rw [f_impl_DiskOk_l0, lt_nat hi, within_nat hi, getD_nat _ _ _ hi, w64s (by omega), all_drop _ _ _ hi]
    simp only [if_true, ne64]
    cases h2 : decide (l[i].size = 64)
    · simp
    · simp only [Bool.not_true, Bool.false_eq_true, if_false]
      rw [iDiskOk_l0 l p hl hp k (i + 1) (by omega)]
      simp

theorem iDiskOk (l : List ByteArray) (p : List (Int × ByteArray)) (hl : l.length ≤ 1048576) (hp : p.length ≤ 1048576) : f_impl_DiskOk (l, p, ()) = some (diskOk l p, ()) := by
  rw [f_impl_DiskOk]
  have := iDiskOk_l0 l p hl hp l.length 0 (by omega)
  simp only [List.drop_zero] at this
  rw [show (0 : Int) = ((0 : Nat) : Int) from rfl, this]
  unfold diskOk
  cases decide (l.length = 130) <;> cases decide (p.length ≤ 200) <;> cases (l.all fun s => decide (s.size = 64)) <;> cases p.all putOk <;> rfl

/-! heads -/
def headOk (a b c : Int) : Bool := inR a 1 1000000000 && (inR b 0 1 && inR c 0 4096)
theorem l16Right (a b c : Int) : f_spec_l16Right (a, b, c, ()) = some (headOk a b c, ()) := by
  rw [f_spec_l16Right, l1In]
  simp only [Option.bind_eq_bind, Option.bind_some, l1In]
  unfold headOk
  cases inR a 1 1000000000 <;> cases inR b 0 1 <;> cases inR c 0 4096 <;> rfl
theorem isArea (b : Int) : f_impl_isArea (b, ()) = some (inR b 0 1, ()) := by
  rw [f_impl_isArea]
  unfold inR
  by_cases h0 : b = 0
  · subst h0; rfl
  · rw [if_neg (by simpa using h0)]
    by_cases h1 : b = 1
    · subst h1; rfl
    · have : (b == 1) = false := by simpa using h1
      rw [this]
      by_cases h2 : 0 ≤ b
      · have : ¬ b ≤ 1 := by omega
        simp [this]
      · simp [h2]
theorem iheadOk (a b c : Int) : f_impl_headOk (a, b, c, ()) = some (headOk a b c, ()) := by
  rw [f_impl_headOk, inRange]
  simp only [Option.bind_eq_bind, Option.bind_some, inRange, isArea]
  unfold headOk
  cases inR a 1 1000000000 <;> cases inR b 0 1 <;> cases inR c 0 4096 <;> rfl

/-! sectors -/
/-- The last put on a sector among the first so many, or what lies there. -/
def sectU (l : List ByteArray) (p : List (Int × ByteArray)) (k : Nat) : Nat → ByteArray
  | 0 => l.getD k ByteArray.empty
  | n + 1 => if (p.getD n (0, ByteArray.empty)).1 = (k : Int) then (p.getD n (0, ByteArray.empty)).2 else sectU l p k n
def sect (l : List ByteArray) (p : List (Int × ByteArray)) (k : Nat) : ByteArray := sectU l p k p.length

theorem l15Of_l0 (l : List ByteArray) (p : List (Int × ByteArray)) (hp : p.length ≤ 1048576) (k : Nat) (hk : k < l.length) : ∀ n : Nat, n ≤ p.length → f_spec_l15Of_l0 ((k : Int), (n : Int) - 1, l, p, ()) = some (sectU l p k n, ())
  | 0, hn => by
    rw [f_spec_l15Of_l0, if_neg (by simp), within_nat hk]; simp [sectU]
  | n + 1, hn => by
    have e : ((n + 1 : Nat) : Int) - 1 = (n : Int) := by omega
    rw [e, f_spec_l15Of_l0, if_pos (by simp), within_nat (by omega), w64 (by omega) (by omega), Int.toNat_natCast, sectU]
    by_cases h : (p.getD n (0, ByteArray.empty)).1 = (k : Int)
    · simp only [if_true]
      rw [if_pos (by simpa using h), if_pos h]
    · simp only [if_true]
      rw [if_neg (by simpa using h), if_neg h, l15Of_l0 l p hp k hk n (by omega)]
theorem l15Of (l : List ByteArray) (p : List (Int × ByteArray)) (hp : p.length ≤ 1048576) (k : Nat) (hk : k < l.length) : f_spec_l15Of ((k : Int), l, p, ()) = some (sect l p k, ()) := by
  rw [f_spec_l15Of, w64 (by omega) (by omega), l15Of_l0 l p hp k hk p.length (Nat.le_refl _)]; rfl

theorem iSector_l0 (l : List ByteArray) (p : List (Int × ByteArray)) (hp : p.length ≤ 1048576) (k : Nat) (hk : k < l.length) : ∀ n : Nat, n ≤ p.length → f_impl_Disk_sector_l0 ((k : Int), (n : Int) - 1, l, p, ()) = some (sectU l p k n, ())
  | 0, hn => by
    rw [f_impl_Disk_sector_l0, if_neg (by simp), within_nat hk]; simp [sectU]
  | n + 1, hn => by
    have e : ((n + 1 : Nat) : Int) - 1 = (n : Int) := by omega
    rw [e, f_impl_Disk_sector_l0, if_pos (by simp), within_nat (by omega), w64 (by omega) (by omega), Int.toNat_natCast, sectU]
    by_cases h : (p.getD n (0, ByteArray.empty)).1 = (k : Int)
    · simp only [if_true]
      rw [if_pos (by simpa using h), if_pos h]
    · simp only [if_true]
      rw [if_neg (by simpa using h), if_neg h, iSector_l0 l p hp k hk n (by omega)]
theorem iSector (l : List ByteArray) (p : List (Int × ByteArray)) (hp : p.length ≤ 1048576) (k : Nat) (hk : k < l.length) : f_impl_Disk_sector ((k : Int), l, p, ()) = some (sect l p k, ()) := by
  rw [f_impl_Disk_sector, w64 (by omega) (by omega), iSector_l0 l p hp k hk p.length (Nat.le_refl _)]; rfl

theorem sect_size (l : List ByteArray) (p : List (Int × ByteArray)) (h : diskOk l p = true) (k : Nat) (hk : k < 130) : (sect l p k).size = 64 := by
  unfold diskOk at h
  simp only [Bool.and_eq_true, decide_eq_true_eq, List.all_eq_true] at h
  obtain ⟨h1, h2, h3, h4⟩ := h
  have key : ∀ n, n ≤ p.length → (sectU l p k n).size = 64 := by
    intro n
    induction n with
    | zero =>
      intro _
      have hkl : k < l.length := by omega
      have := h3 l[k] (List.getElem_mem _)
      simp only [sectU, List.getD_eq_getElem?_getD, List.getElem?_eq_getElem hkl, Option.getD_some]
      exact this
    | succ n ih =>
      intro hn
      rw [sectU]
      split
      · have := h4 p[n] (List.getElem_mem _)
        unfold putOk at this
        simp only [Bool.and_eq_true, decide_eq_true_eq] at this
        simp only [List.getD_eq_getElem?_getD, List.getElem?_eq_getElem (show n < p.length by omega), Option.getD_some]
        exact this.2
      · exact ih (by omega)
  exact key _ (Nat.le_refl _)
end Go.Proofs.Fx

/- The plain law: numbers. -/
set_option linter.unusedVariables false
set_option linter.unusedSimpArgs false
namespace Go.Proofs.Fx
open Go Go.Sx

/-- Bytes, not too many. -/
structure Bts (d : List Int) : Prop where
  len : d.length ≤ 1073741824
  byte : ∀ b ∈ d, 0 ≤ b ∧ b ≤ 255

theorem and127 : ∀ b : Fin 256, bitOp .and .i64 (b.val : Int) 127 = ((b.val % 128 : Nat) : Int) := by decide +kernel
theorem and127' (b : Nat) (h : b ≤ 255) : bitOp .and .i64 (b : Int) 127 = ((b % 128 : Nat) : Int) := and127 ⟨b, by omega⟩

theorem ofInt_nat (n : Nat) : BitVec.ofInt 64 (n : Int) = BitVec.ofNat 64 n := by
  rw [BitVec.ofInt_natCast]

theorem or_shift (A m s : Nat) (hA : A < 2 ^ s) (hm : m * 2 ^ s + A < 9223372036854775808) : bitOp .or .i64 (A : Int) ((m * 2 ^ s : Nat) : Int) = ((A + m * 2 ^ s : Nat) : Int) := by
  have h1 : A ||| m * 2 ^ s = A + m * 2 ^ s := by
    rw [Nat.or_comm, Nat.mul_comm m, ← Nat.two_pow_add_eq_or_of_lt hA m, Nat.add_comm]
  have h2 : (BitVec.ofInt 64 (A : Int) ||| BitVec.ofInt 64 ((m * 2 ^ s : Nat) : Int)).toNat = A + m * 2 ^ s := by
    rw [ofInt_nat, ofInt_nat, BitVec.toNat_or, BitVec.toNat_ofNat, BitVec.toNat_ofNat, Nat.mod_eq_of_lt (by omega), Nat.mod_eq_of_lt (by omega), h1]
  show IntKind.i64.wrap ((BitVec.ofInt 64 (A : Int) ||| BitVec.ofInt 64 ((m * 2 ^ s : Nat) : Int)).toNat : Int) = _
  rw [h2]
  exact w64 (by omega) (by omega)

theorem u64w {n : Nat} (h : n < 9223372036854775808) : IntKind.u64.wrap (IntKind.i64.wrap (n : Int)) = (n : Int) := by
  rw [w64 (by omega) (by omega)]
  simp [IntKind.wrap, IntKind.bits, IntKind.signed]
  omega

/-- Both loops, side by side. -/
theorem getNum_l0 (d : List Int) (hd : Bts d) (o : Nat) (ho : o ≤ d.length) : ∀ (k i : Nat) (A : Nat) (P : Int), i + k = 9 → A < 2 ^ (7 * i) → (i ≤ 8 → P = ((2 ^ (7 * i) : Nat) : Int)) →
    ∃ v n ok, f_spec_GetNum_l0 ((o : Int), (A : Int), P, (i : Int), d, ()) = some (v, n, ok, ()) ∧ f_impl_GetNum_l0 (((o + i : Nat) : Int), (A : Int), (i : Int), d, ()) = some (v, n, ok, ()) ∧
      (ok = true → 0 ≤ v ∧ v ≤ 9223372036854775807 ∧ ((o + i : Nat) : Int) < n ∧ n ≤ d.length) ∧ (ok = false → v = 0 ∧ n = 0)
  | 0, i, A, P, hk, hA, hP => by
    have : i = 9 := by omega
    subst this
    refine ⟨0, 0, false, ?_, ?_, fun h => (by cases h), fun _ => ⟨rfl, rfl⟩⟩
    · rw [f_spec_GetNum_l0]; rfl
    · rw [f_impl_GetNum_l0]; rfl
  | k + 1, i, A, P, hk, hA, hP => by
    have hi : i ≤ 8 := by omega
    have hP := hP hi
    subst hP
    have hdl := hd.len
    have i9 : decide ((i : Int) < 9) = true := by simp; omega
    have eoi : IntKind.i64.wrap ((o : Int) + (i : Int)) = ((o + i : Nat) : Int) := by rw [w64 (by omega) (by omega)]; omega
    rw [f_spec_GetNum_l0, f_impl_GetNum_l0, i9, eoi]
    simp only [if_true]
    by_cases hlt : o + i < d.length
    · rw [lt_nat hlt, within_nat hlt, getD_nat _ _ _ hlt]
      obtain ⟨b0, b1⟩ := hd.byte d[o + i] (List.getElem_mem _)
      obtain ⟨b, hb⟩ := Int.eq_ofNat_of_zero_le b0
      rw [hb] at b0 b1 ⊢
      have hb2 : b ≤ 255 := by omega
      have hw : IntKind.i64.wrap (b : Int) = (b : Int) := w64 (by omega) (by omega)
      have h7 : IntKind.i64.wrap (7 * (i : Int)) = IntKind.i64.wrap ((7 * i : Nat) : Int) := by congr 1
      have hu : IntKind.u64.wrap (IntKind.i64.wrap (7 * (i : Int))) = ((7 * i : Nat) : Int) := by rw [h7]; exact u64w (by omega)
      have hmin : min (Int.toNat ((7 * i : Nat) : Int)) 64 = 7 * i := by rw [Int.toNat_natCast]; omega
      have hpow : 2 ^ (7 * i) ≤ 2 ^ 56 := Nat.pow_le_pow_right (by omega) (by omega)
      have hm : b % 128 ≤ 127 := by omega
      have hmul : b % 128 * 2 ^ (7 * i) ≤ 127 * 2 ^ (7 * i) := Nat.mul_le_mul_right _ hm
      have htm : Int.tmod (b : Int) 128 = ((b % 128 : Nat) : Int) := by
        rw [Int.tmod_eq_emod_of_nonneg (by omega)]; omega
      have hprod : (((b % 128 : Nat) : Int)) * ((2 ^ (7 * i) : Nat) : Int) = ((b % 128 * 2 ^ (7 * i) : Nat) : Int) := by rw [Int.natCast_mul]
      have hval : IntKind.i64.wrap ((A : Int) + ((b % 128 * 2 ^ (7 * i) : Nat) : Int)) = ((A + b % 128 * 2 ^ (7 * i) : Nat) : Int) := by
        rw [w64 (by omega) (by omega)]; omega
      have hpi : ((2 : Int) ^ (7 * i)) = ((2 ^ (7 * i) : Nat) : Int) := by rw [Int.natCast_pow]; rfl
      have hwm : IntKind.i64.wrap ((b % 128 * 2 ^ (7 * i) : Nat) : Int) = ((b % 128 * 2 ^ (7 * i) : Nat) : Int) := w64 (by omega) (by omega)
      have hor := or_shift A (b % 128) (7 * i) hA (by omega)
      have hge : decide ((0 : Int) ≤ ((7 * i : Nat) : Int)) = true := by simp; omega
      have hnext : IntKind.i64.wrap (((o + i : Nat) : Int) + 1) = ((o + i + 1 : Nat) : Int) := w64s (by omega)
      rw [hw, hu, hmin, and127' b hb2, htm, hpi, hprod, hwm, hval, hor, hge, hnext]
      simp only [if_true]
      by_cases hb128 : b < 128
      · have c1 : decide ((b : Int) < 128) = true := by simp; omega
        simp only [c1, if_true]
        by_cases hbz : b = 0
        · have c2 : ((b : Int) == 0) = true := by simp; omega
          simp only [c2, if_true]
          by_cases hi0 : i = 0
          · have c3 : decide ((i : Int) > 0) = false := by simp; omega
            simp only [c3, Bool.false_eq_true, if_false]
            exact ⟨_, _, _, rfl, rfl, fun _ => ⟨by omega, by omega, by omega, by omega⟩, fun h => (by cases h)⟩
          · have c3 : decide ((i : Int) > 0) = true := by simp; omega
            simp only [c3, if_true]
            exact ⟨_, _, _, rfl, rfl, fun h => (by cases h), fun _ => ⟨rfl, rfl⟩⟩
        · have c2 : ((b : Int) == 0) = false := by simp; omega
          simp only [c2, Bool.false_eq_true, if_false]
          exact ⟨_, _, _, rfl, rfl, fun _ => ⟨by omega, by omega, by omega, by omega⟩, fun h => (by cases h)⟩
      · have c1 : decide ((b : Int) < 128) = false := by simp; omega
        simp only [c1, Bool.false_eq_true, if_false]
        rw [w64s (by omega)]
        have hp1 : 2 ^ (7 * (i + 1)) = 2 ^ (7 * i) * 128 := by rw [show 7 * (i + 1) = 7 * i + 7 by omega, Nat.pow_add]
        obtain ⟨v, n, ok, h1, h2, h3, h4⟩ := getNum_l0 d hd o ho k (i + 1) (A + b % 128 * 2 ^ (7 * i)) (IntKind.i64.wrap (((2 ^ (7 * i) : Nat) : Int) * 128)) (by omega) (by rw [hp1]; omega) (fun h8 => by
          have : 2 ^ (7 * i) ≤ 2 ^ 49 := Nat.pow_le_pow_right (by omega) (by omega)
          rw [hp1, w64 (by omega) (by omega)]; omega)
        refine ⟨v, n, ok, h1, h2, fun h => ?_, h4⟩
        obtain ⟨g1, g2, g3, g4⟩ := h3 h
        exact ⟨g1, g2, by omega, g4⟩
    · rw [nlt_nat (by omega)]
      exact ⟨_, _, _, rfl, rfl, fun h => (by cases h), fun _ => ⟨rfl, rfl⟩⟩

theorem getNum_both (d : List Int) (hd : Bts d) (a : Int) : ∃ v n ok, f_spec_GetNum (a, d, ()) = some (v, n, ok, ()) ∧ f_impl_GetNum (a, d, ()) = some (v, n, ok, ()) ∧
    (ok = true → 0 ≤ a ∧ 0 ≤ v ∧ v ≤ 9223372036854775807 ∧ a < n ∧ n ≤ d.length) ∧ (ok = false → v = 0 ∧ n = 0) := by
  have hdl := hd.len
  rw [f_spec_GetNum, f_impl_GetNum, inRange, w64 (by omega) (by omega)]
  simp only [Option.bind_eq_bind, Option.bind_some]
  by_cases h0 : a < 0
  · rw [if_pos (by simpa using h0), if_pos (by simp [inR]; omega)]
    exact ⟨_, _, _, rfl, rfl, fun h => (by cases h), fun _ => ⟨rfl, rfl⟩⟩
  · rw [if_neg (by simpa using h0)]
    by_cases h1 : (d.length : Int) ≤ a
    · rw [if_pos (by simpa using h1), if_pos (by simp [inR]; omega)]
      exact ⟨_, _, _, rfl, rfl, fun h => (by cases h), fun _ => ⟨rfl, rfl⟩⟩
    · rw [if_neg (by simp; omega), if_neg (by simp [inR]; omega)]
      obtain ⟨o, rfl⟩ := Int.eq_ofNat_of_zero_le (show 0 ≤ a by omega)
      obtain ⟨v, n, ok, g1, g2, g3, g4⟩ := getNum_l0 d hd o (by omega) 9 0 0 1 rfl (by simp) (fun _ => by simp)
      refine ⟨v, n, ok, g1, g2, fun h => ?_, g4⟩
      obtain ⟨k1, k2, k3, k4⟩ := g3 h
      exact ⟨by omega, k1, k2, by simpa using k3, k4⟩

/-- The number that stands at a place: itself, the place behind it, whether there is one. -/
def gn (d : List Int) (a : Int) : Int × Int × Bool := match f_spec_GetNum (a, d, ()) with | some (v, n, ok, ()) => (v, n, ok) | none => (0, 0, false)
theorem gn_spec {d : List Int} (hd : Bts d) (a : Int) : f_spec_GetNum (a, d, ()) = some ((gn d a).1, (gn d a).2.1, (gn d a).2.2, ()) := by
  obtain ⟨v, n, ok, h1, _⟩ := getNum_both d hd a
  simp only [gn, h1]
theorem gn_impl {d : List Int} (hd : Bts d) (a : Int) : f_impl_GetNum (a, d, ()) = some ((gn d a).1, (gn d a).2.1, (gn d a).2.2, ()) := by
  obtain ⟨v, n, ok, h1, h2, _⟩ := getNum_both d hd a
  simp only [gn, h1, h2]
theorem gn_ok {d : List Int} (hd : Bts d) {a : Int} (h : (gn d a).2.2 = true) : 0 ≤ a ∧ 0 ≤ (gn d a).1 ∧ (gn d a).1 ≤ 9223372036854775807 ∧ a < (gn d a).2.1 ∧ (gn d a).2.1 ≤ d.length := by
  obtain ⟨v, n, ok, h1, h2, h3, h4⟩ := getNum_both d hd a
  simp only [gn, h1] at h ⊢
  exact h3 h
theorem gn_no {d : List Int} (hd : Bts d) {a : Int} (h : (gn d a).2.2 = false) : (gn d a).1 = 0 ∧ (gn d a).2.1 = 0 := by
  obtain ⟨v, n, ok, h1, h2, h3, h4⟩ := getNum_both d hd a
  simp only [gn, h1] at h ⊢
  exact h4 h
end Go.Proofs.Fx

/- The plain law: numbers written, heads written. -/
set_option linter.unusedVariables false
set_option linter.unusedSimpArgs false
namespace Go.Proofs.Fx
open Go Go.Sx

theorem and127n (n : Nat) (h : n < 9223372036854775808) : bitOp .and .i64 (n : Int) 127 = ((n % 128 : Nat) : Int) := by
  have h2 : (BitVec.ofInt 64 (n : Int) &&& BitVec.ofInt 64 (127 : Int)).toNat = n % 128 := by
    rw [ofInt_nat, show (127 : Int) = ((127 : Nat) : Int) from rfl, ofInt_nat, BitVec.toNat_and, BitVec.toNat_ofNat, BitVec.toNat_ofNat, Nat.mod_eq_of_lt (by omega), Nat.mod_eq_of_lt (by omega)]
    exact Nat.and_two_pow_sub_one_eq_mod n 7
  show IntKind.i64.wrap ((BitVec.ofInt 64 (n : Int) &&& BitVec.ofInt 64 (127 : Int)).toNat : Int) = _
  rw [h2]
  exact w64 (by omega) (by omega)
theorem or128 : ∀ m : Fin 128, bitOp .or .i64 128 (m.val : Int) = ((m.val + 128 : Nat) : Int) := by decide +kernel
theorem w8 {n : Nat} (h : n < 256) : IntKind.u8.wrap (n : Int) = (n : Int) := by
  simp [IntKind.wrap, IntKind.bits, IntKind.signed]; omega

/-- A number's bytes. -/
def put (n : Nat) : List Int := if h : n > 127 then ((n % 128 + 128 : Nat) : Int) :: put (n / 128) else [(n : Int)]
  termination_by n
  decreasing_by omega
theorem put_big {n : Nat} (h : n > 127) : put n = ((n % 128 + 128 : Nat) : Int) :: put (n / 128) := by rw [put, dif_pos h]
theorem put_small {n : Nat} (h : ¬ n > 127) : put n = [(n : Int)] := by rw [put, dif_neg h]

theorem put_len : ∀ (k n : Nat), 1 ≤ k → n < 128 ^ k → (put n).length ≤ k
  | 0, n, h, _ => by omega
  | k + 1, n, _, hn => by
    by_cases h : n > 127
    · rw [put_big h, List.length_cons]
      rcases Nat.eq_zero_or_pos k with rfl | hk
      · simp at hn; omega
      · have := put_len k (n / 128) hk (by rw [Nat.pow_succ] at hn; omega)
        omega
    · rw [put_small h]; simp
theorem put_byte : ∀ (k n : Nat), n < 128 ^ (k + 1) → ∀ b ∈ put n, 0 ≤ b ∧ b ≤ 255
  | 0, n, hn => by
    rw [put_small (by simp at hn; omega)]
    simp at hn ⊢; omega
  | k + 1, n, hn => by
    by_cases h : n > 127
    · rw [put_big h]
      intro b hb
      rcases List.mem_cons.1 hb with rfl | hb
      · omega
      · exact put_byte k (n / 128) (by rw [Nat.pow_succ] at hn; omega) b hb
    · rw [put_small h]
      simp; omega

theorem sPutNum_l0 : ∀ (k n : Nat) (acc : List Int), n < 128 ^ (k + 1) → n < 9223372036854775808 → acc.length + (k + 1) ≤ most → f_spec_PutNum_l0 ((n : Int), acc, ()) = some (acc ++ put n, ())
  | 0, n, acc, hn, hb, hl => by
    have h : ¬ n > 127 := by simp at hn; omega
    rw [f_spec_PutNum_l0, if_neg (by simp; omega), if_pos (by simp; omega), w8 (by omega), put_small h]
  | k + 1, n, acc, hn, hb, hl => by
    by_cases h : n > 127
    · rw [f_spec_PutNum_l0, if_pos (by simp; omega), if_pos (by simp; omega)]
      have e1 : Int.tmod (n : Int) 128 = ((n % 128 : Nat) : Int) := by rw [Int.tmod_eq_emod_of_nonneg (by omega)]; omega
      have e2 : Int.tdiv (n : Int) 128 = ((n / 128 : Nat) : Int) := by rw [Int.tdiv_eq_ediv_of_nonneg (by omega)]; omega
      have e3 : IntKind.i64.wrap (((n % 128 : Nat) : Int) + 128) = ((n % 128 + 128 : Nat) : Int) := by rw [w64 (by omega) (by omega)]; omega
      rw [e1, e2, e3, w8 (by omega), w64 (by omega) (by omega), sPutNum_l0 k (n / 128) _ (by rw [Nat.pow_succ] at hn; omega) (by omega) (by simp; omega), put_big h, List.append_assoc]
      rfl
    · rw [f_spec_PutNum_l0, if_neg (by simp; omega), if_pos (by simp; omega), w8 (by omega), put_small h]

theorem iputNum_l0 : ∀ (k n : Nat) (acc : List Int), n < 128 ^ (k + 1) → n < 9223372036854775808 → acc.length + (k + 1) ≤ most → f_impl_putNum_l0 ((n : Int), acc, ()) = some (acc ++ put n, ())
  | 0, n, acc, hn, hb, hl => by
    have h : ¬ n > 127 := by simp at hn; omega
    rw [f_impl_putNum_l0, if_neg (by simp; omega), if_pos (by simp; omega), w8 (by omega), put_small h]
  | k + 1, n, acc, hn, hb, hl => by
    by_cases h : n > 127
    · rw [f_impl_putNum_l0, if_pos (by simp; omega), if_pos (by simp; omega)]
      have e2 : Int.fdiv (n : Int) 128 = ((n / 128 : Nat) : Int) := by rw [Int.fdiv_eq_ediv_of_nonneg _ (by omega)]; omega
      rw [and127n n hb, or128 ⟨n % 128, Nat.mod_lt _ (by omega)⟩, e2, w8 (by omega), iputNum_l0 k (n / 128) _ (by rw [Nat.pow_succ] at hn; omega) (by omega) (by simp; omega), put_big h, List.append_assoc]
      rfl
    · rw [f_impl_putNum_l0, if_neg (by simp; omega), if_pos (by simp; omega), w8 (by omega), put_small h]

theorem sPutNum (n : Nat) (h : n < 9223372036854775808) : f_spec_PutNum ((n : Int), ()) = some (put n, ()) := by
  have hm : most = 4294967296 := rfl
  rw [f_spec_PutNum, if_neg (by simp), sPutNum_l0 8 n [] h h (by simp; omega)]; rfl
theorem iputNum (n : Nat) (h : n < 9223372036854775808) (acc : List Int) (ha : acc.length ≤ 4294967000) : f_impl_putNum ((n : Int), acc, ()) = some (acc ++ put n, ()) := by
  have hm : most = 4294967296 := rfl
  rw [f_impl_putNum, iputNum_l0 8 n acc h h (by omega)]

/-! strings of bytes -/
theorem strOf_append (a b : List Int) : strOf (a ++ b) = strOf a ++ strOf b := by
  apply ByteArray.ext
  simp [strOf, ByteArray.data_append]
theorem strOf_size (a : List Int) : (strOf a).size = a.length := by simp [strOf, ByteArray.size]
theorem repL_zero : ∀ n, repL [0] n = List.replicate n 0
  | 0 => rfl
  | n + 1 => by show [0] ++ repL [0] n = _; rw [repL_zero n]; rfl
theorem strOf_zeros (n : Nat) : strOf (List.replicate n 0) = ⟨(repL [0] n).toArray⟩ := by
  rw [repL_zero]
  simp [strOf]

/-- A head's bytes. -/
def headB (a b c : Nat) : List Int := put a ++ put b ++ put c ++ List.replicate (64 - (put a ++ put b ++ put c).length) 0
def headP (a b c : Int) : ByteArray × Bool := if headOk a b c = true then (strOf (headB a.toNat b.toNat c.toNat), true) else (⟨#[]⟩, false)

theorem sHeadPack_stop (x : List Int) (h : 64 ≤ x.length) : f_spec_HeadPack_l0 (x, ()) = some (strOf x, true, ()) := by
  have c : decide ((x.length : Int) < 64) = false := by simp; omega
  rw [f_spec_HeadPack_l0.eq_def]
  simp only [c, Bool.false_eq_true, if_false]
theorem sHeadPack_go (x : List Int) (h : x.length < 64) : f_spec_HeadPack_l0 (x, ()) = f_spec_HeadPack_l0 (x ++ [0], ()) := by
  have hm : most = 4294967296 := rfl
  have c : decide ((x.length : Int) < 64) = true := by simp; omega
  have c2 : decide (x.length + 1 ≤ most) = true := by simp; omega
  rw [f_spec_HeadPack_l0.eq_def (x, ())]
  simp only [c, c2, if_true]
theorem sHeadPack_l0 (m : Nat) (hm : m = 64) : ∀ (k : Nat) (x : List Int), x.length + k = m → f_spec_HeadPack_l0 (x, ()) = some (strOf (x ++ List.replicate (m - x.length) 0), true, ()) := by
  intro k
  induction k with
  | zero =>
    intro x h
    rw [sHeadPack_stop x (by omega), show m - x.length = 0 by omega]; simp
  | succ k ih =>
    intro x h
    rw [sHeadPack_go x (by omega), ih (x ++ [0]) (by simp; omega)]
    congr 3
    rw [List.append_assoc]
    congr 1
    rw [show m - x.length = (m - (x ++ [0]).length) + 1 by simp; omega, List.replicate_succ]; rfl

theorem headOk_nat {a b c : Int} (h : headOk a b c = true) : ∃ x y z : Nat, a = x ∧ b = y ∧ c = z ∧ 1 ≤ x ∧ x ≤ 1000000000 ∧ y ≤ 1 ∧ z ≤ 4096 := by
  simp only [headOk, inR, Bool.and_eq_true, decide_eq_true_eq] at h
  obtain ⟨⟨h1, h2⟩, ⟨h3, h4⟩, h5, h6⟩ := h
  exact ⟨a.toNat, b.toNat, c.toNat, by omega, by omega, by omega, by omega, by omega, by omega, by omega⟩

theorem sHeadPack (a b c : Int) : f_spec_HeadPack (a, b, c, ()) = some ((headP a b c).1, (headP a b c).2, ()) := by
  have hm : most = 4294967296 := rfl
  rw [f_spec_HeadPack, l16Right]
  simp only [Option.bind_eq_bind, Option.bind_some]
  unfold headP
  cases h : headOk a b c with
  | false => simp
  | true =>
    obtain ⟨x, y, z, rfl, rfl, rfl, h1, h2, h3, h4⟩ := headOk_nat h
    have l1 := put_len 5 x (by omega) (by omega)
    have l2 := put_len 1 y (by omega) (by omega)
    have l3 := put_len 2 z (by omega) (by omega)
    simp only [Bool.not_true, Bool.false_eq_true, if_false, if_true, Int.toNat_natCast]
    rw [sPutNum x (by omega), sPutNum y (by omega)]
    simp only [Option.bind_some]
    rw [if_pos (by simp; omega), sPutNum z (by omega)]
    simp only [Option.bind_some]
    rw [if_pos (by simp; omega), sHeadPack_l0 64 rfl (64 - (put x ++ put y ++ put z).length) _ (by simp; omega)]
    rfl

theorem iHeadPack (a b c : Int) : f_impl_HeadPack (a, b, c, ()) = some ((headP a b c).1, (headP a b c).2, ()) := by
  have hm : most = 4294967296 := rfl
  rw [f_impl_HeadPack, iheadOk]
  simp only [Option.bind_eq_bind, Option.bind_some]
  unfold headP
  cases h : headOk a b c with
  | false => simp
  | true =>
    obtain ⟨x, y, z, rfl, rfl, rfl, h1, h2, h3, h4⟩ := headOk_nat h
    have l1 := put_len 5 x (by omega) (by omega)
    have l2 := put_len 1 y (by omega) (by omega)
    have l3 := put_len 2 z (by omega) (by omega)
    simp only [Bool.not_true, Bool.false_eq_true, if_false, if_true, Int.toNat_natCast]
    rw [iputNum x (by omega) _ (by simp)]
    simp only [Option.bind_some, List.nil_append]
    rw [iputNum y (by omega) _ (by omega)]
    simp only [Option.bind_some]
    rw [iputNum z (by omega) _ (by simp; omega)]
    simp only [Option.bind_some]
    have hl : (put x ++ put y ++ put z).length ≤ 8 := by simp; omega
    have hrep : f_strings_Repeat ((⟨#[0]⟩ : ByteArray), IntKind.i64.wrap (64 - ((put x ++ put y ++ put z).length : Int)), ()) = some (strOf (List.replicate (64 - (put x ++ put y ++ put z).length) 0), ()) := by
      rw [w64 (by omega) (by omega), strOf_zeros]
      show (if (decide (0 ≤ (64 : Int) - ((put x ++ put y ++ put z).length : Int)) && (decide ((64 : Int) - ((put x ++ put y ++ put z).length : Int) ≤ 2147483648) && decide ((⟨#[0]⟩ : ByteArray).size ≤ 65536))) = true then some ((⟨(repL (⟨#[0]⟩ : ByteArray).data.toList ((64 : Int) - ((put x ++ put y ++ put z).length : Int)).toNat).toArray⟩ : ByteArray), ()) else none) = _
      have hs : (⟨#[0]⟩ : ByteArray).size = 1 := rfl
      rw [if_pos (by rw [hs]; simp only [Bool.and_eq_true, decide_eq_true_eq]; omega), show ((64 : Int) - ((put x ++ put y ++ put z).length : Int)).toNat = 64 - (put x ++ put y ++ put z).length by omega]
    rw [hrep]
    simp only [Option.bind_some]
    rw [if_pos (by rw [strOf_size, strOf_size, List.length_replicate]; simp; omega), ← strOf_append]
    rfl
theorem headP_ok {a b c : Int} (h : (headP a b c).2 = true) : headOk a b c = true := by
  unfold headP at h
  cases hh : headOk a b c with
  | true => rfl
  | false => rw [hh] at h; simp at h
end Go.Proofs.Fx

/- The plain law: heads read. -/
set_option linter.unusedVariables false
set_option linter.unusedSimpArgs false
namespace Go.Proofs.Fx
open Go Go.Sx

theorem bytesI_len (s : ByteArray) : (bytesI s).length = s.size := by
  simp only [bytesI, List.length_map, Array.length_toList]; rfl
theorem bts_of (s : ByteArray) (h : s.size ≤ 1073741824) : Bts (bytesI s) := by
  refine ⟨by rw [bytesI_len]; exact h, fun b hb => ?_⟩
  simp only [bytesI, List.mem_map] at hb
  obtain ⟨u, _, rfl⟩ := hb
  have := u.toNat_lt
  omega

/-- A head, read: the whole of what stands there. -/
def headR (s : ByteArray) : Int × Int × Int × Bool :=
  let d := bytesI s
  let t1 := gn d 0
  let t2 := gn d t1.2.1
  let t3 := gn d t2.2.1
  if (t1.2.2 && (t2.2.2 && (t3.2.2 && ((headP t1.1 t2.1 t3.1).2 && strEq (headP t1.1 t2.1 t3.1).1 s)))) = true then (t1.1, t2.1, t3.1, true) else (0, 0, 0, false)

theorem sHeadRead (s : ByteArray) (h : s.size ≤ 1073741824) : f_spec_HeadRead (s, ()) = some ((headR s).1, (headR s).2.1, (headR s).2.2.1, (headR s).2.2.2, ()) := by
  have hm : most = 4294967296 := rfl
  have hd := bts_of s h
  rw [f_spec_HeadRead, if_pos (by simp; omega), gn_spec hd]
  simp only [Option.bind_eq_bind, Option.bind_some, gn_spec hd, sHeadPack]
  unfold headR
  cases h1 : (gn (bytesI s) 0).2.2
  · simp [h1]
  · simp only [Bool.not_true, Bool.false_eq_true, if_false, Bool.true_and]
    cases h2 : (gn (bytesI s) (gn (bytesI s) 0).2.1).2.2
    · simp [h2]
    · simp only [Bool.not_true, Bool.false_eq_true, if_false, Bool.true_and]
      cases h3 : (gn (bytesI s) (gn (bytesI s) (gn (bytesI s) 0).2.1).2.1).2.2
      · simp [h3]
      · simp only [Bool.not_true, Bool.false_eq_true, if_false, Bool.true_and]
        cases h4 : (headP (gn (bytesI s) 0).1 (gn (bytesI s) (gn (bytesI s) 0).2.1).1 (gn (bytesI s) (gn (bytesI s) (gn (bytesI s) 0).2.1).2.1).1).2
        · simp
        · simp only [Bool.not_true, Bool.false_eq_true, if_false, Bool.true_and]
          cases h5 : strEq (headP (gn (bytesI s) 0).1 (gn (bytesI s) (gn (bytesI s) 0).2.1).1 (gn (bytesI s) (gn (bytesI s) (gn (bytesI s) 0).2.1).2.1).1).1 s <;> simp [h1]

theorem getter_bad {d : List Int} (hd : Bts d) (a : Int) : f_impl_getter_num (d, a, true, ()) = some (0, a, true, ()) := by
  rw [f_impl_getter_num, gn_impl hd]; rfl
theorem getter_no {d : List Int} (hd : Bts d) {a : Int} (h : (gn d a).2.2 = false) : f_impl_getter_num (d, a, false, ()) = some (0, a, true, ()) := by
  rw [f_impl_getter_num, gn_impl hd]; simp [h]
theorem getter_ok {d : List Int} (hd : Bts d) {a : Int} (h : (gn d a).2.2 = true) : f_impl_getter_num (d, a, false, ()) = some ((gn d a).1, (gn d a).2.1, false, ()) := by
  rw [f_impl_getter_num, gn_impl hd]; simp [h]

theorem iHeadRead (s : ByteArray) (h : s.size ≤ 1073741824) : f_impl_HeadRead (s, ()) = some ((headR s).1, (headR s).2.1, (headR s).2.2.1, (headR s).2.2.2, ()) := by
  have hm : most = 4294967296 := rfl
  have hd := bts_of s h
  rw [f_impl_HeadRead, if_pos (by simp; omega)]
  unfold headR
  cases h1 : (gn (bytesI s) 0).2.2
  · rw [getter_no hd h1]
    simp [getter_bad hd, iHeadPack, h1]
  · rw [getter_ok hd h1]
    simp only [Option.bind_eq_bind, Option.bind_some, Bool.true_and]
    cases h2 : (gn (bytesI s) (gn (bytesI s) 0).2.1).2.2
    · rw [getter_no hd h2]
      simp [getter_bad hd, iHeadPack, h2]
    · rw [getter_ok hd h2]
      simp only [Option.bind_eq_bind, Option.bind_some, Bool.true_and]
      cases h3 : (gn (bytesI s) (gn (bytesI s) (gn (bytesI s) 0).2.1).2.1).2.2
      · rw [getter_no hd h3]
        simp [iHeadPack, h3]
      · rw [getter_ok hd h3]
        simp only [Option.bind_some, Bool.true_and, iHeadPack, Bool.false_eq_true, if_false]
        cases h4 : (headP (gn (bytesI s) 0).1 (gn (bytesI s) (gn (bytesI s) 0).2.1).1 (gn (bytesI s) (gn (bytesI s) (gn (bytesI s) 0).2.1).2.1).1).2
        · simp
        · simp only [Bool.not_true, Bool.false_eq_true, if_false, Bool.true_and]
          cases h5 : strEq (headP (gn (bytesI s) 0).1 (gn (bytesI s) (gn (bytesI s) 0).2.1).1 (gn (bytesI s) (gn (bytesI s) (gn (bytesI s) 0).2.1).2.1).1).1 s <;> simp [h1]

theorem headR_cases (s : ByteArray) : ((headR s).2.2.2 = true ∧ headOk (headR s).1 (headR s).2.1 (headR s).2.2.1 = true) ∨ headR s = (0, 0, 0, false) := by
  unfold headR
  simp only
  split
  · rename_i hc
    simp only [Bool.and_eq_true] at hc
    exact .inl ⟨rfl, headP_ok hc.2.2.2.1⟩
  · exact .inr rfl
theorem headOk_pos {a b c : Int} (h : headOk a b c = true) : 1 ≤ a := by
  obtain ⟨x, y, z, rfl, rfl, rfl, h1, _⟩ := headOk_nat h
  omega

/-- The head that counts. -/
def headNow (l : List ByteArray) (p : List (Int × ByteArray)) : Int × Int × Int :=
  if diskOk l p = true then
    (if (headR (sect l p 1)).1 > (headR (sect l p 0)).1 then ((headR (sect l p 1)).1, (headR (sect l p 1)).2.1, (headR (sect l p 1)).2.2.1) else ((headR (sect l p 0)).1, (headR (sect l p 0)).2.1, (headR (sect l p 0)).2.2.1))
  else (0, 0, 0)

theorem diskOk_len {l : List ByteArray} {p : List (Int × ByteArray)} (h : diskOk l p = true) : l.length = 130 := by
  simp only [diskOk, Bool.and_eq_true, decide_eq_true_eq] at h; exact h.1

theorem sHeadNow (l : List ByteArray) (p : List (Int × ByteArray)) (hl : l.length ≤ 1048576) (hp : p.length ≤ 1048576) : f_spec_HeadNow (l, p, ()) = some ((headNow l p).1, (headNow l p).2.1, (headNow l p).2.2, ()) := by
  rw [f_spec_HeadNow, sDiskOk l p hl hp]
  simp only [Option.bind_eq_bind, Option.bind_some]
  unfold headNow
  cases h : diskOk l p with
  | false => simp
  | true =>
    have h130 := diskOk_len h
    have s0 := sect_size l p h 0 (by omega)
    have s1 := sect_size l p h 1 (by omega)
    have e0 : f_spec_l15Of (0, l, p, ()) = some (sect l p 0, ()) := l15Of l p hp 0 (by omega)
    have e1 : f_spec_l15Of (1, l, p, ()) = some (sect l p 1, ()) := l15Of l p hp 1 (by omega)
    simp only [Bool.not_true, Bool.false_eq_true, if_false, if_true, e0, e1, Option.bind_some, sHeadRead _ (show (sect l p 0).size ≤ 1073741824 by omega), sHeadRead _ (show (sect l p 1).size ≤ 1073741824 by omega)]
    by_cases hc : (headR (sect l p 1)).1 > (headR (sect l p 0)).1
    · rw [if_pos (by simpa using hc), if_pos hc]
    · rw [if_neg (by simpa using hc), if_neg hc]

theorem iHeadNow (l : List ByteArray) (p : List (Int × ByteArray)) (hl : l.length ≤ 1048576) (hp : p.length ≤ 1048576) : f_impl_HeadNow (l, p, ()) = some ((headNow l p).1, (headNow l p).2.1, (headNow l p).2.2, ()) := by
  rw [f_impl_HeadNow, iDiskOk l p hl hp]
  simp only [Option.bind_eq_bind, Option.bind_some]
  unfold headNow
  cases h : diskOk l p with
  | false => simp
  | true =>
    have h130 := diskOk_len h
    have s0 := sect_size l p h 0 (by omega)
    have s1 := sect_size l p h 1 (by omega)
    have e0 : f_impl_Disk_sector (0, l, p, ()) = some (sect l p 0, ()) := iSector l p hp 0 (by omega)
    have e1 : f_impl_Disk_sector (1, l, p, ()) = some (sect l p 1, ()) := iSector l p hp 1 (by omega)
    have r0 := iHeadRead _ (show (sect l p 0).size ≤ 1073741824 by omega)
    have r1 := iHeadRead _ (show (sect l p 1).size ≤ 1073741824 by omega)
    have w1 : IntKind.i64.wrap (0 + 1) = 1 := by decide
    have w2 : IntKind.i64.wrap (1 + 1) = 2 := by decide
    have fin : ∀ a b c x y z : Int, f_impl_HeadNow_l0 (2, l, p, a, b, c, x, y, z, ()) = some (x, y, z, ()) := fun a b c x y z => by
      rw [f_impl_HeadNow_l0]; rfl
    have step : ∀ a b c x y z : Int, f_impl_HeadNow_l0 (1, l, p, a, b, c, x, y, z, ()) = (if (headR (sect l p 1)).2.2.2 = true ∧ (headR (sect l p 1)).1 > x then some ((headR (sect l p 1)).1, (headR (sect l p 1)).2.1, (headR (sect l p 1)).2.2.1, ()) else some (x, y, z, ())) := fun a b c x y z => by
      rw [f_impl_HeadNow_l0, if_pos (by decide), e1]
      simp only [Option.bind_eq_bind, Option.bind_some, r1, w2, fin]
      cases (headR (sect l p 1)).2.2.2 with
      | false => simp
      | true =>
        by_cases hc : (headR (sect l p 1)).1 > x
        · simp [hc]
        · simp [hc]
    simp only [Bool.not_true, Bool.false_eq_true, if_false, if_true]
    rw [f_impl_HeadNow_l0, if_pos (by decide), e0]
    simp only [Option.bind_eq_bind, Option.bind_some, r0, w1, step]
    rcases headR_cases (sect l p 0) with ⟨g1, g2⟩ | g
    · have p0 := headOk_pos g2
      rw [g1, if_pos rfl, if_pos (by simp; omega)]
      rcases headR_cases (sect l p 1) with ⟨k1, k2⟩ | k
      · rw [k1]
        by_cases hc : (headR (sect l p 1)).1 > (headR (sect l p 0)).1
        · rw [if_pos ⟨rfl, hc⟩, if_pos hc]
        · rw [if_neg (fun h => hc h.2), if_neg hc]
      · rw [k]
        have hc : ¬ ((0 : Int) > (headR (sect l p 0)).1) := by omega
        rw [if_neg (fun h => hc h.2), if_neg hc]
    · rw [g]
      simp only [Bool.false_eq_true, if_false]
      rcases headR_cases (sect l p 1) with ⟨k1, k2⟩ | k
      · have p1 := headOk_pos k2
        rw [k1, if_pos ⟨rfl, by omega⟩, if_pos (by omega)]
      · rw [k]; simp
end Go.Proofs.Fx

/- The plain law: areas read. -/
set_option linter.unusedVariables false
set_option linter.unusedSimpArgs false
namespace Go.Proofs.Fx
open Go Go.Sx

/-- The bytes of an area, from a place on. -/
def areaB (l : List ByteArray) (p : List (Int × ByteArray)) (a off n : Nat) : List Int := (List.range n).map fun i => bt (sect l p (2 + 64 * a + (off + i) / 64)) ((off + i) % 64)
theorem areaB_len (l : List ByteArray) (p : List (Int × ByteArray)) (a off n : Nat) : (areaB l p a off n).length = n := by simp [areaB]
theorem areaB_add (l : List ByteArray) (p : List (Int × ByteArray)) (a off m k : Nat) : areaB l p a off (m + k) = areaB l p a off m ++ areaB l p a (off + m) k := by
  unfold areaB
  rw [List.range_add, List.map_append, List.map_map]
  congr 1
  apply List.map_congr_left
  intro i _
  simp only [Function.comp_apply, Nat.add_assoc]
theorem bt_byte (s : ByteArray) (i : Nat) : 0 ≤ bt s i ∧ bt s i ≤ 255 := by
  unfold bt
  have := (s.data.toList.getD i 0).toNat_lt
  omega
theorem areaB_bts (l : List ByteArray) (p : List (Int × ByteArray)) (a off n : Nat) (h : n ≤ 1073741824) : Bts (areaB l p a off n) := by
  refine ⟨by rw [areaB_len]; exact h, fun b hb => ?_⟩
  simp only [areaB, List.mem_map] at hb
  obtain ⟨i, _, rfl⟩ := hb
  exact bt_byte _ _

theorem bytes_extract (s : ByteArray) (t m : Nat) (h : t + m ≤ s.size) : bytesI (s.extract t (t + m)) = (List.range m).map fun i => bt s (t + i) := by
  have hs : s.data.toList.length = s.size := by rw [Array.length_toList]; rfl
  apply List.ext_getElem?
  intro i
  unfold bytesI bt
  rw [List.getElem?_map, List.getElem?_map]
  have e : (s.extract t (t + m)).data.toList = (s.data.toList.drop t).take m := by
    rw [ByteArray.data_extract, Array.toList_extract]
    simp [List.extract_eq_take_drop]
  rw [e, List.getElem?_take]
  by_cases hi : i < m
  · rw [if_pos hi, List.getElem?_drop, List.getElem?_range hi]
    simp only [Option.map_some, List.getD_eq_getElem?_getD]
    rw [List.getElem?_eq_getElem (by omega)]; rfl
  · rw [if_neg hi, List.getElem?_eq_none (by simp; omega)]; rfl

theorem sl16Get_l0 (l : List ByteArray) (p : List (Int × ByteArray)) (hd : diskOk l p = true) (hp : p.length ≤ 1048576) (a off n : Nat) (ha : a ≤ 1) (hn : off + n ≤ 4096) : ∀ (k i : Nat), i + k = n → ∀ acc : List Int, acc.length = i →
    f_spec_l16Get_l0 ((a : Int), (off : Int), (n : Int), (i : Int), l, p, acc, ()) = some (acc ++ areaB l p a (off + i) k, ()) := by
  have hm : most = 4294967296 := rfl
  have h130 := diskOk_len hd
  intro k
  induction k with
  | zero =>
    intro i hi acc hl
    rw [f_spec_l16Get_l0, if_neg (by simp; omega)]
    simp [areaB]
  | succ k ih =>
    intro i hi acc hl
    have e1 : IntKind.i64.wrap (64 * (a : Int)) = ((64 * a : Nat) : Int) := by rw [w64 (by omega) (by omega)]; omega
    have e2 : IntKind.i64.wrap (2 + ((64 * a : Nat) : Int)) = ((2 + 64 * a : Nat) : Int) := by rw [w64 (by omega) (by omega)]; omega
    have e3 : IntKind.i64.wrap ((off : Int) + (i : Int)) = ((off + i : Nat) : Int) := by rw [w64 (by omega) (by omega)]; omega
    have e4 : IntKind.i64.wrap (Int.tdiv ((off + i : Nat) : Int) 64) = (((off + i) / 64 : Nat) : Int) := by
      rw [Int.tdiv_eq_ediv_of_nonneg (by omega), w64 (by omega) (by omega)]; omega
    have e5 : IntKind.i64.wrap (((2 + 64 * a : Nat) : Int) + (((off + i) / 64 : Nat) : Int)) = ((2 + 64 * a + (off + i) / 64 : Nat) : Int) := by rw [w64 (by omega) (by omega)]; omega
    have e6 : Int.tmod ((off + i : Nat) : Int) 64 = (((off + i) % 64 : Nat) : Int) := by rw [Int.tmod_eq_emod_of_nonneg (by omega)]; omega
    have hs := sect_size l p hd (2 + 64 * a + (off + i) / 64) (by omega)
    rw [f_spec_l16Get_l0, if_pos (by simp; omega), e1, e2, e3, e4, e5, e6, l15Of l p hp _ (by omega)]
    simp only [Option.bind_eq_bind, Option.bind_some]
    rw [within_nat (by omega), if_pos rfl, if_pos (by simp; omega), w64s (by omega), Int.toNat_natCast, ih (i + 1) (by omega) _ (by simp; omega), List.append_assoc]
    congr 3
    rw [show k + 1 = 1 + k by omega, areaB_add, show off + (i + 1) = off + i + 1 by omega]
    rfl

theorem sl16Get (l : List ByteArray) (p : List (Int × ByteArray)) (hd : diskOk l p = true) (hp : p.length ≤ 1048576) (a off n : Nat) (ha : a ≤ 1) (hn : off + n ≤ 4096) :
    f_spec_l16Get ((a : Int), (off : Int), (n : Int), l, p, ()) = some (areaB l p a off n, ()) := by
  rw [f_spec_l16Get]
  exact sl16Get_l0 l p hd hp a off n ha hn n 0 (by omega) [] rfl

theorem iarea_l0 (l : List ByteArray) (p : List (Int × ByteArray)) (hd : diskOk l p = true) (hp : p.length ≤ 1048576) (a : Nat) (ha : a ≤ 1) : ∀ (f n off : Nat) (acc : List Int), n ≤ f → off + n ≤ 4096 → acc.length ≤ 4294900000 - n →
    f_impl_Disk_area_l0 ((a : Int), (off : Int), (n : Int), l, p, acc, ()) = some (acc ++ areaB l p a off n, ()) := by
  have hm : most = 4294967296 := rfl
  have h130 := diskOk_len hd
  intro f
  induction f with
  | zero =>
    intro n off acc hn ho hl
    have : n = 0 := by omega
    subst this
    rw [f_impl_Disk_area_l0, if_neg (by simp)]
    simp [areaB]
  | succ f ih =>
    intro n off acc hn ho hl
    by_cases hz : n = 0
    · subst hz
      rw [f_impl_Disk_area_l0, if_neg (by simp)]
      simp [areaB]
    · have e0 : f_impl_first ((a : Int), ()) = some (((2 + 64 * a : Nat) : Int), ()) := by
        rw [f_impl_first]
        have e1 : IntKind.i64.wrap (64 * (a : Int)) = ((64 * a : Nat) : Int) := by rw [w64 (by omega) (by omega)]; omega
        have e2 : IntKind.i64.wrap (2 + ((64 * a : Nat) : Int)) = ((2 + 64 * a : Nat) : Int) := by rw [w64 (by omega) (by omega)]; omega
        rw [e1, e2]
      have e4 : IntKind.i64.wrap (Int.tdiv (off : Int) 64) = ((off / 64 : Nat) : Int) := by
        rw [Int.tdiv_eq_ediv_of_nonneg (by omega), w64 (by omega) (by omega)]; omega
      have e5 : IntKind.i64.wrap (((2 + 64 * a : Nat) : Int) + ((off / 64 : Nat) : Int)) = ((2 + 64 * a + off / 64 : Nat) : Int) := by rw [w64 (by omega) (by omega)]; omega
      have e6 : Int.tmod (off : Int) 64 = ((off % 64 : Nat) : Int) := by rw [Int.tmod_eq_emod_of_nonneg (by omega)]; omega
      obtain ⟨m, hmm⟩ : ∃ m, m = min (64 - off % 64) n := ⟨_, rfl⟩
      have e7 : (if IntKind.i64.wrap (64 - ((off % 64 : Nat) : Int)) < (n : Int) then IntKind.i64.wrap (64 - ((off % 64 : Nat) : Int)) else (n : Int)) = (m : Int) := by
        rw [w64 (by omega) (by omega)]
        split <;> omega
      have e8 : IntKind.i64.wrap (((off % 64 : Nat) : Int) + (m : Int)) = ((off % 64 + m : Nat) : Int) := by rw [w64 (by omega) (by omega)]; omega
      have e9 : IntKind.i64.wrap ((off : Int) + (m : Int)) = ((off + m : Nat) : Int) := by rw [w64 (by omega) (by omega)]; omega
      have e10 : IntKind.i64.wrap ((n : Int) - (m : Int)) = ((n - m : Nat) : Int) := by rw [w64 (by omega) (by omega)]; omega
      have hs := sect_size l p hd (2 + 64 * a + off / 64) (by omega)
      rw [f_impl_Disk_area_l0, if_pos (by simp; omega), e0]
      simp only [Option.bind_eq_bind, Option.bind_some]
      rw [e4, e5, iSector l p hp _ (by omega)]
      simp only [Option.bind_some]
      rw [e6, e7, e8, e9, e10, if_pos (by simp only [Bool.and_eq_true, decide_eq_true_eq]; omega), Int.toNat_natCast, Int.toNat_natCast, bytes_extract _ _ _ (by omega), if_pos (by simp; omega)]
      rw [ih (n - m) (off + m) _ (by omega) (by omega) (by simp; omega), List.append_assoc]
      congr 3
      rw [show areaB l p a off n = areaB l p a off (m + (n - m)) by rw [show m + (n - m) = n by omega], areaB_add]
      congr 1
      unfold areaB
      apply List.map_congr_left
      intro i hi
      rw [List.mem_range] at hi
      rw [show (off + i) / 64 = off / 64 by omega, show (off + i) % 64 = off % 64 + i by omega]

theorem iarea (l : List ByteArray) (p : List (Int × ByteArray)) (hd : diskOk l p = true) (hp : p.length ≤ 1048576) (a off n : Nat) (ha : a ≤ 1) (hn : off + n ≤ 4096) :
    f_impl_Disk_area ((a : Int), (off : Int), (n : Int), l, p, ()) = some (areaB l p a off n, ()) := by
  rw [f_impl_Disk_area]
  exact iarea_l0 l p hd hp a ha n n off [] (Nat.le_refl _) hn (Nat.zero_le _)

theorem iAreaGet (l : List ByteArray) (p : List (Int × ByteArray)) (hd : diskOk l p = true) (hl : l.length ≤ 1048576) (hp : p.length ≤ 1048576) (a off n : Nat) (ha : a ≤ 1) (hn : off + n ≤ 4096) :
    f_impl_AreaGet ((a : Int), (off : Int), (n : Int), l, p, ()) = some (true, areaB l p a off n, ()) := by
  have hfit : f_impl_fitsArea ((a : Int), (off : Int), (n : Int), ()) = some (true, ()) := by
    rw [f_impl_fitsArea, isArea]
    simp only [Option.bind_eq_bind, Option.bind_some, inRange]
    have h1 : inR (a : Int) 0 1 = true := by simp [inR]; omega
    have h2 : inR (off : Int) 0 4096 = true := by simp [inR]; omega
    have h3 : inR (n : Int) 0 (IntKind.i64.wrap (4096 - (off : Int))) = true := by
      rw [w64 (by omega) (by omega)]; simp [inR]; omega
    simp [h1, h2, h3]
  rw [f_impl_AreaGet, hfit, iDiskOk l p hl hp, hd]
  simp [iarea l p hd hp a off n ha hn]
end Go.Proofs.Fx

/- The plain law: texts, addresses, records. -/
set_option linter.unusedVariables false
set_option linter.unusedSimpArgs false
namespace Go.Proofs.Fx
open Go Go.Sx

/-- A text that stands at a place. -/
def gt (d : List Int) (a : Int) : ByteArray × Int × Bool :=
  if ((gn d a).2.2 && decide ((gn d a).1 ≤ (d.length : Int) - (gn d a).2.1)) = true then (strOf ((d.drop (gn d a).2.1.toNat).take (gn d a).1.toNat), (gn d a).2.1 + (gn d a).1, true) else (⟨#[]⟩, 0, false)

theorem gt_both {d : List Int} (hd : Bts d) (a : Int) : f_spec_GetText (a, d, ()) = some ((gt d a).1, (gt d a).2.1, (gt d a).2.2, ()) ∧ f_impl_GetText (a, d, ()) = some ((gt d a).1, (gt d a).2.1, (gt d a).2.2, ()) := by
  have hl := hd.len
  rw [f_spec_GetText, f_impl_GetText, gn_spec hd, gn_impl hd]
  simp only [Option.bind_eq_bind, Option.bind_some]
  unfold gt
  cases h : (gn d a).2.2 with
  | false => simp
  | true =>
    obtain ⟨g1, g2, g3, g4, g5⟩ := gn_ok hd h
    simp only [Bool.not_true, Bool.false_eq_true, if_false, Bool.true_and, decide_eq_true_eq]
    rw [w64 (by omega) (by omega)]
    by_cases hc : (gn d a).1 ≤ (d.length : Int) - (gn d a).2.1
    · have hw : IntKind.i64.wrap ((gn d a).2.1 + (gn d a).1) = (gn d a).2.1 + (gn d a).1 := w64 (by omega) (by omega)
      have hnc : ¬ ((gn d a).1 > (d.length : Int) - (gn d a).2.1) := by omega
      rw [if_neg hnc, hw, if_pos (by simp only [Bool.and_eq_true, decide_eq_true_eq]; omega), if_pos hc, show ((gn d a).2.1 + (gn d a).1).toNat - (gn d a).2.1.toNat = (gn d a).1.toNat by omega]
      exact ⟨rfl, rfl⟩
    · have hnc : (gn d a).1 > (d.length : Int) - (gn d a).2.1 := by omega
      rw [if_pos hnc, if_neg hc]
      exact ⟨rfl, rfl⟩
theorem gt_ok {d : List Int} (hd : Bts d) {a : Int} (h : (gt d a).2.2 = true) : 0 ≤ a ∧ a < (gt d a).2.1 ∧ (gt d a).2.1 ≤ d.length ∧ (gt d a).1.size ≤ d.length := by
  unfold gt at h ⊢
  split at h
  · rename_i hc
    rw [if_pos hc]
    simp only [Bool.and_eq_true, decide_eq_true_eq] at hc
    obtain ⟨g1, g2, g3, g4, g5⟩ := gn_ok hd hc.1
    refine ⟨g1, by simp only; omega, by simp only; omega, ?_⟩
    simp only [strOf_size]
    rw [List.length_take, List.length_drop]; omega
  · simp at h
theorem gt_no {d : List Int} {a : Int} (h : (gt d a).2.2 = false) : gt d a = (⟨#[]⟩, 0, false) := by
  unfold gt at h ⊢
  split at h
  · simp at h
  · rename_i hc
    rw [if_neg hc]

theorem getterT_bad {d : List Int} (hd : Bts d) (a : Int) : f_impl_getter_text (d, a, true, ()) = some (⟨#[]⟩, a, true, ()) := by
  rw [f_impl_getter_text, (gt_both hd a).2]; rfl
theorem getterT_no {d : List Int} (hd : Bts d) {a : Int} (h : (gt d a).2.2 = false) : f_impl_getter_text (d, a, false, ()) = some (⟨#[]⟩, a, true, ()) := by
  rw [f_impl_getter_text, (gt_both hd a).2]; simp [h]
theorem getterT_ok {d : List Int} (hd : Bts d) {a : Int} (h : (gt d a).2.2 = true) : f_impl_getter_text (d, a, false, ()) = some ((gt d a).1, (gt d a).2.1, false, ()) := by
  rw [f_impl_getter_text, (gt_both hd a).2]; simp [h]

/-! addresses -/
def chOk (b : Int) : Bool := decide (33 ≤ b) && decide (b ≤ 126)
def urlOk (s : ByteArray) : Bool := inR (s.size : Int) 1 60 && (bytesI s).all chOk
theorem bt_get (s : ByteArray) (i : Nat) (h : i < s.size) : bt s i = (bytesI s)[i]'(by rw [bytesI_len]; exact h) := by
  unfold bt bytesI
  have hs : s.data.toList.length = s.size := by rw [Array.length_toList]; rfl
  rw [List.getElem_map, List.getD_eq_getElem?_getD, List.getElem?_eq_getElem (by omega)]; rfl
theorem sUrlOk_l0 (s : ByteArray) (hs : s.size ≤ 1073741824) : ∀ (k i : Nat), i + k = s.size → f_spec_UrlOk_l0 (s, (i : Int), ()) = some (((bytesI s).drop i).all chOk, ()) := by
  intro k
  induction k with
  | zero =>
    intro i hi
    rw [f_spec_UrlOk_l0, if_neg (by simp; omega), List.drop_eq_nil_of_le (by rw [bytesI_len]; omega)]; rfl
  | succ k ih =>
    intro i hi
    have hlt : i < s.size := by omega
    have hlt2 : i < (bytesI s).length := by rw [bytesI_len]; exact hlt
    have hb := bt_get s i hlt
    rw [f_spec_UrlOk_l0, lt_nat hlt, within_nat hlt, Int.toNat_natCast, w64s (by omega), all_drop _ _ _ hlt2, ← hb]
    simp only [if_true]
    by_cases h1 : bt s i < 33
    · have c : ¬ (33 ≤ bt s i) := by omega
      rw [if_pos (by simpa using h1)]; simp [chOk, c]
    · rw [if_neg (by simpa using h1)]
      by_cases h2 : bt s i > 126
      · have c : ¬ (bt s i ≤ 126) := by omega
        rw [if_pos (by simpa using h2)]; simp [chOk, c]
      · have c1 : 33 ≤ bt s i := by omega
        have c2 : bt s i ≤ 126 := by omega
        rw [if_neg (by simpa using h2), ih (i + 1) (by omega)]; simp [chOk, c1, c2]
theorem sUrlOk (s : ByteArray) (hs : s.size ≤ 1073741824) : f_spec_UrlOk (s, ()) = some (urlOk s, ()) := by
  rw [f_spec_UrlOk, l1In]
  simp only [Option.bind_eq_bind, Option.bind_some]
  unfold urlOk
  cases h : inR (s.size : Int) 1 60 with
  | false => simp
  | true =>
    have := sUrlOk_l0 s hs s.size 0 (by omega)
    simp only [List.drop_zero] at this
    simp only [Bool.not_true, Bool.false_eq_true, if_false, Bool.true_and]
    exact this
theorem iUrlOk_l0 (s : ByteArray) (hs : s.size ≤ 1073741824) : ∀ (k i : Nat), i + k = s.size → f_impl_UrlOk_l0 (s, (i : Int), ()) = some (inR (s.size : Int) 1 60 && ((bytesI s).drop i).all chOk, ()) := by
  intro k
  induction k with
  | zero =>
    intro i hi
    rw [f_impl_UrlOk_l0, if_neg (by simp; omega), inRange, List.drop_eq_nil_of_le (by rw [bytesI_len]; omega)]
    simp
  | succ k ih =>
    intro i hi
    have hlt : i < s.size := by omega
    have hlt2 : i < (bytesI s).length := by rw [bytesI_len]; exact hlt
    have hb := bt_get s i hlt
    rw [f_impl_UrlOk_l0, lt_nat hlt, within_nat hlt, Int.toNat_natCast, w64s (by omega), all_drop _ _ _ hlt2, ← hb]
    simp only [if_true]
    by_cases h1 : bt s i < 33
    · have c : ¬ (33 ≤ bt s i) := by omega
      rw [if_pos (by simpa using h1)]; simp [chOk, c]
    · rw [if_neg (by simpa using h1)]
      by_cases h2 : bt s i > 126
      · have c : ¬ (bt s i ≤ 126) := by omega
        rw [if_pos (by simpa using h2)]; simp [chOk, c]
      · have c1 : 33 ≤ bt s i := by omega
        have c2 : bt s i ≤ 126 := by omega
        rw [if_neg (by simpa using h2), ih (i + 1) (by omega)]; simp [chOk, c1, c2]
theorem iUrlOk (s : ByteArray) (hs : s.size ≤ 1073741824) : f_impl_UrlOk (s, ()) = some (urlOk s, ()) := by
  rw [f_impl_UrlOk]
  have := iUrlOk_l0 s hs s.size 0 (by omega)
  unfold urlOk
  simpa using this

/-! records -/
def putT (s : ByteArray) : List Int := put s.size ++ bytesI s
theorem putT_len (s : ByteArray) (hs : s.size ≤ 1073741824) : (putT s).length ≤ s.size + 5 := by
  have := put_len 5 s.size (by omega) (by omega)
  simp [putT, bytesI_len]; omega
theorem sPutText (s : ByteArray) (hs : s.size ≤ 1073741824) : f_spec_PutText (s, ()) = some (putT s, ()) := by
  have hm : most = 4294967296 := rfl
  have := put_len 5 s.size (by omega) (by omega)
  rw [f_spec_PutText, sPutNum s.size (by omega)]
  simp only [Option.bind_eq_bind, Option.bind_some]
  rw [if_pos (by simp; omega), if_pos (by simp [bytesI_len]; omega)]; rfl
theorem iputText (s : ByteArray) (hs : s.size ≤ 1073741824) (acc : List Int) (ha : acc.length ≤ 2147483648) : f_impl_putText (s, acc, ()) = some (acc ++ putT s, ()) := by
  have hm : most = 4294967296 := rfl
  have := put_len 5 s.size (by omega) (by omega)
  rw [f_impl_putText, iputNum s.size (by omega) acc (by omega)]
  simp only [Option.bind_eq_bind, Option.bind_some]
  rw [if_pos (by simp [bytesI_len]; omega), List.append_assoc]; rfl

/-- A record's bytes. -/
def recP (k : Int) (u b : ByteArray) : Bool × List Int :=
  if (inR k 1 2 && (urlOk u && !(k == 2 && !strEq b ⟨#[]⟩))) = true then (true, put k.toNat ++ putT u ++ (if k = 1 then putT b else [])) else (false, [])

theorem sRecordPack (k : Int) (u b : ByteArray) (hu : u.size ≤ 1073741824) (hb : b.size ≤ 1073741824) : f_spec_RecordPack (k, u, b, ()) = some ((recP k u b).1, (recP k u b).2, ()) := by
  have hm : most = 4294967296 := rfl
  have l1 := putT_len u hu
  have l2 := putT_len b hb
  rw [f_spec_RecordPack, sUrlOk u hu]
  simp only [Option.bind_eq_bind, Option.bind_some]
  unfold recP
  by_cases h1 : k = 1
  · subst h1
    have p1 : f_spec_PutNum (1, ()) = some (put 1, ()) := sPutNum 1 (by omega)
    have q1 := put_len 1 1 (by omega) (by omega)
    cases h : urlOk u with
    | false => simp
    | true =>
      simp [inR, p1, sPutText u hu, sPutText b hb]
      omega
  · by_cases h2 : k = 2
    · subst h2
      have p2 : f_spec_PutNum (2, ()) = some (put 2, ()) := sPutNum 2 (by omega)
      have q2 := put_len 1 2 (by omega) (by omega)
      cases h : urlOk u with
      | false => simp
      | true =>
        cases hs : strEq b ⟨#[]⟩ with
        | false => simp
        | true =>
          simp [inR, p2, sPutText u hu]
          omega
    · have e1 : (k != 1) = true := by simpa using h1
      have e2 : (k != 2) = true := by simpa using h2
      have e3 : inR k 1 2 = false := by
        have : ¬ (1 ≤ k ∧ k ≤ 2) := by omega
        simpa [inR] using this
      simp [e1, e2, e3]

theorem iRecordPack (k : Int) (u b : ByteArray) (hu : u.size ≤ 1073741824) (hb : b.size ≤ 1073741824) : f_impl_RecordPack (k, u, b, ()) = some ((recP k u b).1, (recP k u b).2, ()) := by
  have l1 := putT_len u hu
  have l2 := putT_len b hb
  rw [f_impl_RecordPack, inRange]
  simp only [Option.bind_eq_bind, Option.bind_some, iUrlOk u hu]
  unfold recP
  cases h : inR k 1 2 with
  | false => simp
  | true =>
    cases h3 : urlOk u with
    | false => simp
    | true =>
      have hk : k = 1 ∨ k = 2 := by
        simp only [inR, Bool.and_eq_true, decide_eq_true_eq] at h; omega
      rcases hk with rfl | rfl
      · have p1 : f_impl_putNum (1, [], ()) = some (put 1, ()) := iputNum 1 (by omega) [] (by simp)
        have q1 := put_len 1 1 (by omega) (by omega)
        have t1 := iputText u hu (put 1) (by omega)
        have t2 := iputText b hb (put 1 ++ putT u) (by simp; omega)
        simp [p1, t1]
        simp only [List.append_assoc] at t2
        rw [t2]; rfl
      · have p2 : f_impl_putNum (2, [], ()) = some (put 2, ()) := iputNum 2 (by omega) [] (by simp)
        have q2 := put_len 1 2 (by omega) (by omega)
        have t1 := iputText u hu (put 2) (by omega)
        cases hs : strEq b ⟨#[]⟩ with
        | false => simp
        | true => simp [p2, t1]
end Go.Proofs.Fx

/- The plain law: records read. -/
set_option linter.unusedVariables false
set_option linter.unusedSimpArgs false
namespace Go.Proofs.Fx
open Go Go.Sx

def recNo : Int × ByteArray × ByteArray × Int × Bool := (0, ⟨#[]⟩, ⟨#[]⟩, 0, false)
/-- A record that stands at a place. -/
def recR (d : List Int) (a : Int) : Int × ByteArray × ByteArray × Int × Bool :=
  let t1 := gn d a
  let t2 := gt d t1.2.1
  let t3 := gt d t2.2.1
  if t1.2.2 = true then if t2.2.2 = true then
    if t1.1 = 1 then (if t3.2.2 = true then (if (recP t1.1 t2.1 t3.1).1 = true then (t1.1, t2.1, t3.1, t3.2.1, true) else recNo) else recNo)
    else (if (recP t1.1 t2.1 ⟨#[]⟩).1 = true then (t1.1, t2.1, ⟨#[]⟩, t2.2.1, true) else recNo)
  else recNo else recNo

theorem gt_size {d : List Int} (hd : Bts d) (a : Int) : (gt d a).1.size ≤ 1073741824 := by
  have hl := hd.len
  cases h : (gt d a).2.2 with
  | true => have := (gt_ok hd h).2.2.2; omega
  | false => rw [gt_no h]; show (0 : Nat) ≤ _; omega

theorem sRecordRead {d : List Int} (hd : Bts d) (a : Int) : f_spec_RecordRead (a, d, ()) = some ((recR d a).1, (recR d a).2.1, (recR d a).2.2.1, (recR d a).2.2.2.1, (recR d a).2.2.2.2, ()) := by
  have e0 : (⟨#[]⟩ : ByteArray).size ≤ 1073741824 := by show (0 : Nat) ≤ _; omega
  rw [f_spec_RecordRead, gn_spec hd]
  simp only [Option.bind_eq_bind, Option.bind_some, (gt_both hd _).1]
  unfold recR
  simp only
  cases h1 : (gn d a).2.2 with
  | false => simp [recNo]
  | true =>
    simp only [Bool.not_true, Bool.false_eq_true, if_false, if_true]
    cases h2 : (gt d (gn d a).2.1).2.2 with
    | false => simp [recNo]
    | true =>
      simp only [Bool.not_true, Bool.false_eq_true, if_false, if_true]
      by_cases hk : (gn d a).1 = 1
      · rw [if_pos (by simpa using hk), if_pos hk]
        cases h3 : (gt d (gt d (gn d a).2.1).2.1).2.2 with
        | false => simp [recNo]
        | true =>
          simp only [Bool.not_true, Bool.false_eq_true, if_false, if_true, sRecordPack _ _ _ (gt_size hd _) (gt_size hd _), Option.bind_some]
          cases (recP (gn d a).1 (gt d (gn d a).2.1).1 (gt d (gt d (gn d a).2.1).2.1).1).1 <;> simp [recNo]
      · rw [if_neg (by simpa using hk), if_neg hk]
        simp only [sRecordPack _ _ _ (gt_size hd _) e0, Option.bind_some]
        cases (recP (gn d a).1 (gt d (gn d a).2.1).1 ⟨#[]⟩).1 <;> simp [recNo]

theorem iRecordRead {d : List Int} (hd : Bts d) (a : Int) : f_impl_RecordRead (a, d, ()) = some ((recR d a).1, (recR d a).2.1, (recR d a).2.2.1, (recR d a).2.2.2.1, (recR d a).2.2.2.2, ()) := by
  have e0 : (⟨#[]⟩ : ByteArray).size ≤ 1073741824 := by show (0 : Nat) ≤ _; omega
  rw [f_impl_RecordRead]
  unfold recR
  simp only
  cases h1 : (gn d a).2.2 with
  | false =>
    rw [getter_no hd h1]
    simp [getterT_bad hd, iRecordPack _ _ _ e0 e0, recNo]
  | true =>
    rw [getter_ok hd h1]
    simp only [Option.bind_eq_bind, Option.bind_some, if_true]
    cases h2 : (gt d (gn d a).2.1).2.2 with
    | false =>
      rw [getterT_no hd h2]
      by_cases hk : (gn d a).1 = 1
      · simp [hk, getterT_bad hd, iRecordPack _ _ _ e0 e0, recNo]
      · have hk' : ((gn d a).1 == 1) = false := by simpa using hk
        simp [hk', iRecordPack _ _ _ e0 e0, recNo]
    | true =>
      rw [getterT_ok hd h2]
      simp only [Option.bind_some, if_true]
      by_cases hk : (gn d a).1 = 1
      · rw [if_pos (by simpa using hk), if_pos hk]
        cases h3 : (gt d (gt d (gn d a).2.1).2.1).2.2 with
        | false =>
          rw [getterT_no hd h3]
          simp [iRecordPack _ _ _ (gt_size hd _) e0, recNo]
        | true =>
          rw [getterT_ok hd h3]
          simp only [Bool.not_true, Bool.false_eq_true, if_false, if_true, iRecordPack _ _ _ (gt_size hd _) (gt_size hd _), Option.bind_some]
          cases (recP (gn d a).1 (gt d (gn d a).2.1).1 (gt d (gt d (gn d a).2.1).2.1).1).1 <;> simp [recNo]
      · rw [if_neg (by simpa using hk), if_neg hk]
        simp only [iRecordPack _ _ _ (gt_size hd _) e0, Option.bind_some, Bool.false_eq_true, if_false]
        cases (recP (gn d a).1 (gt d (gn d a).2.1).1 ⟨#[]⟩).1 <;> simp [recNo]

theorem recR_ok {d : List Int} (hd : Bts d) {a : Int} (h : (recR d a).2.2.2.2 = true) : 0 ≤ a ∧ a < (recR d a).2.2.2.1 ∧ (recR d a).2.2.2.1 ≤ d.length ∧ (recP (recR d a).1 (recR d a).2.1 (recR d a).2.2.1).1 = true ∧ (recR d a).2.1.size ≤ d.length ∧ (recR d a).2.2.1.size ≤ d.length := by
  unfold recR at h ⊢
  simp only at h ⊢
  cases h1 : (gn d a).2.2 with
  | false => rw [h1] at h; simp [recNo] at h
  | true =>
    rw [h1] at h
    simp only [if_true] at h ⊢
    cases h2 : (gt d (gn d a).2.1).2.2 with
    | false => rw [h2] at h; simp [recNo] at h
    | true =>
      rw [h2] at h
      simp only [if_true] at h ⊢
      obtain ⟨g1, g2, g3, g4, g5⟩ := gn_ok hd h1
      obtain ⟨k1, k2, k3, k4⟩ := gt_ok hd h2
      split at h
      · rename_i hk
        rw [if_pos hk]
        cases h3 : (gt d (gt d (gn d a).2.1).2.1).2.2 with
        | false => rw [h3] at h; simp [recNo] at h
        | true =>
          rw [h3] at h
          simp only [if_true] at h ⊢
          obtain ⟨m1, m2, m3, m4⟩ := gt_ok hd h3
          split at h
          · rename_i hp
            rw [if_pos hp]
            exact ⟨g1, by simp only; omega, m3, hp, k4, m4⟩
          · simp [recNo] at h
      · rename_i hk
        rw [if_neg hk]
        split at h
        · rename_i hp
          rw [if_pos hp]
          exact ⟨g1, by simp only; omega, k3, hp, k4, Nat.zero_le _⟩
        · simp [recNo] at h

abbrev Rec1 := Int × ByteArray × ByteArray
/-- The records from a place on, behind others. -/
theorem records_l0 {d : List Int} (hd : Bts d) : ∀ (f : Nat) (a : Nat) (acc : List Rec1), d.length - a ≤ f → acc.length ≤ a → a ≤ d.length → (∀ x ∈ acc, (recP x.1 x.2.1 x.2.2).1 = true ∧ x.2.1.size ≤ d.length ∧ x.2.2.size ≤ d.length) →
    ∃ ok rs, f_spec_Records_l0 ((a : Int), d, acc, ()) = some (ok, rs, ()) ∧ f_impl_Records_l0 ((a : Int), d, acc, ()) = some (ok, rs, ()) ∧ rs.length ≤ d.length ∧ ∀ x ∈ rs, (recP x.1 x.2.1 x.2.2).1 = true ∧ x.2.1.size ≤ d.length ∧ x.2.2.size ≤ d.length := by
  have hm : most = 4294967296 := rfl
  have hl := hd.len
  intro f
  induction f with
  | zero =>
    intro a acc h1 h2 h3 h4
    refine ⟨true, acc, ?_, ?_, by omega, h4⟩
    · rw [f_spec_Records_l0, if_neg (by simp; omega)]
    · rw [f_impl_Records_l0, if_neg (by simp; omega)]
  | succ f ih =>
    intro a acc h1 h2 h3 h4
    rw [f_spec_Records_l0, f_impl_Records_l0, sRecordRead hd, iRecordRead hd]
    by_cases hlt : a < d.length
    · have c1 : decide ((a : Int) < (d.length : Int)) = true := by simp; omega
      have c2 : decide (acc.length + 1 ≤ most) = true := by simp; omega
      simp only [c1, c2, if_true, Option.bind_eq_bind, Option.bind_some]
      cases h : (recR d a).2.2.2.2 with
      | false => exact ⟨false, [], rfl, rfl, by simp, by simp⟩
      | true =>
        obtain ⟨g1, g2, g3, g4, g5, g6⟩ := recR_ok hd h
        simp only [Bool.not_true, Bool.false_eq_true, if_false]
        obtain ⟨n, hn⟩ := Int.eq_ofNat_of_zero_le (show 0 ≤ (recR d a).2.2.2.1 by omega)
        rw [hn] at g2 g3 ⊢
        exact ih n _ (by omega) (by simp; omega) (by omega) (fun x hx => by
          rcases List.mem_append.1 hx with hx | hx
          · exact h4 x hx
          · simp only [List.mem_singleton] at hx
            subst hx
            exact ⟨g4, g5, g6⟩)
    · have c1 : decide ((a : Int) < (d.length : Int)) = false := by simp; omega
      simp only [c1, Bool.false_eq_true, if_false]
      exact ⟨true, acc, rfl, rfl, by omega, h4⟩

/-- The records of bytes; whether they are right. -/
def recs (d : List Int) : Bool × List Rec1 := match f_spec_Records (d, ()) with | some (ok, rs, ()) => (ok, rs) | none => (false, [])
theorem recs_both {d : List Int} (hd : Bts d) : f_spec_Records (d, ()) = some ((recs d).1, (recs d).2, ()) ∧ f_impl_Records (d, ()) = some ((recs d).1, (recs d).2, ()) ∧ (recs d).2.length ≤ d.length ∧ ∀ x ∈ (recs d).2, (recP x.1 x.2.1 x.2.2).1 = true ∧ x.2.1.size ≤ d.length ∧ x.2.2.size ≤ d.length := by
  obtain ⟨ok, rs, h1, h2, h3, h4⟩ := records_l0 hd d.length 0 [] (by omega) (by simp) (by omega) (by simp)
  have e1 : f_spec_Records (d, ()) = some (ok, rs, ()) := by rw [f_spec_Records.eq_def]; exact h1
  have e2 : f_impl_Records (d, ()) = some (ok, rs, ()) := by rw [f_impl_Records.eq_def]; exact h2
  have e3 : recs d = (ok, rs) := by unfold recs; rw [e1]
  rw [e3]
  exact ⟨e1, e2, h3, h4⟩
end Go.Proofs.Fx

/- The plain law: the index of records. -/
set_option linter.unusedVariables false
set_option linter.unusedSimpArgs false
namespace Go.Proofs.Fx
open Go Go.Sx

theorem bl_irr : ∀ x : List UInt8, Op.bytesLess x x = false
  | [] => rfl
  | a :: x => by
    have : ¬ a < a := by simp
    simp [Op.bytesLess, bl_irr x, this]
theorem u8_lt {a b : UInt8} : a < b ↔ a.toNat < b.toNat := UInt8.lt_iff_toNat_lt
theorem u8_eq {a b : UInt8} : a = b ↔ a.toNat = b.toNat := UInt8.toNat_inj.symm
theorem bl_trans : ∀ x y z : List UInt8, Op.bytesLess x y = true → Op.bytesLess y z = true → Op.bytesLess x z = true
  | x, y, [], _, h2 => by cases y <;> simp [Op.bytesLess] at h2
  | [], y, c :: z, _, _ => by simp [Op.bytesLess]
  | a :: x, [], c :: z, h1, _ => by simp [Op.bytesLess] at h1
  | a :: x, b :: y, c :: z, h1, h2 => by
    simp only [Op.bytesLess, Bool.or_eq_true, decide_eq_true_eq, Bool.and_eq_true, beq_iff_eq] at h1 h2 ⊢
    rcases h1 with h1 | ⟨rfl, h1⟩
    · rcases h2 with h2 | ⟨rfl, h2⟩
      · left; rw [u8_lt] at *; omega
      · exact .inl h1
    · rcases h2 with h2 | ⟨rfl, h2⟩
      · exact .inl h2
      · exact .inr ⟨rfl, bl_trans x y z h1 h2⟩
theorem bl_tri : ∀ x y : List UInt8, Op.bytesLess x y = false → x ≠ y → Op.bytesLess y x = true
  | [], [], _, h => absurd rfl h
  | [], b :: y, h, _ => by simp [Op.bytesLess] at h
  | a :: x, [], _, _ => by simp [Op.bytesLess]
  | a :: x, b :: y, h, hne => by
    simp only [Op.bytesLess, Bool.or_eq_false_iff, decide_eq_false_iff_not, Bool.and_eq_false_iff, beq_eq_false_iff_ne] at h
    simp only [Op.bytesLess, Bool.or_eq_true, decide_eq_true_eq, Bool.and_eq_true, beq_iff_eq]
    obtain ⟨h1, h2⟩ := h
    by_cases hab : a = b
    · subst hab
      right
      refine ⟨rfl, bl_tri x y ?_ (fun e => hne (by rw [e]))⟩
      rcases h2 with h2 | h2
      · exact absurd rfl h2
      · exact h2
    · left
      rw [u8_lt] at *
      rw [u8_eq] at hab
      omega

theorem lt_irr (x : ByteArray) : strLt x x = false := bl_irr _
theorem lt_trans {x y z : ByteArray} (h1 : strLt x y = true) (h2 : strLt y z = true) : strLt x z = true := bl_trans _ _ _ h1 h2
theorem lt_tri {x y : ByteArray} (h : strLt x y = false) (hne : x ≠ y) : strLt y x = true := bl_tri _ _ h fun e => hne (by
  obtain ⟨x⟩ := x
  obtain ⟨y⟩ := y
  congr 1
  exact Array.toList_inj.1 e)
theorem lt_ne {x y : ByteArray} (h : strLt x y = true) : x ≠ y := fun e => by rw [e, lt_irr] at h; cases h
theorem strEq_iff {x y : ByteArray} : strEq x y = true ↔ x = y := by simp [strEq]
theorem strEq_no {x y : ByteArray} : strEq x y = false ↔ x ≠ y := by simp [strEq]

abbrev Ent1 := ByteArray × ByteArray
def Sorted (l : List Ent1) : Prop := l.Pairwise fun a b => strLt a.1 b.1 = true

/-- A record laid into an index. -/
def ins1 (r : Rec1) : List Ent1 → List Ent1
  | [] => if r.1 = 1 then [(r.2.1, r.2.2)] else []
  | e :: l => if strLt e.1 r.2.1 = true then e :: ins1 r l else if e.1 = r.2.1 then (if r.1 = 1 then (r.2.1, r.2.2) :: l else l) else (if r.1 = 1 then (r.2.1, r.2.2) :: e :: l else e :: l)

theorem ins1_mem (r : Rec1) : ∀ (l : List Ent1) (x : Ent1), x ∈ ins1 r l → x ∈ l ∨ (x = (r.2.1, r.2.2) ∧ r.1 = 1)
  | [], x, h => by
    unfold ins1 at h
    split at h
    · rename_i hk; exact .inr ⟨by simpa using h, hk⟩
    · cases h
  | e :: l, x, h => by
    unfold ins1 at h
    split at h
    · rcases List.mem_cons.1 h with rfl | h
      · exact .inl List.mem_cons_self
      · rcases ins1_mem r l x h with h | h
        · exact .inl (List.mem_cons_of_mem _ h)
        · exact .inr h
    · split at h
      · split at h
        · rename_i hk
          rcases List.mem_cons.1 h with rfl | h
          · exact .inr ⟨rfl, hk⟩
          · exact .inl (List.mem_cons_of_mem _ h)
        · exact .inl (List.mem_cons_of_mem _ h)
      · split at h
        · rename_i hk
          rcases List.mem_cons.1 h with rfl | h
          · exact .inr ⟨rfl, hk⟩
          · exact .inl h
        · exact .inl h

theorem ins1_sorted (r : Rec1) : ∀ (l : List Ent1), Sorted l → Sorted (ins1 r l)
  | [], _ => by
    unfold ins1
    split <;> simp [Sorted]
  | e :: l, h => by
    obtain ⟨h1, h2⟩ := List.pairwise_cons.1 h
    unfold ins1
    split
    · rename_i hlt
      refine List.pairwise_cons.2 ⟨fun x hx => ?_, ins1_sorted r l h2⟩
      rcases ins1_mem r l x hx with hx | ⟨rfl, _⟩
      · exact h1 x hx
      · exact hlt
    · rename_i hlt
      simp only [Bool.not_eq_true] at hlt
      split
      · rename_i he
        split
        · exact List.pairwise_cons.2 ⟨fun x hx => by have := h1 x hx; rw [he] at this; exact this, h2⟩
        · exact h2
      · rename_i he
        split
        · refine List.pairwise_cons.2 ⟨fun x hx => ?_, h⟩
          have hue : strLt r.2.1 e.1 = true := lt_tri hlt he
          rcases List.mem_cons.1 hx with rfl | hx
          · exact hue
          · exact lt_trans hue (h1 x hx)
        · exact h
theorem ins1_len (r : Rec1) : ∀ (l : List Ent1), (ins1 r l).length ≤ l.length + 1
  | [] => by unfold ins1; split <;> simp
  | e :: l => by
    have := ins1_len r l
    unfold ins1
    split
    · simp; omega
    · split <;> split <;> simp <;> omega

/-- The index of records. -/
def index (rs : List Rec1) : List Ent1 := rs.foldl (fun l r => ins1 r l) []
theorem foldl_sorted : ∀ (rs : List Rec1) (l : List Ent1), Sorted l → Sorted (rs.foldl (fun l r => ins1 r l) l)
  | [], l, h => h
  | r :: rs, l, h => foldl_sorted rs _ (ins1_sorted r l h)
theorem index_sorted (rs : List Rec1) : Sorted (index rs) := foldl_sorted rs [] List.Pairwise.nil
theorem foldl_len : ∀ (rs : List Rec1) (l : List Ent1), (rs.foldl (fun l r => ins1 r l) l).length ≤ l.length + rs.length
  | [], l => by simp
  | r :: rs, l => by
    have h1 := foldl_len rs (ins1 r l)
    have h2 := ins1_len r l
    simp only [List.foldl_cons, List.length_cons]; omega
theorem index_len (rs : List Rec1) : (index rs).length ≤ rs.length := by have := foldl_len rs []; simpa [index] using this

/-! the reference's way -/
theorem keep_tail {u : ByteArray} : ∀ (l : List Ent1), (∀ x ∈ l, x.1 ≠ u) → l.filter (fun x => !strEq x.1 u) = l := by
  intro l h
  rw [List.filter_eq_self]
  intro x hx
  have := strEq_no.2 (h x hx)
  simp [this]

/-- What one round leaves, behind 'out'. -/
def sIns (r : Rec1) (done : Bool) : List Ent1 → List Ent1
  | [] => if done then [] else [(r.2.1, r.2.2)]
  | e :: l => if (!done && !(strLt e.1 r.2.1)) = true then (r.2.1, r.2.2) :: ((if strEq e.1 r.2.1 = true then [] else [e]) ++ sIns r true l)
    else (if strEq e.1 r.2.1 = true then [] else [e]) ++ sIns r done l

theorem sIns_len (r : Rec1) : ∀ (l : List Ent1) (done : Bool), (sIns r done l).length ≤ l.length + 1
  | [], done => by unfold sIns; split <;> simp
  | e :: l, done => by
    have h1 := sIns_len r l done
    unfold sIns
    split
    · rename_i h
      have h2 : (sIns r true l).length ≤ l.length := by
        have key : ∀ l : List Ent1, (sIns r true l).length ≤ l.length := by
          intro l
          induction l with
          | nil => simp [sIns]
          | cons e l ih =>
            unfold sIns
            simp only [Bool.not_true, Bool.false_and, Bool.false_eq_true, if_false]
            split <;> simp <;> omega
        exact key l
      split <;> simp <;> omega
    · split <;> simp <;> omega

theorem sIns_done (r : Rec1) : ∀ (l : List Ent1), (∀ x ∈ l, x.1 ≠ r.2.1) → sIns r true l = l
  | [], _ => rfl
  | e :: l, h => by
    have := strEq_no.2 (h e List.mem_cons_self)
    unfold sIns
    simp [this, sIns_done r l fun x hx => h x (List.mem_cons_of_mem _ hx)]

theorem sIns_eq (r : Rec1) : ∀ (l : List Ent1), Sorted l → sIns r (r.1 != 1) l = ins1 r l
  | [], _ => by
    unfold sIns ins1
    by_cases hk : r.1 = 1
    · simp [hk]
    · have : (r.1 != 1) = true := by simpa using hk
      simp [hk, this]
  | e :: l, h => by
    obtain ⟨h1, h2⟩ := List.pairwise_cons.1 h
    have ih := sIns_eq r l h2
    unfold sIns ins1
    cases hlt : strLt e.1 r.2.1 with
    | true =>
      have hne := strEq_no.2 (lt_ne hlt)
      simp [hne, ih]
    | false =>
      by_cases he : e.1 = r.2.1
      · have heq := strEq_iff.2 he
        have hrest : sIns r true l = l := sIns_done r l fun x hx => by
          have := h1 x hx
          rw [he] at this
          exact fun e => lt_ne this e.symm
        by_cases hk : r.1 = 1
        · have : (r.1 != 1) = false := by simpa using hk
          simp [he, strEq_iff.2, hk, hrest, strEq_self]
        · have : (r.1 != 1) = true := by simpa using hk
          simp [he, hk, this, hrest, strEq_self]
      · have hne := strEq_no.2 he
        have hrest : sIns r true l = l := sIns_done r l fun x hx ex => by
          have hx1 := h1 x hx
          rw [ex, hlt] at hx1
          cases hx1
        by_cases hk : r.1 = 1
        · simp [he, hk, hrest, hne]
        · have : (r.1 != 1) = true := by simpa using hk
          simp [he, hk, this, hrest, hne]

theorem sIndexOf_l1 (rs : List Rec1) (hrs : rs.length ≤ 1073741824) (i : Nat) (hi : i < rs.length) (l : List Ent1) (hl : l.length ≤ 1073741824) : ∀ (k j : Nat) (done : Bool) (out : List Ent1), j + k = l.length → out.length ≤ 2 * j →
    f_spec_IndexOf_l1 ((i : Int), done, (j : Int), rs, l, out, ()) = f_spec_IndexOf_l0 (((i + 1 : Nat) : Int), rs, out ++ sIns rs[i] done (l.drop j), ()) := by
  have hm : most = 4294967296 := rfl
  intro k
  induction k with
  | zero =>
    intro j done out hj ho
    have c2 : decide (out.length + 1 ≤ most) = true := by simp; omega
    rw [f_spec_IndexOf_l1, nlt_nat (by omega), within_nat hi, List.drop_eq_nil_of_le (by omega), getD_nat _ _ _ hi, w64s (show i < 9223372036854775807 by omega), c2]
    simp only [Bool.false_eq_true, if_false, if_true]
    cases done <;> simp [sIns]
  | succ k ih =>
    intro j done out hj ho
    have hjl : j < l.length := by omega
    have c2 : decide (out.length + 1 ≤ most) = true := by simp; omega
    have c3 : ∀ x : Ent1, decide ((out ++ [x]).length + 1 ≤ most) = true := fun x => by simp; omega
    rw [f_spec_IndexOf_l1, lt_nat hjl, within_nat hjl, within_nat hi, getD_nat _ _ _ hjl, getD_nat _ _ _ hi, w64s (show j < 9223372036854775807 by omega), c2, List.drop_eq_getElem_cons hjl]
    simp only [if_true, c3]
    rw [sIns]
    cases done with
    | true =>
      simp only [Bool.not_true, Bool.false_eq_true, if_false, Bool.false_and]
      cases he : strEq l[j].1 rs[i].2.1 with
      | true =>
        simp only [Bool.not_true, Bool.false_eq_true, if_false, if_true, List.nil_append]
        exact ih (j + 1) true out (by omega) (by omega)
      | false =>
        simp only [Bool.not_false, if_true, Bool.false_eq_true, if_false]
        rw [ih (j + 1) true _ (by omega) (by simp; omega)]
        simp
    | false =>
      simp only [Bool.not_false, if_true, Bool.true_and]
      cases hlt : strLt l[j].1 rs[i].2.1 with
      | true =>
        simp only [Bool.not_true, Bool.false_eq_true, if_false]
        cases he : strEq l[j].1 rs[i].2.1 with
        | true =>
          simp only [Bool.not_true, Bool.false_eq_true, if_false, if_true, List.nil_append]
          exact ih (j + 1) false out (by omega) (by omega)
        | false =>
          simp only [Bool.not_false, if_true, Bool.false_eq_true, if_false]
          rw [ih (j + 1) false _ (by omega) (by simp; omega)]
          simp
      | false =>
        simp only [Bool.not_false, if_true]
        cases he : strEq l[j].1 rs[i].2.1 with
        | true =>
          simp only [Bool.not_true, Bool.false_eq_true, if_false, if_true, List.nil_append]
          rw [ih (j + 1) true _ (by omega) (by simp; omega)]
          simp
        | false =>
          simp only [Bool.not_false, if_true, Bool.false_eq_true, if_false]
          rw [ih (j + 1) true _ (by omega) (by simp; omega)]
          simp

theorem sIndexOf_l0 (rs : List Rec1) (hrs : rs.length ≤ 536870912) : ∀ (k i : Nat) (l : List Ent1), i + k = rs.length → l.length ≤ i → Sorted l → f_spec_IndexOf_l0 ((i : Int), rs, l, ()) = some ((rs.drop i).foldl (fun l r => ins1 r l) l, ()) := by
  intro k
  induction k with
  | zero =>
    intro i l hi hl hs
    rw [f_spec_IndexOf_l0, nlt_nat (by omega), List.drop_eq_nil_of_le (by omega)]; rfl
  | succ k ih =>
    intro i l hi hl hs
    have hir : i < rs.length := by omega
    have e := sIndexOf_l1 rs (by omega) i hir l (by omega) l.length 0 (rs[i].1 != 1) [] (by omega) (by simp)
    rw [f_spec_IndexOf_l0, lt_nat hir, within_nat hir, getD_nat _ _ _ hir]
    simp only [if_true]
    rw [show (0 : Int) = ((0 : Nat) : Int) from rfl, e, List.drop_zero, List.nil_append, sIns_eq _ _ hs]
    have hlen := ins1_len rs[i] l
    rw [ih (i + 1) _ (by omega) (by omega) (ins1_sorted _ _ hs), List.drop_eq_getElem_cons hir]; rfl

theorem sIndexOf (rs : List Rec1) (hrs : rs.length ≤ 536870912) : f_spec_IndexOf (rs, ()) = some (index rs, ()) := by
  rw [f_spec_IndexOf.eq_def]
  exact sIndexOf_l0 rs hrs rs.length 0 [] (by omega) (by simp) List.Pairwise.nil
end Go.Proofs.Fx

/- The plain law: the index, in the program's way; archives. -/
set_option linter.unusedVariables false
set_option linter.unusedSimpArgs false
namespace Go.Proofs.Fx
open Go Go.Sx

def posF (u : ByteArray) : List Ent1 → Nat
  | [] => 0
  | e :: l => if strLt e.1 u = true then posF u l + 1 else 0
def fndF (u : ByteArray) : List Ent1 → Bool
  | [] => false
  | e :: l => if strLt e.1 u = true then fndF u l else strEq e.1 u
theorem posF_le (u : ByteArray) : ∀ l : List Ent1, posF u l ≤ l.length
  | [] => by simp [posF]
  | e :: l => by have := posF_le u l; unfold posF; split <;> simp <;> omega
theorem posF_lt (u : ByteArray) : ∀ l : List Ent1, fndF u l = true → posF u l < l.length
  | [], h => by simp [fndF] at h
  | e :: l, h => by
    have ih := posF_lt u l
    unfold fndF at h
    unfold posF
    split at h
    · rename_i hc; rw [if_pos hc]; have := ih h; simp; omega
    · rename_i hc; rw [if_neg hc]; simp

theorem entryAt_l0 (u : ByteArray) (l : List Ent1) (hl : l.length ≤ 1073741824) : ∀ (k i : Nat), i + k = l.length → f_impl_entryAt_l0 (u, (i : Int), l, ()) = some (((i + posF u (l.drop i) : Nat) : Int), fndF u (l.drop i), ()) := by
  intro k
  induction k with
  | zero =>
    intro i hi
    rw [f_impl_entryAt_l0, nlt_nat (by omega), List.drop_eq_nil_of_le (by omega)]; rfl
  | succ k ih =>
    intro i hi
    have hil : i < l.length := by omega
    rw [f_impl_entryAt_l0, lt_nat hil, within_nat hil, getD_nat _ _ _ hil, w64s (by omega), List.drop_eq_getElem_cons hil, posF, fndF]
    simp only [if_true]
    cases h : strLt l[i].1 u with
    | true =>
      simp only [if_true]
      rw [ih (i + 1) (by omega), show i + 1 + posF u (l.drop (i + 1)) = i + (posF u (l.drop (i + 1)) + 1) by omega]
    | false => simp
theorem entryAt (u : ByteArray) (l : List Ent1) (hl : l.length ≤ 1073741824) : f_impl_entryAt (u, l, ()) = some ((posF u l : Int), fndF u l, ()) := by
  rw [f_impl_entryAt]
  have := entryAt_l0 u l hl l.length 0 (by omega)
  simpa using this

theorem del_eq (i : Nat) (l : List Ent1) (h : i < l.length) : f_slices_Delete_Entry ((i : Int), ((i + 1 : Nat) : Int), l, ()) = some (l.take i ++ l.drop (i + 1), ()) := by
  show (if (decide ((0 : Int) ≤ (i : Int)) && (decide ((i : Int) ≤ ((i + 1 : Nat) : Int)) && decide (((i + 1 : Nat) : Int) ≤ (l.length : Int)))) = true then some (l.take (Int.toNat (i : Int)) ++ l.drop (Int.toNat ((i + 1 : Nat) : Int)), ()) else none) = _
  rw [if_pos (by simp only [Bool.and_eq_true, decide_eq_true_eq]; omega), Int.toNat_natCast, Int.toNat_natCast]
theorem ins_eq (i : Nat) (l : List Ent1) (x : Ent1) (h : i ≤ l.length) (hl : l.length ≤ 1073741824) : f_slices_Insert_Entry ((i : Int), l, [x], ()) = some (l.take i ++ [x] ++ l.drop i, ()) := by
  have hm : most = 4294967296 := rfl
  show (if (decide ((0 : Int) ≤ (i : Int)) && (decide ((i : Int) ≤ (l.length : Int)) && decide (l.length + [x].length ≤ most))) = true then some (l.take (Int.toNat (i : Int)) ++ [x] ++ l.drop (Int.toNat (i : Int)), ()) else none) = _
  rw [if_pos (by simp only [Bool.and_eq_true, decide_eq_true_eq, List.length_singleton]; omega), Int.toNat_natCast]

theorem ins1_found (r : Rec1) : ∀ l : List Ent1, fndF r.2.1 l = true → ins1 r l = l.take (posF r.2.1 l) ++ (if r.1 = 1 then [(r.2.1, r.2.2)] else []) ++ l.drop (posF r.2.1 l + 1)
  | [], h => by simp [fndF] at h
  | e :: l, h => by
    unfold fndF at h
    unfold ins1 posF
    split at h
    · rename_i hc
      rw [if_pos hc, if_pos hc, ins1_found r l h]
      simp
    · rename_i hc
      have he := strEq_iff.1 h
      rw [if_neg hc, if_neg hc, if_pos he]
      split <;> simp
theorem ins1_new (r : Rec1) : ∀ l : List Ent1, fndF r.2.1 l = false → ins1 r l = if r.1 = 1 then l.take (posF r.2.1 l) ++ [(r.2.1, r.2.2)] ++ l.drop (posF r.2.1 l) else l
  | [], h => by simp [ins1, posF]
  | e :: l, h => by
    unfold fndF at h
    unfold ins1 posF
    split at h
    · rename_i hc
      rw [if_pos hc, if_pos hc, ins1_new r l h]
      split <;> simp
    · rename_i hc
      have he := strEq_no.1 h
      rw [if_neg hc, if_neg hc, if_neg he]
      split <;> simp

theorem iIndexOf_l0 (rs : List Rec1) (hrs : rs.length ≤ 536870912) : ∀ (k i : Nat) (l : List Ent1), i + k = rs.length → l.length ≤ i → f_impl_IndexOf_l0 ((rs.length : Int), (i : Int), rs, l, ()) = some ((rs.drop i).foldl (fun l r => ins1 r l) l, ()) := by
  intro k
  induction k with
  | zero =>
    intro i l hi hl
    rw [f_impl_IndexOf_l0, nlt_nat (by omega), List.drop_eq_nil_of_le (by omega)]; rfl
  | succ k ih =>
    intro i l hi hl
    have hir : i < rs.length := by omega
    have hlen := ins1_len rs[i] l
    have hp := posF_le rs[i].2.1 l
    have ih' := fun l' h => ih (i + 1) l' (by omega) h
    rw [f_impl_IndexOf_l0, lt_nat hir, within_nat hir, getD_nat _ _ _ hir, entryAt _ _ (by omega), List.drop_eq_getElem_cons hir, List.foldl_cons]
    simp only [if_true, Option.bind_eq_bind, Option.bind_some]
    rw [w64s (show posF rs[i].2.1 l < 9223372036854775807 by omega), w64s (show i < 9223372036854775807 by omega)]
    cases hf : fndF rs[i].2.1 l with
    | true =>
      have hlt := posF_lt _ _ hf
      rw [ins1_found _ _ hf] at hlen ⊢
      simp only [if_true]
      rw [del_eq _ _ hlt]
      simp only [Option.bind_some]
      by_cases hk : rs[i].1 = 1
      · have hlen2 : (l.take (posF rs[i].2.1 l) ++ l.drop (posF rs[i].2.1 l + 1)).length = l.length - 1 := by simp; omega
        rw [if_pos (by simpa using hk), if_pos hk, ins_eq _ _ _ (by rw [hlen2]; omega) (by rw [hlen2]; omega)]
        simp only [Option.bind_some]
        have e1 : (l.take (posF rs[i].2.1 l) ++ l.drop (posF rs[i].2.1 l + 1)).take (posF rs[i].2.1 l) = l.take (posF rs[i].2.1 l) := by
          rw [List.take_append_of_le_length (by simp; omega), List.take_take]; simp
        have e2 : (l.take (posF rs[i].2.1 l) ++ l.drop (posF rs[i].2.1 l + 1)).drop (posF rs[i].2.1 l) = l.drop (posF rs[i].2.1 l + 1) := by
          rw [List.drop_append_of_le_length (by simp; omega), List.drop_take]; simp
        rw [e1, e2]
        rw [if_pos hk] at hlen
        exact ih' _ (by omega)
      · rw [if_neg (by simpa using hk), if_neg hk]
        rw [if_neg hk] at hlen
        simp only [List.append_nil] at hlen ⊢
        exact ih' _ (by omega)
    | false =>
      rw [ins1_new _ _ hf] at hlen ⊢
      simp only [Bool.false_eq_true, if_false]
      by_cases hk : rs[i].1 = 1
      · rw [if_pos (by simpa using hk), if_pos hk, ins_eq _ _ _ hp (by omega)]
        rw [if_pos hk] at hlen
        simp only [Option.bind_some]
        exact ih' _ (by omega)
      · rw [if_neg (by simpa using hk), if_neg hk]
        exact ih' _ (by omega)

theorem iIndexOf (rs : List Rec1) (hrs : rs.length ≤ 536870912) : f_impl_IndexOf (rs, ()) = some (index rs, ()) := by
  rw [f_impl_IndexOf.eq_def]
  exact iIndexOf_l0 rs hrs rs.length 0 [] (by omega) (by simp)

/-! lists alike -/
theorem entEq (a b : Ent1) : (!((strEq a.1 b.1) && ((strEq a.2 b.2) && true))) = !decide (a = b) := by
  obtain ⟨a1, a2⟩ := a
  obtain ⟨b1, b2⟩ := b
  simp only [strEq, Bool.and_true, Prod.mk.injEq, Bool.decide_and]
theorem cons_dec (x y : Ent1) (X Y : List Ent1) : decide (x :: X = y :: Y) = (decide (x = y) && decide (X = Y)) := by
  simp only [List.cons.injEq, Bool.decide_and]
theorem sameList_l0 (a b : List Ent1) (h : a.length = b.length) (hl : a.length ≤ 1073741824) : ∀ (k i : Nat), i + k = a.length → f_spec_l18SameList_l0 ((i : Int), a, b, ()) = some (decide (a.drop i = b.drop i), ()) := by
  intro k
  induction k with
  | zero =>
    intro i hi
    rw [f_spec_l18SameList_l0, nlt_nat (by omega), List.drop_eq_nil_of_le (by omega), List.drop_eq_nil_of_le (by omega)]; simp
  | succ k ih =>
    intro i hi
    have h1 : i < a.length := by omega
    have h2 : i < b.length := by omega
    rw [f_spec_l18SameList_l0, lt_nat h1, within_nat h1, within_nat h2, getD_nat _ _ _ h1, getD_nat _ _ _ h2, w64s (by omega), List.drop_eq_getElem_cons h1, List.drop_eq_getElem_cons h2, entEq, cons_dec]
    cases he : decide (a[i] = b[i]) with
    | true =>
      simp only [Bool.not_true, Bool.false_eq_true, if_false, if_true, Bool.true_and]
      exact ih (i + 1) (by omega)
    | false => rfl
theorem sSameList (a b : List Ent1) (hl : a.length ≤ 1073741824) (hb : b.length ≤ 1073741824) : f_spec_l18SameList (a, b, ()) = some (decide (a = b), ()) := by
  rw [f_spec_l18SameList]
  by_cases h : a.length = b.length
  · rw [if_neg (by simp; omega)]
    have := sameList_l0 a b h hl a.length 0 (by omega)
    simpa using this
  · rw [if_pos (by simp; omega)]
    have : a ≠ b := fun e => h (by rw [e])
    simp [this]
theorem iEqual_l0 (a b : List Ent1) (h : a.length = b.length) (hl : a.length ≤ 1073741824) : ∀ (k i : Nat), i + k = a.length → f_slices_Equal_Entry_l0 ((a.length : Int), (i : Int), a, b, ()) = some (decide (a.drop i = b.drop i), ()) := by
  intro k
  induction k with
  | zero =>
    intro i hi
    rw [f_slices_Equal_Entry_l0, nlt_nat (by omega), List.drop_eq_nil_of_le (by omega), List.drop_eq_nil_of_le (by omega)]; simp
  | succ k ih =>
    intro i hi
    have h1 : i < a.length := by omega
    have h2 : i < b.length := by omega
    rw [f_slices_Equal_Entry_l0, lt_nat h1, within_nat h1, within_nat h2, getD_nat _ _ _ h1, getD_nat _ _ _ h2, w64s (by omega), List.drop_eq_getElem_cons h1, List.drop_eq_getElem_cons h2, entEq, cons_dec]
    cases he : decide (a[i] = b[i]) with
    | true =>
      simp only [Bool.not_true, Bool.false_eq_true, if_false, if_true, Bool.true_and]
      exact ih (i + 1) (by omega)
    | false => rfl
theorem iEqual (a b : List Ent1) (hl : a.length ≤ 1073741824) (hb : b.length ≤ 1073741824) : f_slices_Equal_Entry (a, b, ()) = some (decide (a = b), ()) := by
  rw [f_slices_Equal_Entry]
  by_cases h : a.length = b.length
  · rw [if_neg (by simp; omega)]
    have := iEqual_l0 a b h hl a.length 0 (by omega)
    simpa using this
  · rw [if_pos (by simp; omega)]
    have : a ≠ b := fun e => h (by rw [e])
    simp [this]

/-! archives -/
/-- What an archive's area holds: whether its records are right, and their index. -/
def areaR (l : List ByteArray) (p : List (Int × ByteArray)) (a n : Int) : Bool × List Ent1 := ((recs (areaB l p a.toNat 0 n.toNat)).1, index (recs (areaB l p a.toNat 0 n.toNat)).2)

def archOk (op : Bool) (h1 h2 h3 : Int) (l : List ByteArray) (p : List (Int × ByteArray)) (q : List Ent1) : Bool :=
  diskOk l p && (decide (p.length = 0) && (if op = true then headOk h1 h2 h3 && (decide (headNow l p = (h1, h2, h3)) && ((areaR l p h2 h3).1 && decide ((areaR l p h2 h3).2 = q))) else decide (h1 = 0) && (decide (h2 = 0) && (decide (h3 = 0) && decide (q.length = 0)))))

theorem listOf (l : List ByteArray) (p : List (Int × ByteArray)) (hd : diskOk l p = true) (hl : l.length ≤ 1048576) (hp : p.length ≤ 1048576) (h1 h2 h3 : Int) (hh : headOk h1 h2 h3 = true) :
    f_impl_listOf (h1, h2, h3, l, p, ()) = some ((areaR l p h2 h3).1, (areaR l p h2 h3).2, ()) := by
  obtain ⟨x, y, z, rfl, rfl, rfl, k1, k2, k3, k4⟩ := headOk_nat hh
  have hb := areaB_bts l p y 0 z (by omega)
  obtain ⟨r1, r2, r3, _⟩ := recs_both hb
  rw [areaB_len] at r3
  have e := iAreaGet l p hd hl hp y 0 z (by omega) (by omega)
  rw [f_impl_listOf, show (0 : Int) = ((0 : Nat) : Int) from rfl, e]
  simp only [Option.bind_eq_bind, Option.bind_some, Bool.not_true, Bool.false_eq_true, if_false]
  rw [r2]
  simp only [Option.bind_some]
  rw [iIndexOf _ (by omega)]
  simp [areaR]

theorem head3 (h : Int × Int × Int) (a b c : Int) : (!((h.1 == a) && ((h.2.1 == b) && ((h.2.2 == c) && true)))) = !decide (h = (a, b, c)) := by
  obtain ⟨x, y, z⟩ := h
  simp only [Prod.mk.injEq, Bool.decide_and, Bool.and_true]
  rfl
theorem zero3 (a b c : Int) : ((a == 0) && ((b == 0) && ((c == 0) && true))) = (decide (a = 0) && (decide (b = 0) && decide (c = 0))) := by
  simp only [Bool.and_true]; rfl

theorem sArchiveOk (op : Bool) (h1 h2 h3 : Int) (l : List ByteArray) (p : List (Int × ByteArray)) (q : List Ent1) (hl : l.length ≤ 1048576) (hp : p.length ≤ 1048576) (hq : q.length ≤ 1048576) :
    f_spec_ArchiveOk (op, h1, h2, h3, l, p, q, ()) = some (archOk op h1 h2 h3 l p q, ()) := by
  rw [f_spec_ArchiveOk, sDiskOk l p hl hp]
  simp only [Option.bind_eq_bind, Option.bind_some]
  unfold archOk
  cases hd : diskOk l p with
  | false => simp
  | true =>
    simp only [Bool.not_true, Bool.false_eq_true, if_false, Bool.true_and]
    by_cases hp0 : p.length = 0
    · have c0 : decide ((p.length : Int) > 0) = false := by simp only [decide_eq_false_iff_not]; omega
      simp only [c0, Bool.false_eq_true, if_false, hp0, decide_true, Bool.true_and]
      cases op with
      | false =>
        simp only [Bool.not_false, if_true, Bool.false_eq_true, if_false, zero3]
        cases decide (h1 = 0) <;> cases decide (h2 = 0) <;> cases decide (h3 = 0) <;> simp
        rw [Bool.eq_iff_iff]; simp
      | true =>
        simp only [Bool.not_true, Bool.false_eq_true, if_false, if_true, l16Right, Option.bind_some]
        cases hh : headOk h1 h2 h3 with
        | false => simp
        | true =>
          simp only [Bool.not_true, Bool.false_eq_true, if_false, sHeadNow l p hl hp, Option.bind_some, head3, Bool.true_and]
          cases hn : decide (headNow l p = (h1, h2, h3)) with
          | false => simp
          | true =>
            obtain ⟨x, y, z, rfl, rfl, rfl, k1, k2, k3, k4⟩ := headOk_nat hh
            have hb := areaB_bts l p y 0 z (by omega)
            obtain ⟨r1, r2, r3, _⟩ := recs_both hb
            rw [areaB_len] at r3
            have hil := index_len (recs (areaB l p y 0 z)).2
            have e : f_spec_l18Bytes ((x : Int), (y : Int), (z : Int), l, p, ()) = some (areaB l p y 0 z, ()) := by
              rw [f_spec_l18Bytes, show (0 : Int) = ((0 : Nat) : Int) from rfl, sl16Get l p hd hp y 0 z (by omega) (by omega)]; rfl
            simp only [Bool.not_true, Bool.false_eq_true, if_false, e, Option.bind_some, r1, Bool.true_and, areaR, Int.toNat_natCast]
            cases (recs (areaB l p y 0 z)).1 with
            | false => simp
            | true =>
              simp only [if_true]
              rw [sIndexOf _ (by omega)]
              simp only [Option.bind_some]
              rw [sSameList _ _ (by omega) (by omega)]
              simp
              try exact decide_eq_decide.2 Iff.rfl
    · have c0 : decide ((p.length : Int) > 0) = true := by simp only [decide_eq_true_eq]; omega
      simp only [c0, if_true]
      simp [hp0]

theorem iArchiveOk (op : Bool) (h1 h2 h3 : Int) (l : List ByteArray) (p : List (Int × ByteArray)) (q : List Ent1) (hl : l.length ≤ 1048576) (hp : p.length ≤ 1048576) (hq : q.length ≤ 1048576) :
    f_impl_ArchiveOk (op, h1, h2, h3, l, p, q, ()) = some (archOk op h1 h2 h3 l p q, ()) := by
  rw [f_impl_ArchiveOk]
  unfold archOk
  by_cases hp0 : p.length = 0
  · have c0 : decide ((p.length : Int) > 0) = false := by simp only [decide_eq_false_iff_not]; omega
    simp only [c0, Bool.false_eq_true, if_false, iDiskOk l p hl hp]
    simp only [Option.bind_eq_bind, Option.bind_some, hp0, decide_true, Bool.true_and]
    cases hd : diskOk l p with
    | false => simp
    | true =>
      simp only [Bool.not_true, Bool.false_eq_true, if_false, Bool.true_and]
      cases op with
      | false =>
        simp only [Bool.not_false, if_true, Bool.false_eq_true, if_false, zero3]
        cases decide (h1 = 0) <;> cases decide (h2 = 0) <;> cases decide (h3 = 0) <;> simp
        rw [Bool.eq_iff_iff]; simp
      | true =>
        simp only [Bool.not_true, Bool.false_eq_true, if_false, if_true, iheadOk, Option.bind_some]
        cases hh : headOk h1 h2 h3 with
        | false => simp
        | true =>
          simp only [Bool.not_true, Bool.false_eq_true, if_false, iHeadNow l p hl hp, Option.bind_some, head3, Bool.true_and]
          cases hn : decide (headNow l p = (h1, h2, h3)) with
          | false => simp
          | true =>
            have hx := hh
            obtain ⟨x, y, z, rfl, rfl, rfl, k1, k2, k3, k4⟩ := headOk_nat hx
            have hb := areaB_bts l p y 0 z (by omega)
            obtain ⟨r1, r2, r3, _⟩ := recs_both hb
            rw [areaB_len] at r3
            have hil := index_len (recs (areaB l p y 0 z)).2
            have ha : (areaR l p (y : Int) (z : Int)).2.length ≤ 1073741824 := by simp only [areaR, Int.toNat_natCast]; omega
            simp only [Bool.not_true, Bool.false_eq_true, if_false, Bool.true_and, listOf l p hd hl hp _ _ _ hh, Option.bind_some]
            cases (areaR l p (y : Int) (z : Int)).1 with
            | false => simp
            | true =>
              simp only [if_true]
              rw [iEqual _ _ ha (by omega)]
              simp
              try exact decide_eq_decide.2 Iff.rfl
  · have c0 : decide ((p.length : Int) > 0) = true := by simp only [decide_eq_true_eq]; omega
    simp only [c0, if_true]
    simp [hp0]

theorem law_ArchiveOk (op : Bool) (h1 h2 h3 : Int) (l : List ByteArray) (p : List (Int × ByteArray)) (q : List Ent1) (hl : l.length ≤ maxLen) (hs : ∀ s ∈ l, s.size ≤ maxLen) (hp : p.length ≤ maxLen) (hq : ∀ s ∈ p, s.2.size ≤ maxLen)
    (hql : q.length ≤ maxLen) (hqs : ∀ s ∈ q, s.1.size ≤ maxLen ∧ s.2.size ≤ maxLen) : f_laws_FnExactArchiveOk (op, h1, h2, h3, l, p, q, ()) = some (true, ()) := by
  obtain ⟨t, t1, t2⟩ := szArchive op h1 h2 h3 l p q hl hs hp hq hql hqs
  rw [f_laws_FnExactArchiveOk, t1]
  simp only [Option.bind_eq_bind, Option.bind_some]
  by_cases hn : t < 0
  · rw [if_pos (by simpa using hn)]
  · rw [if_neg (by simpa using hn)]
    obtain ⟨⟨b1, _⟩, ⟨b2, _⟩, b3, _⟩ := t2 (by omega)
    simp only [toArchive op h1 h2 h3 l p q b1 b2 b3, Option.bind_some, sArchiveOk op h1 h2 h3 l p q b1 b2 b3, iArchiveOk op h1 h2 h3 l p q b1 b2 b3, beq_self_eq_true, Bool.not_true, Bool.false_eq_true, if_false, eqArchive op h1 h2 h3 l p q b1 b2 b3]
end Go.Proofs.Fx
