/- Part Fa of a proof: every text below is one step of it; what the last part proves is said there. -/
import Derived.Test.YtidikilmomkbbaaSd

/- The functions, as plain Lean: printed by a program. -/
set_option linter.unusedVariables false
set_option maxRecDepth 100000
namespace Go.Proofs.Fx
open Go Go.Sx
/- loop.example/g00118/laws.szStringS -/
def f_laws_szStringS_l0 : Int × Int × List ByteArray × Unit → Option (Int × Unit)
  | (x0, x1, x2, ()) =>
   if decide (x1 < (x2.length : Int)) then
    if within x1 x2.length then
     if decide ((IntKind.i64.wrap (x0 - (ByteArray.size (List.getD x2 x1.toNat ByteArray.empty) : Int))) < 0) then
      some ((-1), ())
     else
      f_laws_szStringS_l0 (IntKind.i64.wrap (x0 - (ByteArray.size (List.getD x2 x1.toNat ByteArray.empty) : Int)), IntKind.i64.wrap (x1 + 1), x2, ())
    else none
   else
    some (x0, ())
  partial_fixpoint
def f_laws_szStringS : Int × List ByteArray × Unit → Option (Int × Unit)
  | (a0, a1, ()) =>
   if decide ((IntKind.i64.wrap (a0 - (a1.length : Int))) < 0) then
    some ((-1), ())
   else
    f_laws_szStringS_l0 (IntKind.i64.wrap (a0 - (a1.length : Int)), 0, a1, ())
/- loop.example/g00118/laws.szPut -/
def f_laws_szPut : Int × ByteArray × Int × Unit → Option (Int × Unit)
  | (a0, a1, a2, ()) =>
   if decide ((IntKind.i64.wrap (a2 - (ByteArray.size a1 : Int))) < 0) then
    some ((-1), ())
   else
    some (IntKind.i64.wrap (a2 - (ByteArray.size a1 : Int)), ())
/- loop.example/g00118/laws.szPutS -/
def f_laws_szPutS_l0 : Int × Int × List (Int × ByteArray) × Unit → Option (Int × Unit)
  | (x0, x1, x2, ()) =>
   if decide (x1 < (x2.length : Int)) then
    if within x1 x2.length then
     f_laws_szPut ((List.getD x2 x1.toNat (0, ByteArray.empty)).1, (List.getD x2 x1.toNat (0, ByteArray.empty)).2, x0, ()) >>= fun t1 =>
     if decide (t1.1 < 0) then
      some ((-1), ())
     else
      f_laws_szPutS_l0 (t1.1, IntKind.i64.wrap (x1 + 1), x2, ())
    else none
   else
    some (x0, ())
  partial_fixpoint
def f_laws_szPutS : Int × List (Int × ByteArray) × Unit → Option (Int × Unit)
  | (a0, a1, ()) =>
   if decide ((IntKind.i64.wrap (a0 - (a1.length : Int))) < 0) then
    some ((-1), ())
   else
    f_laws_szPutS_l0 (IntKind.i64.wrap (a0 - (a1.length : Int)), 0, a1, ())
/- loop.example/g00118/laws.szDisk -/
def f_laws_szDisk : Int × List ByteArray × List (Int × ByteArray) × Unit → Option (Int × Unit)
  | (a0, a1, a2, ()) =>
   f_laws_szStringS (a0, a1, ()) >>= fun t1 =>
   if decide (t1.1 < 0) then
    some ((-1), ())
   else
    f_laws_szPutS (t1.1, a2, ()) >>= fun t2 =>
    if decide (t2.1 < 0) then
     some ((-1), ())
    else
     some (t2.1, ())
/- loop.example/g00118/laws.szEntry -/
def f_laws_szEntry : ByteArray × ByteArray × Int × Unit → Option (Int × Unit)
  | (a0, a1, a2, ()) =>
   if decide ((IntKind.i64.wrap (a2 - (ByteArray.size a0 : Int))) < 0) then
    some ((-1), ())
   else
    if decide ((IntKind.i64.wrap ((IntKind.i64.wrap (a2 - (ByteArray.size a0 : Int))) - (ByteArray.size a1 : Int))) < 0) then
     some ((-1), ())
    else
     some (IntKind.i64.wrap ((IntKind.i64.wrap (a2 - (ByteArray.size a0 : Int))) - (ByteArray.size a1 : Int)), ())
/- loop.example/g00118/laws.szEntryS -/
def f_laws_szEntryS_l0 : Int × Int × List (ByteArray × ByteArray) × Unit → Option (Int × Unit)
  | (x0, x1, x2, ()) =>
   if decide (x1 < (x2.length : Int)) then
    if within x1 x2.length then
     f_laws_szEntry ((List.getD x2 x1.toNat (ByteArray.empty, ByteArray.empty)).1, (List.getD x2 x1.toNat (ByteArray.empty, ByteArray.empty)).2, x0, ()) >>= fun t1 =>
     if decide (t1.1 < 0) then
      some ((-1), ())
     else
      f_laws_szEntryS_l0 (t1.1, IntKind.i64.wrap (x1 + 1), x2, ())
    else none
   else
    some (x0, ())
  partial_fixpoint
def f_laws_szEntryS : Int × List (ByteArray × ByteArray) × Unit → Option (Int × Unit)
  | (a0, a1, ()) =>
   if decide ((IntKind.i64.wrap (a0 - (a1.length : Int))) < 0) then
    some ((-1), ())
   else
    f_laws_szEntryS_l0 (IntKind.i64.wrap (a0 - (a1.length : Int)), 0, a1, ())
/- loop.example/g00118/laws.szArchive -/
def f_laws_szArchive : Bool × Int × Int × Int × Int × List ByteArray × List (Int × ByteArray) × List (ByteArray × ByteArray) × Unit → Option (Int × Unit)
  | (a0, a1, a2, a3, a4, a5, a6, a7, ()) =>
   f_laws_szDisk (a4, a5, a6, ()) >>= fun t1 =>
   if decide (t1.1 < 0) then
    some ((-1), ())
   else
    f_laws_szEntryS (t1.1, a7, ()) >>= fun t2 =>
    if decide (t2.1 < 0) then
     some ((-1), ())
    else
     some (t2.1, ())
/- loop.example/g00118/laws.toStringS -/
def f_laws_toStringS_l0 : Int × List ByteArray × List ByteArray × Unit → Option (List ByteArray × Unit)
  | (x0, x1, x2, ()) =>
   if decide (x0 < (x1.length : Int)) then
    if within x0 x1.length then
     if within x0 x2.length then
      f_laws_toStringS_l0 (IntKind.i64.wrap (x0 + 1), x1, List.set x2 x0.toNat (List.getD x1 x0.toNat ByteArray.empty), ())
     else none
    else none
   else
    some (x2, ())
  partial_fixpoint
def f_laws_toStringS : List ByteArray × Unit → Option (List ByteArray × Unit)
  | (a0, ()) =>
   if (decide ((0 : Int) ≤ (a0.length : Int))) && ((decide ((a0.length : Int) ≤ (most : Int))) && ((a0.length : Int) == (a0.length : Int))) then
    f_laws_toStringS_l0 (0, a0, List.replicate (Int.toNat (a0.length : Int)) ByteArray.empty, ())
   else none
/- loop.example/g00118/laws.toPut -/
def f_laws_toPut : Int × ByteArray × Unit → Option (Int × ByteArray × Unit)
  | (a0, a1, ()) =>
   some (a0, a1, ())
/- loop.example/g00118/laws.toPutS -/
def f_laws_toPutS_l0 : Int × List (Int × ByteArray) × List (Int × ByteArray) × Unit → Option (List (Int × ByteArray) × Unit)
  | (x0, x1, x2, ()) =>
   if decide (x0 < (x1.length : Int)) then
    if within x0 x1.length then
     f_laws_toPut ((List.getD x1 x0.toNat (0, ByteArray.empty)).1, (List.getD x1 x0.toNat (0, ByteArray.empty)).2, ()) >>= fun t1 =>
     if within x0 x2.length then
      f_laws_toPutS_l0 (IntKind.i64.wrap (x0 + 1), x1, List.set x2 x0.toNat (t1.1, t1.2.1), ())
     else none
    else none
   else
    some (x2, ())
  partial_fixpoint
def f_laws_toPutS : List (Int × ByteArray) × Unit → Option (List (Int × ByteArray) × Unit)
  | (a0, ()) =>
   if (decide ((0 : Int) ≤ (a0.length : Int))) && ((decide ((a0.length : Int) ≤ (most : Int))) && ((a0.length : Int) == (a0.length : Int))) then
    f_laws_toPutS_l0 (0, a0, List.replicate (Int.toNat (a0.length : Int)) (0, ByteArray.empty), ())
   else none
/- loop.example/g00118/laws.toDisk -/
def f_laws_toDisk : List ByteArray × List (Int × ByteArray) × Unit → Option (List ByteArray × List (Int × ByteArray) × Unit)
  | (a0, a1, ()) =>
   f_laws_toStringS (a0, ()) >>= fun t1 =>
   f_laws_toPutS (a1, ()) >>= fun t2 =>
   some (t1.1, t2.1, ())
/- loop.example/g00118/laws.toHead -/
def f_laws_toHead : Int × Int × Int × Unit → Option (Int × Int × Int × Unit)
  | (a0, a1, a2, ()) =>
   some (a0, a1, a2, ())
/- loop.example/g00118/laws.toEntry -/
def f_laws_toEntry : ByteArray × ByteArray × Unit → Option (ByteArray × ByteArray × Unit)
  | (a0, a1, ()) =>
   some (a0, a1, ())
/- loop.example/g00118/laws.toEntryS -/
def f_laws_toEntryS_l0 : Int × List (ByteArray × ByteArray) × List (ByteArray × ByteArray) × Unit → Option (List (ByteArray × ByteArray) × Unit)
  | (x0, x1, x2, ()) =>
   if decide (x0 < (x1.length : Int)) then
    if within x0 x1.length then
     f_laws_toEntry ((List.getD x1 x0.toNat (ByteArray.empty, ByteArray.empty)).1, (List.getD x1 x0.toNat (ByteArray.empty, ByteArray.empty)).2, ()) >>= fun t1 =>
     if within x0 x2.length then
      f_laws_toEntryS_l0 (IntKind.i64.wrap (x0 + 1), x1, List.set x2 x0.toNat (t1.1, t1.2.1), ())
     else none
    else none
   else
    some (x2, ())
  partial_fixpoint
def f_laws_toEntryS : List (ByteArray × ByteArray) × Unit → Option (List (ByteArray × ByteArray) × Unit)
  | (a0, ()) =>
   if (decide ((0 : Int) ≤ (a0.length : Int))) && ((decide ((a0.length : Int) ≤ (most : Int))) && ((a0.length : Int) == (a0.length : Int))) then
    f_laws_toEntryS_l0 (0, a0, List.replicate (Int.toNat (a0.length : Int)) (ByteArray.empty, ByteArray.empty), ())
   else none
/- loop.example/g00118/laws.toArchive -/
def f_laws_toArchive : Bool × Int × Int × Int × List ByteArray × List (Int × ByteArray) × List (ByteArray × ByteArray) × Unit → Option (Bool × Int × Int × Int × List ByteArray × List (Int × ByteArray) × List (ByteArray × ByteArray) × Unit)
  | (a0, a1, a2, a3, a4, a5, a6, ()) =>
   f_laws_toDisk (a4, a5, ()) >>= fun t1 =>
   f_laws_toHead (a1, a2, a3, ()) >>= fun t2 =>
   f_laws_toEntryS (a6, ()) >>= fun t3 =>
   some (a0, t2.1, t2.2.1, t2.2.2.1, t1.1, t1.2.1, t3.1, ())
/- loop.example/g00118/spec.l1In -/
def f_spec_l1In : Int × Int × Int × Unit → Option (Bool × Unit)
  | (a0, a1, a2, ()) =>
   if decide (a0 ≥ a1) then
    some (decide (a0 ≤ a2), ())
   else
    some (false, ())
/- loop.example/g00118/spec.l15Sector -/
def f_spec_l15Sector : Int × Unit → Option (Bool × Unit)
  | (a0, ()) =>
   f_spec_l1In (a0, 0, 129, ()) >>= fun t1 =>
   some (t1.1, ())
/- loop.example/g00118/spec.DiskOk -/
def f_spec_DiskOk_l1 : Int × List ByteArray × List (Int × ByteArray) × Unit → Option (Bool × Unit)
  | (x0, x1, x2, ()) =>
   if decide (x0 < (x2.length : Int)) then
    if within x0 x2.length then
     f_spec_l15Sector ((List.getD x2 x0.toNat (0, ByteArray.empty)).1, ()) >>= fun t1 =>
     if !t1.1 then
      some (false, ())
     else
      if within x0 x2.length then
       if (ByteArray.size ((List.getD x2 x0.toNat (0, ByteArray.empty)).2) : Int) != 64 then
        some (false, ())
       else
        f_spec_DiskOk_l1 (IntKind.i64.wrap (x0 + 1), x1, x2, ())
      else none
    else none
   else
    some (true, ())
  partial_fixpoint
def f_spec_DiskOk_l0 : Int × List ByteArray × List (Int × ByteArray) × Unit → Option (Bool × Unit)
  | (x0, x1, x2, ()) =>
   if decide (x0 < (x1.length : Int)) then
    if within x0 x1.length then
     if (ByteArray.size (List.getD x1 x0.toNat ByteArray.empty) : Int) != 64 then
      some (false, ())
     else
      f_spec_DiskOk_l0 (IntKind.i64.wrap (x0 + 1), x1, x2, ())
    else none
   else
    f_spec_DiskOk_l1 (0, x1, x2, ())
  partial_fixpoint
def f_spec_DiskOk : List ByteArray × List (Int × ByteArray) × Unit → Option (Bool × Unit)
  | (a0, a1, ()) =>
   if (a0.length : Int) != 130 then
    some (false, ())
   else
    if decide ((a1.length : Int) > 200) then
     some (false, ())
    else
     f_spec_DiskOk_l0 (0, a0, a1, ())
/- loop.example/g00118/spec.l16Right -/
def f_spec_l16Right : Int × Int × Int × Unit → Option (Bool × Unit)
  | (a0, a1, a2, ()) =>
   f_spec_l1In (a0, 1, 1000000000, ()) >>= fun t1 =>
   if t1.1 then
    f_spec_l1In (a1, 0, 1, ()) >>= fun t2 =>
    if t2.1 then
     f_spec_l1In (a2, 0, 4096, ()) >>= fun t3 =>
     some (t3.1, ())
    else
     some (false, ())
   else
    some (false, ())
/- loop.example/g00118/spec.l15Of -/
def f_spec_l15Of_l0 : Int × Int × List ByteArray × List (Int × ByteArray) × Unit → Option (ByteArray × Unit)
  | (x0, x1, x2, x3, ()) =>
   if decide (x1 ≥ 0) then
    if within x1 x3.length then
     if ((List.getD x3 x1.toNat (0, ByteArray.empty)).1) == x0 then
      if within x1 x3.length then
       some ((List.getD x3 x1.toNat (0, ByteArray.empty)).2, ())
      else none
     else
      f_spec_l15Of_l0 (x0, IntKind.i64.wrap (x1 - 1), x2, x3, ())
    else none
   else
    if within x0 x2.length then
     some (List.getD x2 x0.toNat ByteArray.empty, ())
    else none
  partial_fixpoint
def f_spec_l15Of : Int × List ByteArray × List (Int × ByteArray) × Unit → Option (ByteArray × Unit)
  | (a0, a1, a2, ()) =>
   f_spec_l15Of_l0 (a0, IntKind.i64.wrap ((a2.length : Int) - 1), a1, a2, ())
/- loop.example/g00118/spec.GetNum -/
def f_spec_GetNum_l0 : Int × Int × Int × Int × List Int × Unit → Option (Int × Int × Bool × Unit)
  | (x0, x1, x2, x3, x4, ()) =>
   if decide (x3 < 9) then
    if decide ((IntKind.i64.wrap (x0 + x3)) < (x4.length : Int)) then
     if within (IntKind.i64.wrap (x0 + x3)) x4.length then
      if decide ((IntKind.i64.wrap (List.getD x4 (Int.toNat (IntKind.i64.wrap (x0 + x3))) 0)) < 128) then
       if (IntKind.i64.wrap (List.getD x4 (Int.toNat (IntKind.i64.wrap (x0 + x3))) 0)) == 0 then
        if decide (x3 > 0) then
         some (0, 0, false, ())
        else
         some (IntKind.i64.wrap (x1 + (IntKind.i64.wrap ((Int.tmod (IntKind.i64.wrap (List.getD x4 (Int.toNat (IntKind.i64.wrap (x0 + x3))) 0)) 128) * x2))), IntKind.i64.wrap ((IntKind.i64.wrap (x0 + x3)) + 1), true, ())
       else
        some (IntKind.i64.wrap (x1 + (IntKind.i64.wrap ((Int.tmod (IntKind.i64.wrap (List.getD x4 (Int.toNat (IntKind.i64.wrap (x0 + x3))) 0)) 128) * x2))), IntKind.i64.wrap ((IntKind.i64.wrap (x0 + x3)) + 1), true, ())
      else
       f_spec_GetNum_l0 (x0, IntKind.i64.wrap (x1 + (IntKind.i64.wrap ((Int.tmod (IntKind.i64.wrap (List.getD x4 (Int.toNat (IntKind.i64.wrap (x0 + x3))) 0)) 128) * x2))), IntKind.i64.wrap (x2 * 128), IntKind.i64.wrap (x3 + 1), x4, ())
     else none
    else
     some (0, 0, false, ())
   else
    some (0, 0, false, ())
  partial_fixpoint
def f_spec_GetNum : Int × List Int × Unit → Option (Int × Int × Bool × Unit)
  | (a0, a1, ()) =>
   if decide (a0 < 0) then
    some (0, 0, false, ())
   else
    if decide (a0 ≥ (a1.length : Int)) then
     some (0, 0, false, ())
    else
     f_spec_GetNum_l0 (a0, 0, 1, 0, a1, ())
/- loop.example/g00118/spec.PutNum -/
def f_spec_PutNum_l0 : Int × List Int × Unit → Option (List Int × Unit)
  | (x0, x1, ()) =>
   if decide (x0 > 127) then
    if decide (x1.length + 1 ≤ most) then
     f_spec_PutNum_l0 (IntKind.i64.wrap (Int.tdiv x0 128), x1 ++ ([IntKind.u8.wrap (IntKind.i64.wrap ((Int.tmod x0 128) + 128))]), ())
    else none
   else
    if decide (x1.length + 1 ≤ most) then
     some (x1 ++ ([IntKind.u8.wrap x0]), ())
    else none
  partial_fixpoint
def f_spec_PutNum : Int × Unit → Option (List Int × Unit)
  | (a0, ()) =>
   if decide (a0 < 0) then
    some ([], ())
   else
    f_spec_PutNum_l0 (a0, [], ())
/- loop.example/g00118/spec.HeadPack -/
def f_spec_HeadPack_l0 : List Int × Unit → Option (ByteArray × Bool × Unit)
  | (x0, ()) =>
   if decide ((x0.length : Int) < 64) then
    if decide (x0.length + 1 ≤ most) then
     f_spec_HeadPack_l0 (x0 ++ ([0]), ())
    else none
   else
    some (strOf x0, true, ())
  partial_fixpoint
def f_spec_HeadPack : Int × Int × Int × Unit → Option (ByteArray × Bool × Unit)
  | (a0, a1, a2, ()) =>
   f_spec_l16Right (a0, a1, a2, ()) >>= fun t1 =>
   if !t1.1 then
    some ((⟨#[]⟩ : ByteArray), false, ())
   else
    f_spec_PutNum (a0, ()) >>= fun t2 =>
    f_spec_PutNum (a1, ()) >>= fun t3 =>
    if decide (t2.1.length + t3.1.length ≤ most) then
     f_spec_PutNum (a2, ()) >>= fun t4 =>
     if decide (((t2.1 ++ t3.1).length) + t4.1.length ≤ most) then
      f_spec_HeadPack_l0 ((t2.1 ++ t3.1) ++ t4.1, ())
     else none
    else none
/- loop.example/g00118/spec.HeadRead -/
def f_spec_HeadRead : ByteArray × Unit → Option (Int × Int × Int × Bool × Unit)
  | (a0, ()) =>
   if decide (ByteArray.size a0 ≤ most) then
    f_spec_GetNum (0, bytesI a0, ()) >>= fun t1 =>
    f_spec_GetNum (t1.2.1, bytesI a0, ()) >>= fun t2 =>
    f_spec_GetNum (t2.2.1, bytesI a0, ()) >>= fun t3 =>
    f_spec_HeadPack (t1.1, t2.1, t3.1, ()) >>= fun t4 =>
    if !t1.2.2.1 then
     some (0, 0, 0, false, ())
    else
     if !t2.2.2.1 then
      some (0, 0, 0, false, ())
     else
      if !t3.2.2.1 then
       some (0, 0, 0, false, ())
      else
       if !t4.2.1 then
        some (0, 0, 0, false, ())
       else
        if !(strEq t4.1 a0) then
         some (0, 0, 0, false, ())
        else
         some (t1.1, t2.1, t3.1, true, ())
   else none
/- loop.example/g00118/spec.HeadNow -/
def f_spec_HeadNow : List ByteArray × List (Int × ByteArray) × Unit → Option (Int × Int × Int × Unit)
  | (a0, a1, ()) =>
   f_spec_DiskOk (a0, a1, ()) >>= fun t1 =>
   if !t1.1 then
    some (0, 0, 0, ())
   else
    f_spec_l15Of (0, a0, a1, ()) >>= fun t2 =>
    f_spec_HeadRead (t2.1, ()) >>= fun t3 =>
    f_spec_l15Of (1, a0, a1, ()) >>= fun t4 =>
    f_spec_HeadRead (t4.1, ()) >>= fun t5 =>
    if decide (t5.1 > t3.1) then
     some (t5.1, t5.2.1, t5.2.2.1, ())
    else
     some (t3.1, t3.2.1, t3.2.2.1, ())
/- loop.example/g00118/spec.l16Get -/
def f_spec_l16Get_l0 : Int × Int × Int × Int × List ByteArray × List (Int × ByteArray) × List Int × Unit → Option (List Int × Unit)
  | (x0, x1, x2, x3, x4, x5, x6, ()) =>
   if decide (x3 < x2) then
    f_spec_l15Of (IntKind.i64.wrap ((IntKind.i64.wrap (2 + (IntKind.i64.wrap (64 * x0)))) + (IntKind.i64.wrap (Int.tdiv (IntKind.i64.wrap (x1 + x3)) 64))), x4, x5, ()) >>= fun t1 =>
    if within (Int.tmod (IntKind.i64.wrap (x1 + x3)) 64) (ByteArray.size t1.1) then
     if decide (x6.length + 1 ≤ most) then
      f_spec_l16Get_l0 (x0, x1, x2, IntKind.i64.wrap (x3 + 1), x4, x5, x6 ++ ([bt t1.1 (Int.toNat (Int.tmod (IntKind.i64.wrap (x1 + x3)) 64))]), ())
     else none
    else none
   else
    some (x6, ())
  partial_fixpoint
def f_spec_l16Get : Int × Int × Int × List ByteArray × List (Int × ByteArray) × Unit → Option (List Int × Unit)
  | (a0, a1, a2, a3, a4, ()) =>
   f_spec_l16Get_l0 (a0, a1, a2, 0, a3, a4, [], ())
/- loop.example/g00118/spec.l18Bytes -/
def f_spec_l18Bytes : Int × Int × Int × List ByteArray × List (Int × ByteArray) × Unit → Option (List Int × Unit)
  | (a0, a1, a2, a3, a4, ()) =>
   f_spec_l16Get (a1, 0, a2, a3, a4, ()) >>= fun t1 =>
   some (t1.1, ())
/- loop.example/g00118/spec.GetText -/
def f_spec_GetText : Int × List Int × Unit → Option (ByteArray × Int × Bool × Unit)
  | (a0, a1, ()) =>
   f_spec_GetNum (a0, a1, ()) >>= fun t1 =>
   if !t1.2.2.1 then
    some ((⟨#[]⟩ : ByteArray), 0, false, ())
   else
    if decide (t1.1 > (IntKind.i64.wrap ((a1.length : Int) - t1.2.1))) then
     some ((⟨#[]⟩ : ByteArray), 0, false, ())
    else
     if (decide ((0 : Int) ≤ t1.2.1)) && ((decide (t1.2.1 ≤ (IntKind.i64.wrap (t1.2.1 + t1.1)))) && (decide ((IntKind.i64.wrap (t1.2.1 + t1.1)) ≤ (a1.length : Int)))) then
      some (strOf (List.take ((Int.toNat (IntKind.i64.wrap (t1.2.1 + t1.1))) - (Int.toNat t1.2.1)) (List.drop (Int.toNat t1.2.1) a1)), IntKind.i64.wrap (t1.2.1 + t1.1), true, ())
     else none
/- loop.example/g00118/spec.UrlOk -/
def f_spec_UrlOk_l0 : ByteArray × Int × Unit → Option (Bool × Unit)
  | (x0, x1, ()) =>
   if decide (x1 < (ByteArray.size x0 : Int)) then
    if within x1 (ByteArray.size x0) then
     if decide ((bt x0 x1.toNat) < 33) then
      some (false, ())
     else
      if within x1 (ByteArray.size x0) then
       if decide ((bt x0 x1.toNat) > 126) then
        some (false, ())
       else
        f_spec_UrlOk_l0 (x0, IntKind.i64.wrap (x1 + 1), ())
      else none
    else none
   else
    some (true, ())
  partial_fixpoint
def f_spec_UrlOk : ByteArray × Unit → Option (Bool × Unit)
  | (a0, ()) =>
   f_spec_l1In ((ByteArray.size a0 : Int), 1, 60, ()) >>= fun t1 =>
   if !t1.1 then
    some (false, ())
   else
    f_spec_UrlOk_l0 (a0, 0, ())
/- loop.example/g00118/spec.PutText -/
def f_spec_PutText : ByteArray × Unit → Option (List Int × Unit)
  | (a0, ()) =>
   f_spec_PutNum ((ByteArray.size a0 : Int), ()) >>= fun t1 =>
   if decide (ByteArray.size a0 ≤ most) then
    if decide (t1.1.length + ((bytesI a0).length) ≤ most) then
     some (t1.1 ++ (bytesI a0), ())
    else none
   else none
/- loop.example/g00118/spec.RecordPack -/
def f_spec_RecordPack : Int × ByteArray × ByteArray × Unit → Option (Bool × List Int × Unit)
  | (a0, a1, a2, ()) =>
   if a0 != 1 then
    if a0 != 2 then
     some (false, [], ())
    else
     f_spec_UrlOk (a1, ()) >>= fun t1 =>
     if !t1.1 then
      some (false, [], ())
     else
      if a0 == 2 then
       if !(strEq a2 (⟨#[]⟩ : ByteArray)) then
        some (false, [], ())
       else
        f_spec_PutNum (a0, ()) >>= fun t2 =>
        f_spec_PutText (a1, ()) >>= fun t3 =>
        if decide (t2.1.length + t3.1.length ≤ most) then
         if a0 == 1 then
          f_spec_PutText (a2, ()) >>= fun t4 =>
          if decide (((t2.1 ++ t3.1).length) + t4.1.length ≤ most) then
           some (true, (t2.1 ++ t3.1) ++ t4.1, ())
          else none
         else
          some (true, t2.1 ++ t3.1, ())
        else none
      else
       f_spec_PutNum (a0, ()) >>= fun t5 =>
       f_spec_PutText (a1, ()) >>= fun t6 =>
       if decide (t5.1.length + t6.1.length ≤ most) then
        if a0 == 1 then
         f_spec_PutText (a2, ()) >>= fun t7 =>
         if decide (((t5.1 ++ t6.1).length) + t7.1.length ≤ most) then
          some (true, (t5.1 ++ t6.1) ++ t7.1, ())
         else none
        else
         some (true, t5.1 ++ t6.1, ())
       else none
   else
    f_spec_UrlOk (a1, ()) >>= fun t8 =>
    if !t8.1 then
     some (false, [], ())
    else
     if a0 == 2 then
      if !(strEq a2 (⟨#[]⟩ : ByteArray)) then
       some (false, [], ())
      else
       f_spec_PutNum (a0, ()) >>= fun t9 =>
       f_spec_PutText (a1, ()) >>= fun t10 =>
       if decide (t9.1.length + t10.1.length ≤ most) then
        if a0 == 1 then
         f_spec_PutText (a2, ()) >>= fun t11 =>
         if decide (((t9.1 ++ t10.1).length) + t11.1.length ≤ most) then
          some (true, (t9.1 ++ t10.1) ++ t11.1, ())
         else none
        else
         some (true, t9.1 ++ t10.1, ())
       else none
     else
      f_spec_PutNum (a0, ()) >>= fun t12 =>
      f_spec_PutText (a1, ()) >>= fun t13 =>
      if decide (t12.1.length + t13.1.length ≤ most) then
       if a0 == 1 then
        f_spec_PutText (a2, ()) >>= fun t14 =>
        if decide (((t12.1 ++ t13.1).length) + t14.1.length ≤ most) then
         some (true, (t12.1 ++ t13.1) ++ t14.1, ())
        else none
       else
        some (true, t12.1 ++ t13.1, ())
      else none
/- loop.example/g00118/spec.RecordRead -/
def f_spec_RecordRead : Int × List Int × Unit → Option (Int × ByteArray × ByteArray × Int × Bool × Unit)
  | (a0, a1, ()) =>
   f_spec_GetNum (a0, a1, ()) >>= fun t1 =>
   if !t1.2.2.1 then
    some (0, (⟨#[]⟩ : ByteArray), (⟨#[]⟩ : ByteArray), 0, false, ())
   else
    f_spec_GetText (t1.2.1, a1, ()) >>= fun t2 =>
    if !t2.2.2.1 then
     some (0, (⟨#[]⟩ : ByteArray), (⟨#[]⟩ : ByteArray), 0, false, ())
    else
     if t1.1 == 1 then
      f_spec_GetText (t2.2.1, a1, ()) >>= fun t3 =>
      if !t3.2.2.1 then
       some (0, (⟨#[]⟩ : ByteArray), (⟨#[]⟩ : ByteArray), 0, false, ())
      else
       f_spec_RecordPack (t1.1, t2.1, t3.1, ()) >>= fun t4 =>
       if !t4.1 then
        some (0, (⟨#[]⟩ : ByteArray), (⟨#[]⟩ : ByteArray), 0, false, ())
       else
        some (t1.1, t2.1, t3.1, t3.2.1, true, ())
     else
      f_spec_RecordPack (t1.1, t2.1, (⟨#[]⟩ : ByteArray), ()) >>= fun t5 =>
      if !t5.1 then
       some (0, (⟨#[]⟩ : ByteArray), (⟨#[]⟩ : ByteArray), 0, false, ())
      else
       some (t1.1, t2.1, (⟨#[]⟩ : ByteArray), t2.2.1, true, ())
/- loop.example/g00118/spec.Records -/
def f_spec_Records_l0 : Int × List Int × List (Int × ByteArray × ByteArray) × Unit → Option (Bool × List (Int × ByteArray × ByteArray) × Unit)
  | (x0, x1, x2, ()) =>
   if decide (x0 < (x1.length : Int)) then
    f_spec_RecordRead (x0, x1, ()) >>= fun t1 =>
    if !t1.2.2.2.2.1 then
     some (false, [], ())
    else
     if decide (x2.length + 1 ≤ most) then
      f_spec_Records_l0 (t1.2.2.2.1, x1, x2 ++ ([(t1.1, t1.2.1, t1.2.2.1)]), ())
     else none
   else
    some (true, x2, ())
  partial_fixpoint
def f_spec_Records : List Int × Unit → Option (Bool × List (Int × ByteArray × ByteArray) × Unit)
  | (a0, ()) =>
   f_spec_Records_l0 (0, a0, [], ())
/- loop.example/g00118/spec.IndexOf -/
mutual
def f_spec_IndexOf_l0 : Int × List (Int × ByteArray × ByteArray) × List (ByteArray × ByteArray) × Unit → Option (List (ByteArray × ByteArray) × Unit)
  | (x0, x1, x2, ()) =>
   if decide (x0 < (x1.length : Int)) then
    if within x0 x1.length then
     f_spec_IndexOf_l1 (x0, ((List.getD x1 x0.toNat (0, ByteArray.empty, ByteArray.empty)).1) != 1, 0, x1, x2, [], ())
    else none
   else
    some (x2, ())
  partial_fixpoint
def f_spec_IndexOf_l1 : Int × Bool × Int × List (Int × ByteArray × ByteArray) × List (ByteArray × ByteArray) × List (ByteArray × ByteArray) × Unit → Option (List (ByteArray × ByteArray) × Unit)
  | (x0, x1, x2, x3, x4, x5, ()) =>
   if decide (x2 < (x4.length : Int)) then
    if !x1 then
     if within x2 x4.length then
      if within x0 x3.length then
       if !(strLt ((List.getD x4 x2.toNat (ByteArray.empty, ByteArray.empty)).1) ((List.getD x3 x0.toNat (0, ByteArray.empty, ByteArray.empty)).2.1)) then
        if within x0 x3.length then
         if within x0 x3.length then
          if decide (x5.length + 1 ≤ most) then
           if within x2 x4.length then
            if within x0 x3.length then
             if !(strEq ((List.getD x4 x2.toNat (ByteArray.empty, ByteArray.empty)).1) ((List.getD x3 x0.toNat (0, ByteArray.empty, ByteArray.empty)).2.1)) then
              if within x2 x4.length then
               if decide (((x5 ++ ([((List.getD x3 x0.toNat (0, ByteArray.empty, ByteArray.empty)).2.1, (List.getD x3 x0.toNat (0, ByteArray.empty, ByteArray.empty)).2.2)])).length) + 1 ≤ most) then
                f_spec_IndexOf_l1 (x0, true, IntKind.i64.wrap (x2 + 1), x3, x4, (x5 ++ ([((List.getD x3 x0.toNat (0, ByteArray.empty, ByteArray.empty)).2.1, (List.getD x3 x0.toNat (0, ByteArray.empty, ByteArray.empty)).2.2)])) ++ ([((List.getD x4 x2.toNat (ByteArray.empty, ByteArray.empty)).1, (List.getD x4 x2.toNat (ByteArray.empty, ByteArray.empty)).2)]), ())
               else none
              else none
             else
              f_spec_IndexOf_l1 (x0, true, IntKind.i64.wrap (x2 + 1), x3, x4, x5 ++ ([((List.getD x3 x0.toNat (0, ByteArray.empty, ByteArray.empty)).2.1, (List.getD x3 x0.toNat (0, ByteArray.empty, ByteArray.empty)).2.2)]), ())
            else none
           else none
          else none
         else none
        else none
       else
        if within x2 x4.length then
         if within x0 x3.length then
          if !(strEq ((List.getD x4 x2.toNat (ByteArray.empty, ByteArray.empty)).1) ((List.getD x3 x0.toNat (0, ByteArray.empty, ByteArray.empty)).2.1)) then
           if within x2 x4.length then
            if decide (x5.length + 1 ≤ most) then
             f_spec_IndexOf_l1 (x0, x1, IntKind.i64.wrap (x2 + 1), x3, x4, x5 ++ ([((List.getD x4 x2.toNat (ByteArray.empty, ByteArray.empty)).1, (List.getD x4 x2.toNat (ByteArray.empty, ByteArray.empty)).2)]), ())
            else none
           else none
          else
           f_spec_IndexOf_l1 (x0, x1, IntKind.i64.wrap (x2 + 1), x3, x4, x5, ())
         else none
        else none
      else none
     else none
    else
     if within x2 x4.length then
      if within x0 x3.length then
       if !(strEq ((List.getD x4 x2.toNat (ByteArray.empty, ByteArray.empty)).1) ((List.getD x3 x0.toNat (0, ByteArray.empty, ByteArray.empty)).2.1)) then
        if within x2 x4.length then
         if decide (x5.length + 1 ≤ most) then
          f_spec_IndexOf_l1 (x0, x1, IntKind.i64.wrap (x2 + 1), x3, x4, x5 ++ ([((List.getD x4 x2.toNat (ByteArray.empty, ByteArray.empty)).1, (List.getD x4 x2.toNat (ByteArray.empty, ByteArray.empty)).2)]), ())
         else none
        else none
       else
        f_spec_IndexOf_l1 (x0, x1, IntKind.i64.wrap (x2 + 1), x3, x4, x5, ())
      else none
     else none
   else
    if !x1 then
     if within x0 x3.length then
      if within x0 x3.length then
       if decide (x5.length + 1 ≤ most) then
        f_spec_IndexOf_l0 (IntKind.i64.wrap (x0 + 1), x3, x5 ++ ([((List.getD x3 x0.toNat (0, ByteArray.empty, ByteArray.empty)).2.1, (List.getD x3 x0.toNat (0, ByteArray.empty, ByteArray.empty)).2.2)]), ())
       else none
      else none
     else none
    else
     f_spec_IndexOf_l0 (IntKind.i64.wrap (x0 + 1), x3, x5, ())
  partial_fixpoint
end
def f_spec_IndexOf : List (Int × ByteArray × ByteArray) × Unit → Option (List (ByteArray × ByteArray) × Unit)
  | (a0, ()) =>
   f_spec_IndexOf_l0 (0, a0, [], ())
/- loop.example/g00118/spec.l18SameList -/
def f_spec_l18SameList_l0 : Int × List (ByteArray × ByteArray) × List (ByteArray × ByteArray) × Unit → Option (Bool × Unit)
  | (x0, x1, x2, ()) =>
   if decide (x0 < (x1.length : Int)) then
    if within x0 x1.length then
     if within x0 x2.length then
      if !((strEq ((List.getD x1 x0.toNat (ByteArray.empty, ByteArray.empty)).1) ((List.getD x2 x0.toNat (ByteArray.empty, ByteArray.empty)).1)) && ((strEq ((List.getD x1 x0.toNat (ByteArray.empty, ByteArray.empty)).2) ((List.getD x2 x0.toNat (ByteArray.empty, ByteArray.empty)).2)) && true)) then
       some (false, ())
      else
       f_spec_l18SameList_l0 (IntKind.i64.wrap (x0 + 1), x1, x2, ())
     else none
    else none
   else
    some (true, ())
  partial_fixpoint
def f_spec_l18SameList : List (ByteArray × ByteArray) × List (ByteArray × ByteArray) × Unit → Option (Bool × Unit)
  | (a0, a1, ()) =>
   if (a0.length : Int) != (a1.length : Int) then
    some (false, ())
   else
    f_spec_l18SameList_l0 (0, a0, a1, ())
/- loop.example/g00118/spec.ArchiveOk -/
def f_spec_ArchiveOk : Bool × Int × Int × Int × List ByteArray × List (Int × ByteArray) × List (ByteArray × ByteArray) × Unit → Option (Bool × Unit)
  | (a0, a1, a2, a3, a4, a5, a6, ()) =>
   f_spec_DiskOk (a4, a5, ()) >>= fun t1 =>
   if !t1.1 then
    some (false, ())
   else
    if decide ((a5.length : Int) > 0) then
     some (false, ())
    else
     if !a0 then
      if (a1 == 0) && ((a2 == 0) && ((a3 == 0) && true)) then
       some ((a6.length : Int) == 0, ())
      else
       some (false, ())
     else
      f_spec_l16Right (a1, a2, a3, ()) >>= fun t2 =>
      if !t2.1 then
       some (false, ())
      else
       f_spec_HeadNow (a4, a5, ()) >>= fun t3 =>
       if !((t3.1 == a1) && ((t3.2.1 == a2) && ((t3.2.2.1 == a3) && true))) then
        some (false, ())
       else
        f_spec_l18Bytes (a1, a2, a3, a4, a5, ()) >>= fun t4 =>
        f_spec_Records (t4.1, ()) >>= fun t5 =>
        if t5.1 then
         f_spec_IndexOf (t5.2.1, ()) >>= fun t6 =>
         f_spec_l18SameList (t6.1, a6, ()) >>= fun t7 =>
         some (t7.1, ())
        else
         some (false, ())
/- loop.example/g00118/impl.inRange -/
def f_impl_inRange : Int × Int × Int × Unit → Option (Bool × Unit)
  | (a0, a1, a2, ()) =>
   if decide (a0 ≥ a1) then
    some (decide (a0 ≤ a2), ())
   else
    some (false, ())
/- loop.example/g00118/impl.isSector -/
def f_impl_isSector : Int × Unit → Option (Bool × Unit)
  | (a0, ()) =>
   f_impl_inRange (a0, 0, 129, ()) >>= fun t1 =>
   some (t1.1, ())
/- loop.example/g00118/impl.DiskOk -/
def f_impl_DiskOk_l1 : Int × Int × List ByteArray × List (Int × ByteArray) × Unit → Option (Bool × Unit)
  | (x0, x1, x2, x3, ()) =>
   if decide (x1 < x0) then
    if within x1 x3.length then
     f_impl_isSector ((List.getD x3 x1.toNat (0, ByteArray.empty)).1, ()) >>= fun t1 =>
     if !t1.1 then
      some (false, ())
     else
      if (ByteArray.size ((List.getD x3 x1.toNat (0, ByteArray.empty)).2) : Int) != 64 then
       some (false, ())
      else
       f_impl_DiskOk_l1 (x0, IntKind.i64.wrap (x1 + 1), x2, x3, ())
    else none
   else
    if (x2.length : Int) == 130 then
     some (decide ((x3.length : Int) ≤ 200), ())
    else
     some (false, ())
  partial_fixpoint
def f_impl_DiskOk_l0 : Int × Int × List ByteArray × List (Int × ByteArray) × Unit → Option (Bool × Unit)
  | (x0, x1, x2, x3, ()) =>
   if decide (x1 < x0) then
    if within x1 x2.length then
     if (ByteArray.size (List.getD x2 x1.toNat ByteArray.empty) : Int) != 64 then
      some (false, ())
     else
      f_impl_DiskOk_l0 (x0, IntKind.i64.wrap (x1 + 1), x2, x3, ())
    else none
   else
    f_impl_DiskOk_l1 ((x3.length : Int), 0, x2, x3, ())
  partial_fixpoint
def f_impl_DiskOk : List ByteArray × List (Int × ByteArray) × Unit → Option (Bool × Unit)
  | (a0, a1, ()) =>
   f_impl_DiskOk_l0 ((a0.length : Int), 0, a0, a1, ())
/- loop.example/g00118/impl.isArea -/
def f_impl_isArea : Int × Unit → Option (Bool × Unit)
  | (a0, ()) =>
   if a0 == 0 then
    some (true, ())
   else
    some (a0 == 1, ())
/- loop.example/g00118/impl.headOk -/
def f_impl_headOk : Int × Int × Int × Unit → Option (Bool × Unit)
  | (a0, a1, a2, ()) =>
   f_impl_inRange (a0, 1, 1000000000, ()) >>= fun t1 =>
   if t1.1 then
    f_impl_isArea (a1, ()) >>= fun t2 =>
    if t2.1 then
     f_impl_inRange (a2, 0, 4096, ()) >>= fun t3 =>
     some (t3.1, ())
    else
     some (false, ())
   else
    some (false, ())
/- (*loop.example/g00118/impl.Disk).sector -/
def f_impl_Disk_sector_l0 : Int × Int × List ByteArray × List (Int × ByteArray) × Unit → Option (ByteArray × Unit)
  | (x0, x1, x2, x3, ()) =>
   if decide (x1 ≥ 0) then
    if within x1 x3.length then
     if ((List.getD x3 x1.toNat (0, ByteArray.empty)).1) == x0 then
      if within x1 x3.length then
       some ((List.getD x3 x1.toNat (0, ByteArray.empty)).2, ())
      else none
     else
      f_impl_Disk_sector_l0 (x0, IntKind.i64.wrap (x1 - 1), x2, x3, ())
    else none
   else
    if within x0 x2.length then
     some (List.getD x2 x0.toNat ByteArray.empty, ())
    else none
  partial_fixpoint
def f_impl_Disk_sector : Int × List ByteArray × List (Int × ByteArray) × Unit → Option (ByteArray × Unit)
  | (a0, a1, a2, ()) =>
   f_impl_Disk_sector_l0 (a0, IntKind.i64.wrap ((a2.length : Int) - 1), a1, a2, ())
/- loop.example/g00118/impl.GetNum -/
def f_impl_GetNum_l0 : Int × Int × Int × List Int × Unit → Option (Int × Int × Bool × Unit)
  | (x0, x1, x2, x3, ()) =>
   if decide (x2 < 9) then
    if decide (x0 < (x3.length : Int)) then
     if within x0 x3.length then
      if decide ((0 : Int) ≤ (IntKind.u64.wrap (IntKind.i64.wrap (7 * x2)))) then
       if decide ((IntKind.i64.wrap (List.getD x3 x0.toNat 0)) < 128) then
        if (IntKind.i64.wrap (List.getD x3 x0.toNat 0)) == 0 then
         if decide (x2 > 0) then
          some (0, 0, false, ())
         else
          some (bitOp .or .i64 x1 (IntKind.i64.wrap ((bitOp .and .i64 (IntKind.i64.wrap (List.getD x3 x0.toNat 0)) 127) * ((2 : Int) ^ (min (Int.toNat (IntKind.u64.wrap (IntKind.i64.wrap (7 * x2)))) 64)))), IntKind.i64.wrap (x0 + 1), true, ())
        else
         some (bitOp .or .i64 x1 (IntKind.i64.wrap ((bitOp .and .i64 (IntKind.i64.wrap (List.getD x3 x0.toNat 0)) 127) * ((2 : Int) ^ (min (Int.toNat (IntKind.u64.wrap (IntKind.i64.wrap (7 * x2)))) 64)))), IntKind.i64.wrap (x0 + 1), true, ())
       else
        f_impl_GetNum_l0 (IntKind.i64.wrap (x0 + 1), bitOp .or .i64 x1 (IntKind.i64.wrap ((bitOp .and .i64 (IntKind.i64.wrap (List.getD x3 x0.toNat 0)) 127) * ((2 : Int) ^ (min (Int.toNat (IntKind.u64.wrap (IntKind.i64.wrap (7 * x2)))) 64)))), IntKind.i64.wrap (x2 + 1), x3, ())
      else none
     else none
    else
     some (0, 0, false, ())
   else
    some (0, 0, false, ())
  partial_fixpoint
def f_impl_GetNum : Int × List Int × Unit → Option (Int × Int × Bool × Unit)
  | (a0, a1, ()) =>
   f_impl_inRange (a0, 0, IntKind.i64.wrap ((a1.length : Int) - 1), ()) >>= fun t1 =>
   if !t1.1 then
    some (0, 0, false, ())
   else
    f_impl_GetNum_l0 (a0, 0, 0, a1, ())
/- (*loop.example/g00118/impl.getter).num -/
def f_impl_getter_num : List Int × Int × Bool × Unit → Option (Int × Int × Bool × Unit)
  | (a0, a1, a2, ()) =>
   f_impl_GetNum (a1, a0, ()) >>= fun t1 =>
   if a2 then
    some (0, a1, true, ())
   else
    if !t1.2.2.1 then
     some (0, a1, true, ())
    else
     some (t1.1, t1.2.1, a2, ())
/- loop.example/g00118/impl.putNum -/
def f_impl_putNum_l0 : Int × List Int × Unit → Option (List Int × Unit)
  | (x0, x1, ()) =>
   if decide (x0 > 127) then
    if decide (x1.length + 1 ≤ most) then
     f_impl_putNum_l0 (Int.fdiv x0 128, x1 ++ ([IntKind.u8.wrap (bitOp .or .i64 128 (bitOp .and .i64 x0 127))]), ())
    else none
   else
    if decide (x1.length + 1 ≤ most) then
     some (x1 ++ ([IntKind.u8.wrap x0]), ())
    else none
  partial_fixpoint
def f_impl_putNum : Int × List Int × Unit → Option (List Int × Unit)
  | (a0, a1, ()) =>
   f_impl_putNum_l0 (a0, a1, ())
def f_strings_Repeat : ByteArray × Int × Unit → Option (ByteArray × Unit) := repFn
/- loop.example/g00118/impl.HeadPack -/
def f_impl_HeadPack : Int × Int × Int × Unit → Option (ByteArray × Bool × Unit)
  | (a0, a1, a2, ()) =>
   f_impl_headOk (a0, a1, a2, ()) >>= fun t1 =>
   if !t1.1 then
    some ((⟨#[]⟩ : ByteArray), false, ())
   else
    f_impl_putNum (a0, [], ()) >>= fun t2 =>
    f_impl_putNum (a1, t2.1, ()) >>= fun t3 =>
    f_impl_putNum (a2, t3.1, ()) >>= fun t4 =>
    f_strings_Repeat ((⟨#[0]⟩ : ByteArray), IntKind.i64.wrap (64 - (t4.1.length : Int)), ()) >>= fun t5 =>
    if decide (ByteArray.size (strOf t4.1) + ByteArray.size t5.1 ≤ most) then
     some ((strOf t4.1) ++ t5.1, true, ())
    else none
/- loop.example/g00118/impl.HeadRead -/
def f_impl_HeadRead : ByteArray × Unit → Option (Int × Int × Int × Bool × Unit)
  | (a0, ()) =>
   if decide (ByteArray.size a0 ≤ most) then
    f_impl_getter_num (bytesI a0, 0, false, ()) >>= fun t1 =>
    f_impl_getter_num (bytesI a0, t1.2.1, t1.2.2.1, ()) >>= fun t2 =>
    f_impl_getter_num (bytesI a0, t2.2.1, t2.2.2.1, ()) >>= fun t3 =>
    f_impl_HeadPack (t1.1, t2.1, t3.1, ()) >>= fun t4 =>
    if t3.2.2.1 then
     some (0, 0, 0, false, ())
    else
     if !t4.2.1 then
      some (0, 0, 0, false, ())
     else
      if !(strEq t4.1 a0) then
       some (0, 0, 0, false, ())
      else
       some (t1.1, t2.1, t3.1, true, ())
   else none
/- loop.example/g00118/impl.HeadNow -/
def f_impl_HeadNow_l0 : Int × List ByteArray × List (Int × ByteArray) × Int × Int × Int × Int × Int × Int × Unit → Option (Int × Int × Int × Unit)
  | (x0, x1, x2, x3, x4, x5, x6, x7, x8, ()) =>
   if decide (x0 < 2) then
    f_impl_Disk_sector (x0, x1, x2, ()) >>= fun t2 =>
    f_impl_HeadRead (t2.1, ()) >>= fun t3 =>
    if t3.2.2.2.1 then
     if decide (t3.1 > x6) then
      f_impl_HeadNow_l0 (IntKind.i64.wrap (x0 + 1), x1, x2, x3, x4, x5, t3.1, t3.2.1, t3.2.2.1, ())
     else
      f_impl_HeadNow_l0 (IntKind.i64.wrap (x0 + 1), x1, x2, x3, x4, x5, x6, x7, x8, ())
    else
     f_impl_HeadNow_l0 (IntKind.i64.wrap (x0 + 1), x1, x2, x3, x4, x5, x6, x7, x8, ())
   else
    some (x6, x7, x8, ())
  partial_fixpoint
def f_impl_HeadNow : List ByteArray × List (Int × ByteArray) × Unit → Option (Int × Int × Int × Unit)
  | (a0, a1, ()) =>
   f_impl_DiskOk (a0, a1, ()) >>= fun t1 =>
   if !t1.1 then
    some (0, 0, 0, ())
   else
    f_impl_HeadNow_l0 (0, a0, a1, 0, 0, 0, 0, 0, 0, ())
/- loop.example/g00118/impl.fitsArea -/
def f_impl_fitsArea : Int × Int × Int × Unit → Option (Bool × Unit)
  | (a0, a1, a2, ()) =>
   f_impl_isArea (a0, ()) >>= fun t1 =>
   if t1.1 then
    f_impl_inRange (a1, 0, 4096, ()) >>= fun t2 =>
    if t2.1 then
     f_impl_inRange (a2, 0, IntKind.i64.wrap (4096 - a1), ()) >>= fun t3 =>
     some (t3.1, ())
    else
     some (false, ())
   else
    some (false, ())
/- loop.example/g00118/impl.first -/
def f_impl_first : Int × Unit → Option (Int × Unit)
  | (a0, ()) =>
   some (IntKind.i64.wrap (2 + (IntKind.i64.wrap (64 * a0))), ())
/- (*loop.example/g00118/impl.Disk).area -/
def f_impl_Disk_area_l0 : Int × Int × Int × List ByteArray × List (Int × ByteArray) × List Int × Unit → Option (List Int × Unit)
  | (x0, x1, x2, x3, x4, x5, ()) =>
   if decide (x2 > 0) then
    f_impl_first (x0, ()) >>= fun t1 =>
    f_impl_Disk_sector (IntKind.i64.wrap (t1.1 + (IntKind.i64.wrap (Int.tdiv x1 64))), x3, x4, ()) >>= fun t2 =>
    if (decide ((0 : Int) ≤ (Int.tmod x1 64))) && ((decide ((Int.tmod x1 64) ≤ (IntKind.i64.wrap ((Int.tmod x1 64) + (if (IntKind.i64.wrap (64 - (Int.tmod x1 64))) < x2 then IntKind.i64.wrap (64 - (Int.tmod x1 64)) else x2))))) && (decide ((IntKind.i64.wrap ((Int.tmod x1 64) + (if (IntKind.i64.wrap (64 - (Int.tmod x1 64))) < x2 then IntKind.i64.wrap (64 - (Int.tmod x1 64)) else x2))) ≤ (ByteArray.size t2.1 : Int)))) then
     if decide (x5.length + ((bytesI (ByteArray.extract t2.1 (Int.toNat (Int.tmod x1 64)) (Int.toNat (IntKind.i64.wrap ((Int.tmod x1 64) + (if (IntKind.i64.wrap (64 - (Int.tmod x1 64))) < x2 then IntKind.i64.wrap (64 - (Int.tmod x1 64)) else x2)))))).length) ≤ most) then
      f_impl_Disk_area_l0 (x0, IntKind.i64.wrap (x1 + (if (IntKind.i64.wrap (64 - (Int.tmod x1 64))) < x2 then IntKind.i64.wrap (64 - (Int.tmod x1 64)) else x2)), IntKind.i64.wrap (x2 - (if (IntKind.i64.wrap (64 - (Int.tmod x1 64))) < x2 then IntKind.i64.wrap (64 - (Int.tmod x1 64)) else x2)), x3, x4, x5 ++ (bytesI (ByteArray.extract t2.1 (Int.toNat (Int.tmod x1 64)) (Int.toNat (IntKind.i64.wrap ((Int.tmod x1 64) + (if (IntKind.i64.wrap (64 - (Int.tmod x1 64))) < x2 then IntKind.i64.wrap (64 - (Int.tmod x1 64)) else x2)))))), ())
     else none
    else none
   else
    some (x5, ())
  partial_fixpoint
def f_impl_Disk_area : Int × Int × Int × List ByteArray × List (Int × ByteArray) × Unit → Option (List Int × Unit)
  | (a0, a1, a2, a3, a4, ()) =>
   f_impl_Disk_area_l0 (a0, a1, a2, a3, a4, [], ())
/- loop.example/g00118/impl.AreaGet -/
def f_impl_AreaGet : Int × Int × Int × List ByteArray × List (Int × ByteArray) × Unit → Option (Bool × List Int × Unit)
  | (a0, a1, a2, a3, a4, ()) =>
   f_impl_fitsArea (a0, a1, a2, ()) >>= fun t1 =>
   if !t1.1 then
    some (false, [], ())
   else
    f_impl_DiskOk (a3, a4, ()) >>= fun t2 =>
    if !t2.1 then
     some (false, [], ())
    else
     f_impl_Disk_area (a0, a1, a2, a3, a4, ()) >>= fun t3 =>
     some (true, t3.1, ())
/- loop.example/g00118/impl.GetText -/
def f_impl_GetText : Int × List Int × Unit → Option (ByteArray × Int × Bool × Unit)
  | (a0, a1, ()) =>
   f_impl_GetNum (a0, a1, ()) >>= fun t1 =>
   if !t1.2.2.1 then
    some ((⟨#[]⟩ : ByteArray), 0, false, ())
   else
    if decide (t1.1 > (IntKind.i64.wrap ((a1.length : Int) - t1.2.1))) then
     some ((⟨#[]⟩ : ByteArray), 0, false, ())
    else
     if (decide ((0 : Int) ≤ t1.2.1)) && ((decide (t1.2.1 ≤ (IntKind.i64.wrap (t1.2.1 + t1.1)))) && (decide ((IntKind.i64.wrap (t1.2.1 + t1.1)) ≤ (a1.length : Int)))) then
      some (strOf (List.take ((Int.toNat (IntKind.i64.wrap (t1.2.1 + t1.1))) - (Int.toNat t1.2.1)) (List.drop (Int.toNat t1.2.1) a1)), IntKind.i64.wrap (t1.2.1 + t1.1), true, ())
     else none
/- (*loop.example/g00118/impl.getter).text -/
def f_impl_getter_text : List Int × Int × Bool × Unit → Option (ByteArray × Int × Bool × Unit)
  | (a0, a1, a2, ()) =>
   f_impl_GetText (a1, a0, ()) >>= fun t1 =>
   if a2 then
    some ((⟨#[]⟩ : ByteArray), a1, true, ())
   else
    if !t1.2.2.1 then
     some ((⟨#[]⟩ : ByteArray), a1, true, ())
    else
     some (t1.1, t1.2.1, a2, ())
/- loop.example/g00118/impl.UrlOk -/
def f_impl_UrlOk_l0 : ByteArray × Int × Unit → Option (Bool × Unit)
  | (x0, x1, ()) =>
   if decide (x1 < (ByteArray.size x0 : Int)) then
    if within x1 (ByteArray.size x0) then
     if decide ((bt x0 x1.toNat) < 33) then
      some (false, ())
     else
      if within x1 (ByteArray.size x0) then
       if decide ((bt x0 x1.toNat) > 126) then
        some (false, ())
       else
        f_impl_UrlOk_l0 (x0, IntKind.i64.wrap (x1 + 1), ())
      else none
    else none
   else
    f_impl_inRange ((ByteArray.size x0 : Int), 1, 60, ()) >>= fun t1 =>
    some (t1.1, ())
  partial_fixpoint
def f_impl_UrlOk : ByteArray × Unit → Option (Bool × Unit)
  | (a0, ()) =>
   f_impl_UrlOk_l0 (a0, 0, ())
/- loop.example/g00118/impl.putText -/
def f_impl_putText : ByteArray × List Int × Unit → Option (List Int × Unit)
  | (a0, a1, ()) =>
   f_impl_putNum ((ByteArray.size a0 : Int), a1, ()) >>= fun t1 =>
   if decide (t1.1.length + ((bytesI a0).length) ≤ most) then
    some (t1.1 ++ (bytesI a0), ())
   else none
/- loop.example/g00118/impl.RecordPack -/
def f_impl_RecordPack : Int × ByteArray × ByteArray × Unit → Option (Bool × List Int × Unit)
  | (a0, a1, a2, ()) =>
   f_impl_inRange (a0, 1, 2, ()) >>= fun t1 =>
   if !t1.1 then
    some (false, [], ())
   else
    f_impl_UrlOk (a1, ()) >>= fun t2 =>
    if !t2.1 then
     some (false, [], ())
    else
     if a0 == 2 then
      if !(strEq a2 (⟨#[]⟩ : ByteArray)) then
       some (false, [], ())
      else
       f_impl_putNum (a0, [], ()) >>= fun t3 =>
       f_impl_putText (a1, t3.1, ()) >>= fun t4 =>
       if a0 == 1 then
        f_impl_putText (a2, t4.1, ()) >>= fun t5 =>
        some (true, t5.1, ())
       else
        some (true, t4.1, ())
     else
      f_impl_putNum (a0, [], ()) >>= fun t6 =>
      f_impl_putText (a1, t6.1, ()) >>= fun t7 =>
      if a0 == 1 then
       f_impl_putText (a2, t7.1, ()) >>= fun t8 =>
       some (true, t8.1, ())
      else
       some (true, t7.1, ())
/- loop.example/g00118/impl.RecordRead -/
def f_impl_RecordRead : Int × List Int × Unit → Option (Int × ByteArray × ByteArray × Int × Bool × Unit)
  | (a0, a1, ()) =>
   f_impl_getter_num (a1, a0, false, ()) >>= fun t1 =>
   f_impl_getter_text (a1, t1.2.1, t1.2.2.1, ()) >>= fun t2 =>
   if t1.1 == 1 then
    f_impl_getter_text (a1, t2.2.1, t2.2.2.1, ()) >>= fun t3 =>
    f_impl_RecordPack (t1.1, t2.1, t3.1, ()) >>= fun t4 =>
    if t3.2.2.1 then
     some (0, (⟨#[]⟩ : ByteArray), (⟨#[]⟩ : ByteArray), 0, false, ())
    else
     if !t4.1 then
      some (0, (⟨#[]⟩ : ByteArray), (⟨#[]⟩ : ByteArray), 0, false, ())
     else
      some (t1.1, t2.1, t3.1, t3.2.1, true, ())
   else
    f_impl_RecordPack (t1.1, t2.1, (⟨#[]⟩ : ByteArray), ()) >>= fun t5 =>
    if t2.2.2.1 then
     some (0, (⟨#[]⟩ : ByteArray), (⟨#[]⟩ : ByteArray), 0, false, ())
    else
     if !t5.1 then
      some (0, (⟨#[]⟩ : ByteArray), (⟨#[]⟩ : ByteArray), 0, false, ())
     else
      some (t1.1, t2.1, (⟨#[]⟩ : ByteArray), t2.2.1, true, ())
/- loop.example/g00118/impl.Records -/
def f_impl_Records_l0 : Int × List Int × List (Int × ByteArray × ByteArray) × Unit → Option (Bool × List (Int × ByteArray × ByteArray) × Unit)
  | (x0, x1, x2, ()) =>
   if decide (x0 < (x1.length : Int)) then
    f_impl_RecordRead (x0, x1, ()) >>= fun t1 =>
    if !t1.2.2.2.2.1 then
     some (false, [], ())
    else
     if decide (x2.length + 1 ≤ most) then
      f_impl_Records_l0 (t1.2.2.2.1, x1, x2 ++ ([(t1.1, t1.2.1, t1.2.2.1)]), ())
     else none
   else
    some (true, x2, ())
  partial_fixpoint
def f_impl_Records : List Int × Unit → Option (Bool × List (Int × ByteArray × ByteArray) × Unit)
  | (a0, ()) =>
   f_impl_Records_l0 (0, a0, [], ())
/- loop.example/g00118/impl.entryAt -/
def f_impl_entryAt_l0 : ByteArray × Int × List (ByteArray × ByteArray) × Unit → Option (Int × Bool × Unit)
  | (x0, x1, x2, ()) =>
   if decide (x1 < (x2.length : Int)) then
    if within x1 x2.length then
     if strLt ((List.getD x2 x1.toNat (ByteArray.empty, ByteArray.empty)).1) x0 then
      f_impl_entryAt_l0 (x0, IntKind.i64.wrap (x1 + 1), x2, ())
     else
      if decide (x1 < (x2.length : Int)) then
       if within x1 x2.length then
        some (x1, strEq ((List.getD x2 x1.toNat (ByteArray.empty, ByteArray.empty)).1) x0, ())
       else none
      else
       some (x1, false, ())
    else none
   else
    if decide (x1 < (x2.length : Int)) then
     if within x1 x2.length then
      some (x1, strEq ((List.getD x2 x1.toNat (ByteArray.empty, ByteArray.empty)).1) x0, ())
     else none
    else
     some (x1, false, ())
  partial_fixpoint
def f_impl_entryAt : ByteArray × List (ByteArray × ByteArray) × Unit → Option (Int × Bool × Unit)
  | (a0, a1, ()) =>
   f_impl_entryAt_l0 (a0, 0, a1, ())
def f_slices_Delete_Entry : Int × Int × List (ByteArray × ByteArray) × Unit → Option (List (ByteArray × ByteArray) × Unit) := delFn (.cons (.str) (.one (.str)))
def f_slices_Insert_Entry : Int × List (ByteArray × ByteArray) × List (ByteArray × ByteArray) × Unit → Option (List (ByteArray × ByteArray) × Unit) := insFn (.cons (.str) (.one (.str)))
/- loop.example/g00118/impl.IndexOf -/
def f_impl_IndexOf_l0 : Int × Int × List (Int × ByteArray × ByteArray) × List (ByteArray × ByteArray) × Unit → Option (List (ByteArray × ByteArray) × Unit)
  | (x0, x1, x2, x3, ()) =>
   if decide (x1 < x0) then
    if within x1 x2.length then
     f_impl_entryAt ((List.getD x2 x1.toNat (0, ByteArray.empty, ByteArray.empty)).2.1, x3, ()) >>= fun t1 =>
     if t1.2.1 then
      f_slices_Delete_Entry (t1.1, IntKind.i64.wrap (t1.1 + 1), x3, ()) >>= fun t2 =>
      if ((List.getD x2 x1.toNat (0, ByteArray.empty, ByteArray.empty)).1) == 1 then
       f_slices_Insert_Entry (t1.1, t2.1, [((List.getD x2 x1.toNat (0, ByteArray.empty, ByteArray.empty)).2.1, (List.getD x2 x1.toNat (0, ByteArray.empty, ByteArray.empty)).2.2)], ()) >>= fun t3 =>
       f_impl_IndexOf_l0 (x0, IntKind.i64.wrap (x1 + 1), x2, t3.1, ())
      else
       f_impl_IndexOf_l0 (x0, IntKind.i64.wrap (x1 + 1), x2, t2.1, ())
     else
      if ((List.getD x2 x1.toNat (0, ByteArray.empty, ByteArray.empty)).1) == 1 then
       f_slices_Insert_Entry (t1.1, x3, [((List.getD x2 x1.toNat (0, ByteArray.empty, ByteArray.empty)).2.1, (List.getD x2 x1.toNat (0, ByteArray.empty, ByteArray.empty)).2.2)], ()) >>= fun t4 =>
       f_impl_IndexOf_l0 (x0, IntKind.i64.wrap (x1 + 1), x2, t4.1, ())
      else
       f_impl_IndexOf_l0 (x0, IntKind.i64.wrap (x1 + 1), x2, x3, ())
    else none
   else
    some (x3, ())
  partial_fixpoint
def f_impl_IndexOf : List (Int × ByteArray × ByteArray) × Unit → Option (List (ByteArray × ByteArray) × Unit)
  | (a0, ()) =>
   f_impl_IndexOf_l0 ((a0.length : Int), 0, a0, [], ())
/- loop.example/g00118/impl.listOf -/
def f_impl_listOf : Int × Int × Int × List ByteArray × List (Int × ByteArray) × Unit → Option (Bool × List (ByteArray × ByteArray) × Unit)
  | (a0, a1, a2, a3, a4, ()) =>
   f_impl_AreaGet (a1, 0, a2, a3, a4, ()) >>= fun t1 =>
   if !t1.1 then
    some (false, [], ())
   else
    f_impl_Records (t1.2.1, ()) >>= fun t2 =>
    f_impl_IndexOf (t2.2.1, ()) >>= fun t3 =>
    some (t2.1, t3.1, ())
/- slices.Equal[[]loop.example/g00118/impl.Entry,loop.example/g00118/impl.Entry] -/
def f_slices_Equal_Entry_l0 : Int × Int × List (ByteArray × ByteArray) × List (ByteArray × ByteArray) × Unit → Option (Bool × Unit)
  | (x0, x1, x2, x3, ()) =>
   if decide (x1 < x0) then
    if within x1 x2.length then
     if within x1 x3.length then
      if !((strEq ((List.getD x2 x1.toNat (ByteArray.empty, ByteArray.empty)).1) ((List.getD x3 x1.toNat (ByteArray.empty, ByteArray.empty)).1)) && ((strEq ((List.getD x2 x1.toNat (ByteArray.empty, ByteArray.empty)).2) ((List.getD x3 x1.toNat (ByteArray.empty, ByteArray.empty)).2)) && true)) then
       some (false, ())
      else
       f_slices_Equal_Entry_l0 (x0, IntKind.i64.wrap (x1 + 1), x2, x3, ())
     else none
    else none
   else
    some (true, ())
  partial_fixpoint
def f_slices_Equal_Entry : List (ByteArray × ByteArray) × List (ByteArray × ByteArray) × Unit → Option (Bool × Unit)
  | (a0, a1, ()) =>
   if (a0.length : Int) != (a1.length : Int) then
    some (false, ())
   else
    f_slices_Equal_Entry_l0 ((a0.length : Int), 0, a0, a1, ())
/- loop.example/g00118/impl.ArchiveOk -/
def f_impl_ArchiveOk : Bool × Int × Int × Int × List ByteArray × List (Int × ByteArray) × List (ByteArray × ByteArray) × Unit → Option (Bool × Unit)
  | (a0, a1, a2, a3, a4, a5, a6, ()) =>
   if decide ((a5.length : Int) > 0) then
    some (false, ())
   else
    f_impl_DiskOk (a4, a5, ()) >>= fun t1 =>
    if !t1.1 then
     some (false, ())
    else
     if !a0 then
      if (a1 == 0) && ((a2 == 0) && ((a3 == 0) && true)) then
       some ((a6.length : Int) == 0, ())
      else
       some (false, ())
     else
      f_impl_headOk (a1, a2, a3, ()) >>= fun t2 =>
      if !t2.1 then
       some (false, ())
      else
       f_impl_HeadNow (a4, a5, ()) >>= fun t3 =>
       if !((t3.1 == a1) && ((t3.2.1 == a2) && ((t3.2.2.1 == a3) && true))) then
        some (false, ())
       else
        f_impl_listOf (a1, a2, a3, a4, a5, ()) >>= fun t4 =>
        if t4.1 then
         f_slices_Equal_Entry (t4.2.1, a6, ()) >>= fun t5 =>
         some (t5.1, ())
        else
         some (false, ())
/- loop.example/g00118/laws.eqStringS -/
def f_laws_eqStringS_l0 : Int × List ByteArray × List ByteArray × Unit → Option (Bool × Unit)
  | (x0, x1, x2, ()) =>
   if decide (x0 < (x1.length : Int)) then
    if within x0 x1.length then
     if within x0 x2.length then
      if !(strEq (List.getD x1 x0.toNat ByteArray.empty) (List.getD x2 x0.toNat ByteArray.empty)) then
       some (false, ())
      else
       f_laws_eqStringS_l0 (IntKind.i64.wrap (x0 + 1), x1, x2, ())
     else none
    else none
   else
    some (true, ())
  partial_fixpoint
def f_laws_eqStringS : List ByteArray × List ByteArray × Unit → Option (Bool × Unit)
  | (a0, a1, ()) =>
   if (a0.length : Int) != (a1.length : Int) then
    some (false, ())
   else
    f_laws_eqStringS_l0 (0, a0, a1, ())
/- loop.example/g00118/laws.eqPut -/
def f_laws_eqPut : Int × ByteArray × Int × ByteArray × Unit → Option (Bool × Unit)
  | (a0, a1, a2, a3, ()) =>
   if a0 != a2 then
    some (false, ())
   else
    if !(strEq a1 a3) then
     some (false, ())
    else
     some (true, ())
/- loop.example/g00118/laws.eqPutS -/
def f_laws_eqPutS_l0 : Int × List (Int × ByteArray) × List (Int × ByteArray) × Unit → Option (Bool × Unit)
  | (x0, x1, x2, ()) =>
   if decide (x0 < (x1.length : Int)) then
    if within x0 x1.length then
     if within x0 x2.length then
      f_laws_eqPut ((List.getD x1 x0.toNat (0, ByteArray.empty)).1, (List.getD x1 x0.toNat (0, ByteArray.empty)).2, (List.getD x2 x0.toNat (0, ByteArray.empty)).1, (List.getD x2 x0.toNat (0, ByteArray.empty)).2, ()) >>= fun t1 =>
      if !t1.1 then
       some (false, ())
      else
       f_laws_eqPutS_l0 (IntKind.i64.wrap (x0 + 1), x1, x2, ())
     else none
    else none
   else
    some (true, ())
  partial_fixpoint
def f_laws_eqPutS : List (Int × ByteArray) × List (Int × ByteArray) × Unit → Option (Bool × Unit)
  | (a0, a1, ()) =>
   if (a0.length : Int) != (a1.length : Int) then
    some (false, ())
   else
    f_laws_eqPutS_l0 (0, a0, a1, ())
/- loop.example/g00118/laws.eqDisk -/
def f_laws_eqDisk : List ByteArray × List (Int × ByteArray) × List ByteArray × List (Int × ByteArray) × Unit → Option (Bool × Unit)
  | (a0, a1, a2, a3, ()) =>
   f_laws_eqStringS (a0, a2, ()) >>= fun t1 =>
   if !t1.1 then
    some (false, ())
   else
    f_laws_eqPutS (a1, a3, ()) >>= fun t2 =>
    if !t2.1 then
     some (false, ())
    else
     some (true, ())
/- loop.example/g00118/laws.eqHead -/
def f_laws_eqHead : Int × Int × Int × Int × Int × Int × Unit → Option (Bool × Unit)
  | (a0, a1, a2, a3, a4, a5, ()) =>
   if a0 != a3 then
    some (false, ())
   else
    if a1 != a4 then
     some (false, ())
    else
     if a2 != a5 then
      some (false, ())
     else
      some (true, ())
/- loop.example/g00118/laws.eqEntry -/
def f_laws_eqEntry : ByteArray × ByteArray × ByteArray × ByteArray × Unit → Option (Bool × Unit)
  | (a0, a1, a2, a3, ()) =>
   if !(strEq a0 a2) then
    some (false, ())
   else
    if !(strEq a1 a3) then
     some (false, ())
    else
     some (true, ())
/- loop.example/g00118/laws.eqEntryS -/
def f_laws_eqEntryS_l0 : Int × List (ByteArray × ByteArray) × List (ByteArray × ByteArray) × Unit → Option (Bool × Unit)
  | (x0, x1, x2, ()) =>
   if decide (x0 < (x1.length : Int)) then
    if within x0 x1.length then
     if within x0 x2.length then
      f_laws_eqEntry ((List.getD x1 x0.toNat (ByteArray.empty, ByteArray.empty)).1, (List.getD x1 x0.toNat (ByteArray.empty, ByteArray.empty)).2, (List.getD x2 x0.toNat (ByteArray.empty, ByteArray.empty)).1, (List.getD x2 x0.toNat (ByteArray.empty, ByteArray.empty)).2, ()) >>= fun t1 =>
      if !t1.1 then
       some (false, ())
      else
       f_laws_eqEntryS_l0 (IntKind.i64.wrap (x0 + 1), x1, x2, ())
     else none
    else none
   else
    some (true, ())
  partial_fixpoint
def f_laws_eqEntryS : List (ByteArray × ByteArray) × List (ByteArray × ByteArray) × Unit → Option (Bool × Unit)
  | (a0, a1, ()) =>
   if (a0.length : Int) != (a1.length : Int) then
    some (false, ())
   else
    f_laws_eqEntryS_l0 (0, a0, a1, ())
/- loop.example/g00118/laws.eqArchive -/
def f_laws_eqArchive : Bool × Int × Int × Int × Bool × Int × Int × Int × List ByteArray × List (Int × ByteArray) × List (ByteArray × ByteArray) × List ByteArray × List (Int × ByteArray) × List (ByteArray × ByteArray) × Unit → Option (Bool × Unit)
  | (a0, a1, a2, a3, a4, a5, a6, a7, a8, a9, a10, a11, a12, a13, ()) =>
   if !(a0 == a4) then
    some (false, ())
   else
    f_laws_eqDisk (a8, a9, a11, a12, ()) >>= fun t1 =>
    if !t1.1 then
     some (false, ())
    else
     f_laws_eqHead (a1, a2, a3, a5, a6, a7, ()) >>= fun t2 =>
     if !t2.1 then
      some (false, ())
     else
      f_laws_eqEntryS (a10, a13, ()) >>= fun t3 =>
      if !t3.1 then
       some (false, ())
      else
       some (true, ())
/- loop.example/g00118/laws.FnExactArchiveOk -/
def f_laws_FnExactArchiveOk : Bool × Int × Int × Int × List ByteArray × List (Int × ByteArray) × List (ByteArray × ByteArray) × Unit → Option (Bool × Unit)
  | (a0, a1, a2, a3, a4, a5, a6, ()) =>
   f_laws_szArchive (a0, a1, a2, a3, 1048576, a4, a5, a6, ()) >>= fun t1 =>
   if decide (t1.1 < 0) then
    some (true, ())
   else
    f_laws_toArchive (a0, a1, a2, a3, a4, a5, a6, ()) >>= fun t2 =>
    f_spec_ArchiveOk (t2.1, t2.2.1, t2.2.2.1, t2.2.2.2.1, t2.2.2.2.2.1, t2.2.2.2.2.2.1, t2.2.2.2.2.2.2.1, ()) >>= fun t3 =>
    f_laws_toArchive (a0, a1, a2, a3, a4, a5, a6, ()) >>= fun t4 =>
    f_impl_ArchiveOk (t4.1, t4.2.1, t4.2.2.1, t4.2.2.2.1, t4.2.2.2.2.1, t4.2.2.2.2.2.1, t4.2.2.2.2.2.2.1, ()) >>= fun t5 =>
    if !(t5.1 == t3.1) then
     some (false, ())
    else
     f_laws_toArchive (a0, a1, a2, a3, a4, a5, a6, ()) >>= fun t6 =>
     f_laws_eqArchive (t4.1, t4.2.1, t4.2.2.1, t4.2.2.2.1, t6.1, t6.2.1, t6.2.2.1, t6.2.2.2.1, t4.2.2.2.2.1, t4.2.2.2.2.2.1, t4.2.2.2.2.2.2.1, t6.2.2.2.2.1, t6.2.2.2.2.2.1, t6.2.2.2.2.2.2.1, ()) >>= fun t7 =>
     if !t7.1 then
      some (false, ())
     else
      some (true, ())
end Go.Proofs.Fx
