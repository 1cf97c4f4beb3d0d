/- What each of these functions comes to on the abstract machine, one equation a function and one a loop.
Conditions: none. -/
import Derived.Test.YtnmjhhipbfngkaaTb
set_option linter.unusedVariables false
set_option maxRecDepth 100000
namespace Go.Proofs.Ytnmjhhipbfngkaa.Am
open Go Go.RowKit
/-! strings.IndexByte (gates 0) -/
theorem f160_eq (base : Nat) (v0 : ByteArray) (v1 : Int) (h : AH) : exFun (Et base) (run (Et base)) loopL a160 Try.f160 [(.string v0), (.int .u8 v1)] h =
((run (Et base) 174 [(.string v0), (.int .u8 v1)] h).bind fun r1 =>
((some r1.1).bind (getI .i64)).bind fun n2 =>
some ((.int .i64 n2), r1.2) : Option (Value × AH)) := by kernel_rfl
theorem r160 {base : Nat} {v0 : ByteArray} {v1 : Int} {h : AH} {r : Value × AH} (hx :
((run (Et base) 174 [(.string v0), (.int .u8 v1)] h).bind fun r1 =>
((some r1.1).bind (getI .i64)).bind fun n2 =>
some ((.int .i64 n2), r1.2)) = some r) : run (Et base) 160 [(.string v0), (.int .u8 v1)] h = some r := run_i Try.func160 (by kernel_rfl) ((f160_eq base v0 v1 h).trans hx)
/-! impl.isSmall (gates 0) -/
theorem f161_eq (base : Nat) (v0 : Int) (h : AH) : exFun (Et base) (run (Et base)) loopL a161 Try.f161 [(.int .u8 v0)] h =
((if (decide (v0 ≥ (97 : Int))) = true then
some ((.bool (decide (v0 ≤ (122 : Int)))), h)
else
some ((.bool false), h)) : Option (Value × AH)) := by kernel_rfl
theorem r161 {base : Nat} {v0 : Int} {h : AH} {r : Value × AH} (hx :
((if (decide (v0 ≥ (97 : Int))) = true then
some ((.bool (decide (v0 ≤ (122 : Int)))), h)
else
some ((.bool false), h))) = some r) : run (Et base) 161 [(.int .u8 v0)] h = some r := run_i Try.func161 (by kernel_rfl) ((f161_eq base v0 h).trans hx)
/-! impl.isDigit (gates 0) -/
theorem f162_eq (base : Nat) (v0 : Int) (h : AH) : exFun (Et base) (run (Et base)) loopL a162 Try.f162 [(.int .u8 v0)] h =
((if (decide (v0 ≥ (48 : Int))) = true then
some ((.bool (decide (v0 ≤ (57 : Int)))), h)
else
some ((.bool false), h)) : Option (Value × AH)) := by kernel_rfl
theorem r162 {base : Nat} {v0 : Int} {h : AH} {r : Value × AH} (hx :
((if (decide (v0 ≥ (48 : Int))) = true then
some ((.bool (decide (v0 ≤ (57 : Int)))), h)
else
some ((.bool false), h))) = some r) : run (Et base) 162 [(.int .u8 v0)] h = some r := run_i Try.func162 (by kernel_rfl) ((f162_eq base v0 h).trans hx)
/-! spec.l8Names (gates 0) -/
theorem f163_eq (base : Nat)  (h : AH) : exFun (Et base) (run (Et base)) loopL a163 Try.f163 [] h =
((some (h ++ [some ⟨[(.string (⟨#[105, 110, 116]⟩ : ByteArray)), (.string (⟨#[97, 116, 111, 109]⟩ : ByteArray)), (.string (⟨#[109, 111, 118, 101]⟩ : ByteArray)), (.string (⟨#[116, 117, 112, 108, 101]⟩ : ByteArray)), (.string (⟨#[99, 111, 110, 115]⟩ : ByteArray)), (.string (⟨#[101, 108, 101, 109]⟩ : ByteArray)), (.string (⟨#[104, 101, 97, 100]⟩ : ByteArray)), (.string (⟨#[116, 97, 105, 108]⟩ : ByteArray)), (.string (⟨#[97, 100, 100]⟩ : ByteArray)), (.string (⟨#[115, 97, 109, 101]⟩ : ByteArray)), (.string (⟨#[107, 105, 110, 100]⟩ : ByteArray)), (.string (⟨#[106, 117, 109, 112]⟩ : ByteArray)), (.string (⟨#[115, 101, 110, 100]⟩ : ByteArray)), (.string (⟨#[116, 97, 107, 101]⟩ : ByteArray)), (.string (⟨#[115, 101, 108, 102]⟩ : ByteArray)), (.string (⟨#[109, 97, 107, 101]⟩ : ByteArray)), (.string (⟨#[115, 97, 121]⟩ : ByteArray)), (.string (⟨#[108, 105, 110, 107]⟩ : ByteArray)), (.string (⟨#[101, 110, 100]⟩ : ByteArray)), (.string (⟨#[110, 105, 108]⟩ : ByteArray))], 9⟩])).bind fun h1 =>
some ((.slice (some ⟨(List.length h), 0, none⟩) 20 20), h1) : Option (Value × AH)) := by kernel_rfl
theorem r163 {base : Nat}  {h : AH} {r : Value × AH} (hx :
((some (h ++ [some ⟨[(.string (⟨#[105, 110, 116]⟩ : ByteArray)), (.string (⟨#[97, 116, 111, 109]⟩ : ByteArray)), (.string (⟨#[109, 111, 118, 101]⟩ : ByteArray)), (.string (⟨#[116, 117, 112, 108, 101]⟩ : ByteArray)), (.string (⟨#[99, 111, 110, 115]⟩ : ByteArray)), (.string (⟨#[101, 108, 101, 109]⟩ : ByteArray)), (.string (⟨#[104, 101, 97, 100]⟩ : ByteArray)), (.string (⟨#[116, 97, 105, 108]⟩ : ByteArray)), (.string (⟨#[97, 100, 100]⟩ : ByteArray)), (.string (⟨#[115, 97, 109, 101]⟩ : ByteArray)), (.string (⟨#[107, 105, 110, 100]⟩ : ByteArray)), (.string (⟨#[106, 117, 109, 112]⟩ : ByteArray)), (.string (⟨#[115, 101, 110, 100]⟩ : ByteArray)), (.string (⟨#[116, 97, 107, 101]⟩ : ByteArray)), (.string (⟨#[115, 101, 108, 102]⟩ : ByteArray)), (.string (⟨#[109, 97, 107, 101]⟩ : ByteArray)), (.string (⟨#[115, 97, 121]⟩ : ByteArray)), (.string (⟨#[108, 105, 110, 107]⟩ : ByteArray)), (.string (⟨#[101, 110, 100]⟩ : ByteArray)), (.string (⟨#[110, 105, 108]⟩ : ByteArray))], 9⟩])).bind fun h1 =>
some ((.slice (some ⟨(List.length h), 0, none⟩) 20 20), h1)) = some r) : run (Et base) 163 [] h = some r := run_i Try.func163 (by kernel_rfl) ((f163_eq base  h).trans hx)
/-! spec.l8Set (gates 0) -/
theorem f164_eq (base : Nat) (v0 : Option Addr) (v1 : Int) (v2 : ByteArray) (h : AH) : exFun (Et base) (run (Et base)) loopL a164 Try.f164 [(.pointer v0), (.int .u8 v1), (.string v2)] h =
((if (v1 == (83 : Int)) = true then
(v0).bind fun a1 =>
(wr base h a1.block (a1.off + 5) [(.string v2)]).bind fun h2 =>
some ((.bool true), h2)
else
(run (Et base) 175 [(.string v2)] h).bind fun r3 =>
(getTup 2 r3.1).bind fun l4 =>
((l4[0]?).bind (getI .i64)).bind fun n5 =>
((l4[1]?).bind getB).bind fun b6 =>
((if (v1 == (65 : Int)) = true then
(v0).bind fun a8 =>
(wr base r3.2 a8.block (a8.off + 1) [(.int .i64 n5)]).bind fun h9 =>
some (.inl ([some (.bool b6)], h9))
else
(if (v1 == (66 : Int)) = true then
(v0).bind fun a10 =>
(wr base r3.2 a10.block (a10.off + 2) [(.int .i64 n5)]).bind fun h11 =>
some (.inl ([some (.bool b6)], h11))
else
(if (v1 == (67 : Int)) = true then
(v0).bind fun a12 =>
(wr base r3.2 a12.block (a12.off + 3) [(.int .i64 n5)]).bind fun h13 =>
some (.inl ([some (.bool b6)], h13))
else
(v0).bind fun a14 =>
(wr base r3.2 a14.block (a14.off + 4) [(.int .i64 n5)]).bind fun h15 =>
some (.inl ([some (.bool b6)], h15)))))).bind fun j7 => joinK j7 fun j7 =>
((sget j7.1 0).bind getB).bind fun b16 =>
some ((.bool b16), j7.2)) : Option (Value × AH)) := by kernel_rfl
theorem r164 {base : Nat} {v0 : Option Addr} {v1 : Int} {v2 : ByteArray} {h : AH} {r : Value × AH} (hx :
((if (v1 == (83 : Int)) = true then
(v0).bind fun a1 =>
(wr base h a1.block (a1.off + 5) [(.string v2)]).bind fun h2 =>
some ((.bool true), h2)
else
(run (Et base) 175 [(.string v2)] h).bind fun r3 =>
(getTup 2 r3.1).bind fun l4 =>
((l4[0]?).bind (getI .i64)).bind fun n5 =>
((l4[1]?).bind getB).bind fun b6 =>
((if (v1 == (65 : Int)) = true then
(v0).bind fun a8 =>
(wr base r3.2 a8.block (a8.off + 1) [(.int .i64 n5)]).bind fun h9 =>
some (.inl ([some (.bool b6)], h9))
else
(if (v1 == (66 : Int)) = true then
(v0).bind fun a10 =>
(wr base r3.2 a10.block (a10.off + 2) [(.int .i64 n5)]).bind fun h11 =>
some (.inl ([some (.bool b6)], h11))
else
(if (v1 == (67 : Int)) = true then
(v0).bind fun a12 =>
(wr base r3.2 a12.block (a12.off + 3) [(.int .i64 n5)]).bind fun h13 =>
some (.inl ([some (.bool b6)], h13))
else
(v0).bind fun a14 =>
(wr base r3.2 a14.block (a14.off + 4) [(.int .i64 n5)]).bind fun h15 =>
some (.inl ([some (.bool b6)], h15)))))).bind fun j7 => joinK j7 fun j7 =>
((sget j7.1 0).bind getB).bind fun b16 =>
some ((.bool b16), j7.2))) = some r) : run (Et base) 164 [(.pointer v0), (.int .u8 v1), (.string v2)] h = some r := run_i Try.func164 (by kernel_rfl) ((f164_eq base v0 v1 v2 h).trans hx)
/-! stringslite.IndexByte (gates 0) -/
theorem f174_eq (base : Nat) (v0 : ByteArray) (v1 : Int) (h : AH) : exFun (Et base) (run (Et base)) loopL a174 Try.f174 [(.string v0), (.int .u8 v1)] h =
(some ((.int .i64 (firstIdx v0 (Nat.toUInt8 (Int.toNat v1)))), h) : Option (Value × AH)) := by kernel_rfl
theorem r174 {base : Nat} {v0 : ByteArray} {v1 : Int} {h : AH} {r : Value × AH} (hx :
(some ((.int .i64 (firstIdx v0 (Nat.toUInt8 (Int.toNat v1)))), h)) = some r) : run (Et base) 174 [(.string v0), (.int .u8 v1)] h = some r := run_i Try.func174 (by kernel_rfl) ((f174_eq base v0 v1 h).trans hx)
/-! spec.l8Whole (gates 0) -/
theorem f175_eq (base : Nat) (v0 : ByteArray) (h : AH) : exFun (Et base) (run (Et base)) loopL a175 Try.f175 [(.string v0)] h =
(((if (decide ((v0.size : Int) > (1 : Int))) = true then
(if 0 ≤ (0 : Int) ∧ (0 : Int) < (v0.size : Int) then
some (.inl ([some (.string v0), some (.bool (((v0.data.toList.getD (Int.toNat (0 : Int)) 0).toNat : Int) == (45 : Int)))], h))
else none)
else
some (.inl ([some (.string v0), some (.bool false)], h)))).bind fun j1 => joinK j1 fun j1 =>
((sget j1.1 0).bind getStr).bind fun s2 =>
((sget (j1.1.tail) 0).bind getB).bind fun b3 =>
(if b3 = true then
(if 0 ≤ (1 : Int) ∧ (1 : Int) ≤ (s2.size : Int) ∧ (s2.size : Int) ≤ (s2.size : Int) then
(run (Et base) 188 [(.string (s2.extract (Int.toNat (1 : Int)) (Int.toNat (s2.size : Int))))] j1.2).bind fun r4 =>
((some r4.1).bind (getI .i64)).bind fun n5 =>
some ((.tuple #[(.int .i64 (IntKind.wrap .i64 (0 - n5))), (.bool (decide (n5 > (0 : Int))))]), r4.2)
else none)
else
(run (Et base) 188 [(.string s2)] j1.2).bind fun r6 =>
((some r6.1).bind (getI .i64)).bind fun n7 =>
some ((.tuple #[(.int .i64 n7), (.bool (decide (n7 ≥ (0 : Int))))]), r6.2)) : Option (Value × AH)) := by kernel_rfl
theorem r175 {base : Nat} {v0 : ByteArray} {h : AH} {r : Value × AH} (hx :
(((if (decide ((v0.size : Int) > (1 : Int))) = true then
(if 0 ≤ (0 : Int) ∧ (0 : Int) < (v0.size : Int) then
some (.inl ([some (.string v0), some (.bool (((v0.data.toList.getD (Int.toNat (0 : Int)) 0).toNat : Int) == (45 : Int)))], h))
else none)
else
some (.inl ([some (.string v0), some (.bool false)], h)))).bind fun j1 => joinK j1 fun j1 =>
((sget j1.1 0).bind getStr).bind fun s2 =>
((sget (j1.1.tail) 0).bind getB).bind fun b3 =>
(if b3 = true then
(if 0 ≤ (1 : Int) ∧ (1 : Int) ≤ (s2.size : Int) ∧ (s2.size : Int) ≤ (s2.size : Int) then
(run (Et base) 188 [(.string (s2.extract (Int.toNat (1 : Int)) (Int.toNat (s2.size : Int))))] j1.2).bind fun r4 =>
((some r4.1).bind (getI .i64)).bind fun n5 =>
some ((.tuple #[(.int .i64 (IntKind.wrap .i64 (0 - n5))), (.bool (decide (n5 > (0 : Int))))]), r4.2)
else none)
else
(run (Et base) 188 [(.string s2)] j1.2).bind fun r6 =>
((some r6.1).bind (getI .i64)).bind fun n7 =>
some ((.tuple #[(.int .i64 n7), (.bool (decide (n7 ≥ (0 : Int))))]), r6.2))) = some r) : run (Et base) 175 [(.string v0)] h = some r := run_i Try.func175 (by kernel_rfl) ((f175_eq base v0 h).trans hx)
/-! spec.l1Number (gates 0) -/
noncomputable def B188_0 (base : Nat) : Body := fun l h => lay s188_0 l fun s => exCode (Et base) (run (Et base)) loopL a188_0 (subC [1, 1, 1, 0, 1, 0, 0] (bodyC Try.f188)) s h (keepK s188_0 e188_0)
theorem B188_0_eq (base : Nat) (v0 : ByteArray) (v3 : Int) (v4 : Int) (h : AH) : B188_0 base [some (.string v0), some (.int .i64 v3), some (.int .i64 v4)] h =
((if (decide (v4 < (v0.size : Int))) = true then
(if 0 ≤ v4 ∧ v4 < (v0.size : Int) then
(run (Et base) 62 [(.int .i64 (IntKind.wrap .i64 ((v0.data.toList.getD (Int.toNat v4) 0).toNat : Int))), (.int .i64 (48 : Int)), (.int .i64 (57 : Int))] h).bind fun r1 =>
((some r1.1).bind getB).bind fun b2 =>
(if (!b2) = true then
some (1, [some (.int .i64 (-1 : Int))], r1.2)
else
(if 0 ≤ v4 ∧ v4 < (v0.size : Int) then
some (0, [some (.string v0), some (.int .i64 (IntKind.wrap .i64 ((IntKind.wrap .i64 (v3 * (10 : Int))) + (IntKind.wrap .i64 (IntKind.wrap .u8 (((v0.data.toList.getD (Int.toNat v4) 0).toNat : Int) - (48 : Int))))))), some (.int .i64 (IntKind.wrap .i64 (v4 + (1 : Int))))], r1.2)
else none))
else none)
else
some (2, [some (.int .i64 v3)], h)) : Option (Nat × Slots × AH)) := by kernel_rfl
theorem f188_eq (base : Nat) (v0 : ByteArray) (h : AH) : exFun (Et base) (run (Et base)) loopL a188 Try.f188 [(.string v0)] h =
(((run (Et base) 62 [(.int .i64 (v0.size : Int)), (.int .i64 (1 : Int)), (.int .i64 (7 : Int))] h).bind fun r2 =>
((some r2.1).bind getB).bind fun b3 =>
(if (!b3) = true then
some (.inl ([some (.string v0), some (.bool true)], r2.2))
else
(if (decide ((v0.size : Int) > (1 : Int))) = true then
(if 0 ≤ (0 : Int) ∧ (0 : Int) < (v0.size : Int) then
some (.inl ([some (.string v0), some (.bool (((v0.data.toList.getD (Int.toNat (0 : Int)) 0).toNat : Int) == (48 : Int)))], r2.2))
else none)
else
some (.inl ([some (.string v0), some (.bool false)], r2.2))))).bind fun j1 => joinK j1 fun j1 =>
((sget j1.1 0).bind getStr).bind fun s4 =>
((sget (j1.1.tail) 0).bind getB).bind fun b5 =>
(if b5 = true then
some ((.int .i64 (-1 : Int)), j1.2)
else
(loopL (B188_0 base) [some (.string s4), some (.int .i64 (0 : Int)), some (.int .i64 (0 : Int))] j1.2).bind fun q6 =>
(if q6.1 = 1 then
((sget q6.2.1 0).bind (getI .i64)).bind fun n7 =>
some ((.int .i64 n7), q6.2.2)
else
(if q6.1 = 2 then
((sget q6.2.1 0).bind (getI .i64)).bind fun n8 =>
some ((.int .i64 n8), q6.2.2)
else
none))) : Option (Value × AH)) := by kernel_rfl
theorem r188 {base : Nat} {v0 : ByteArray} {h : AH} {r : Value × AH} (hx :
(((run (Et base) 62 [(.int .i64 (v0.size : Int)), (.int .i64 (1 : Int)), (.int .i64 (7 : Int))] h).bind fun r2 =>
((some r2.1).bind getB).bind fun b3 =>
(if (!b3) = true then
some (.inl ([some (.string v0), some (.bool true)], r2.2))
else
(if (decide ((v0.size : Int) > (1 : Int))) = true then
(if 0 ≤ (0 : Int) ∧ (0 : Int) < (v0.size : Int) then
some (.inl ([some (.string v0), some (.bool (((v0.data.toList.getD (Int.toNat (0 : Int)) 0).toNat : Int) == (48 : Int)))], r2.2))
else none)
else
some (.inl ([some (.string v0), some (.bool false)], r2.2))))).bind fun j1 => joinK j1 fun j1 =>
((sget j1.1 0).bind getStr).bind fun s4 =>
((sget (j1.1.tail) 0).bind getB).bind fun b5 =>
(if b5 = true then
some ((.int .i64 (-1 : Int)), j1.2)
else
(loopL (B188_0 base) [some (.string s4), some (.int .i64 (0 : Int)), some (.int .i64 (0 : Int))] j1.2).bind fun q6 =>
(if q6.1 = 1 then
((sget q6.2.1 0).bind (getI .i64)).bind fun n7 =>
some ((.int .i64 n7), q6.2.2)
else
(if q6.1 = 2 then
((sget q6.2.1 0).bind (getI .i64)).bind fun n8 =>
some ((.int .i64 n8), q6.2.2)
else
none)))) = some r) : run (Et base) 188 [(.string v0)] h = some r := run_i Try.func188 (by kernel_rfl) ((f188_eq base v0 h).trans hx)
end Go.Proofs.Ytnmjhhipbfngkaa.Am
