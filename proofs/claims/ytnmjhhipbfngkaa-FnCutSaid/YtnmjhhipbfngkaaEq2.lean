/- What each of these functions comes to on the abstract machine, one equation a function and one a loop.
Conditions: none. -/
import Derived.Test.YtnmjhhipbfngkaaTb
set_option linter.unusedVariables false
set_option maxRecDepth 100000
namespace Go.Proofs.Ytnmjhhipbfngkaa.Am
open Go Go.RowKit
/-! spec.l13Ins (gates 0) -/
theorem f85_eq (base : Nat) (v0 : Option Addr) (h : AH) : exFun (Et base) (run (Et base)) loopL a85 Try.f85 [(.pointer v0)] h =
((some (h ++ [some ⟨[(.int .i64 0), (.int .i64 0), (.int .i64 0), (.int .i64 0), (.int .i64 0), (.string ⟨#[]⟩)], 116⟩])).bind fun h1 =>
(run (Et base) 84 [(.pointer v0)] h1).bind fun r2 =>
((some r2.1).bind (getI .i64)).bind fun n3 =>
(some (r2.2 ++ [some ⟨[(.int .i64 0), (.int .i64 0), (.int .i64 0), (.int .i64 0), (.int .i64 0), (.string ⟨#[]⟩)], 116⟩])).bind fun h4 =>
(wr base h4 (List.length r2.2) 0 [(.int .i64 n3), (.int .i64 (0 : Int)), (.int .i64 (0 : Int)), (.int .i64 (0 : Int)), (.int .i64 (0 : Int)), (.string (⟨#[]⟩ : ByteArray))]).bind fun h5 =>
(run (Et base) 84 [(.pointer v0)] h5).bind fun r6 =>
((some r6.1).bind (getI .i64)).bind fun n7 =>
(wr base r6.2 (List.length r2.2) 1 [(.int .i64 n7)]).bind fun h8 =>
(run (Et base) 84 [(.pointer v0)] h8).bind fun r9 =>
((some r9.1).bind (getI .i64)).bind fun n10 =>
(wr base r9.2 (List.length r2.2) 2 [(.int .i64 n10)]).bind fun h11 =>
(run (Et base) 84 [(.pointer v0)] h11).bind fun r12 =>
((some r12.1).bind (getI .i64)).bind fun n13 =>
(wr base r12.2 (List.length r2.2) 3 [(.int .i64 n13)]).bind fun h14 =>
(run (Et base) 84 [(.pointer v0)] h14).bind fun r15 =>
((some r15.1).bind (getI .i64)).bind fun n16 =>
(wr base r15.2 (List.length r2.2) 4 [(.int .i64 n16)]).bind fun h17 =>
(run (Et base) 84 [(.pointer v0)] h17).bind fun r18 =>
((some r18.1).bind (getI .i64)).bind fun n19 =>
((v0).bind fun a21 =>
((cell r18.2 a21.block (a21.off + 2)).bind getB).bind fun b22 =>
(if b22 = true then
some (.inl ([some (.pointer v0), some (.pointer (some ⟨(List.length h), 0, none⟩)), some (.pointer (some ⟨(List.length r2.2), 0, none⟩)), some (.int .i64 n19), some (.bool true)], r18.2))
else
(run (Et base) 62 [(.int .i64 n19), (.int .i64 (0 : Int)), (.int .i64 (12 : Int))] r18.2).bind fun r23 =>
((some r23.1).bind getB).bind fun b24 =>
(if (!b24) = true then
some (.inl ([some (.pointer v0), some (.pointer (some ⟨(List.length h), 0, none⟩)), some (.pointer (some ⟨(List.length r2.2), 0, none⟩)), some (.int .i64 n19), some (.bool true)], r23.2))
else
(v0).bind fun a25 =>
((cell r23.2 a25.block (a25.off + 0)).bind getS).bind fun l26 =>
(v0).bind fun a27 =>
((cell r23.2 a27.block (a27.off + 1)).bind (getI .i64)).bind fun n28 =>
some (.inl ([some (.pointer v0), some (.pointer (some ⟨(List.length h), 0, none⟩)), some (.pointer (some ⟨(List.length r2.2), 0, none⟩)), some (.int .i64 n19), some (.bool (decide (n19 > (IntKind.wrap .i64 (((l26.2 : Nat) : Int) - n28)))))], r23.2))))).bind fun j20 => joinK j20 fun j20 =>
((sget j20.1 0).bind getP).bind fun p29 =>
((sget (j20.1.tail) 0).bind getA).bind fun d30 =>
((sget (j20.1.tail.tail) 0).bind getA).bind fun d31 =>
((sget (j20.1.tail.tail.tail) 0).bind (getI .i64)).bind fun n32 =>
((sget (j20.1.tail.tail.tail.tail) 0).bind getB).bind fun b33 =>
(if b33 = true then
(p29).bind fun a34 =>
(wr base j20.2 a34.block (a34.off + 2) [(.bool true)]).bind fun h35 =>
((cell h35 d31.block d31.off).bind (getI .i64)).bind fun n36 =>
((cell h35 d31.block (d31.off + 1)).bind (getI .i64)).bind fun n37 =>
((cell h35 d31.block ((d31.off + 1) + 1)).bind (getI .i64)).bind fun n38 =>
((cell h35 d31.block (((d31.off + 1) + 1) + 1)).bind (getI .i64)).bind fun n39 =>
((cell h35 d31.block ((((d31.off + 1) + 1) + 1) + 1)).bind (getI .i64)).bind fun n40 =>
((cell h35 d31.block (((((d31.off + 1) + 1) + 1) + 1) + 1)).bind getStr).bind fun s41 =>
(wr base h35 d30.block d30.off [(.int .i64 n36), (.int .i64 n37), (.int .i64 n38), (.int .i64 n39), (.int .i64 n40), (.string s41)]).bind fun h42 =>
((cell h42 d30.block d30.off).bind (getI .i64)).bind fun n43 =>
((cell h42 d30.block (d30.off + 1)).bind (getI .i64)).bind fun n44 =>
((cell h42 d30.block ((d30.off + 1) + 1)).bind (getI .i64)).bind fun n45 =>
((cell h42 d30.block (((d30.off + 1) + 1) + 1)).bind (getI .i64)).bind fun n46 =>
((cell h42 d30.block ((((d30.off + 1) + 1) + 1) + 1)).bind (getI .i64)).bind fun n47 =>
((cell h42 d30.block (((((d30.off + 1) + 1) + 1) + 1) + 1)).bind getStr).bind fun s48 =>
some ((.agg #[(.int .i64 n43), (.int .i64 n44), (.int .i64 n45), (.int .i64 n46), (.int .i64 n47), (.string s48)]), h42)
else
(p29).bind fun a49 =>
((cell j20.2 a49.block (a49.off + 0)).bind getS).bind fun l50 =>
(p29).bind fun a51 =>
((cell j20.2 a51.block (a51.off + 1)).bind (getI .i64)).bind fun n52 =>
(p29).bind fun a53 =>
((cell j20.2 a53.block (a53.off + 1)).bind (getI .i64)).bind fun n54 =>
(if 0 ≤ n52 ∧ n52 ≤ (IntKind.wrap .i64 (n54 + n32)) ∧ (IntKind.wrap .i64 (n54 + n32)) ≤ ((l50.2 : Nat) : Int) ∧ okTy base j20.2 l50.1 5 (Int.toNat n52) = true then
((rawAt j20.2 (shiftA l50.1 (Int.toNat n52 * 1)) (Int.toNat (IntKind.wrap .i64 (n54 + n32)) - Int.toNat n52)).bind u8s).bind fun z55 =>
(wr base j20.2 d31.block (d31.off + 5) [(.string (bstr z55))]).bind fun h56 =>
(p29).bind fun a57 =>
((cell h56 a57.block (a57.off + 1)).bind (getI .i64)).bind fun n58 =>
(p29).bind fun a59 =>
(wr base h56 a59.block (a59.off + 1) [(.int .i64 (IntKind.wrap .i64 (n58 + n32)))]).bind fun h60 =>
((cell h60 d31.block d31.off).bind (getI .i64)).bind fun n61 =>
((cell h60 d31.block (d31.off + 1)).bind (getI .i64)).bind fun n62 =>
((cell h60 d31.block ((d31.off + 1) + 1)).bind (getI .i64)).bind fun n63 =>
((cell h60 d31.block (((d31.off + 1) + 1) + 1)).bind (getI .i64)).bind fun n64 =>
((cell h60 d31.block ((((d31.off + 1) + 1) + 1) + 1)).bind (getI .i64)).bind fun n65 =>
((cell h60 d31.block (((((d31.off + 1) + 1) + 1) + 1) + 1)).bind getStr).bind fun s66 =>
(wr base h60 d30.block d30.off [(.int .i64 n61), (.int .i64 n62), (.int .i64 n63), (.int .i64 n64), (.int .i64 n65), (.string s66)]).bind fun h67 =>
((cell h67 d30.block d30.off).bind (getI .i64)).bind fun n68 =>
((cell h67 d30.block (d30.off + 1)).bind (getI .i64)).bind fun n69 =>
((cell h67 d30.block ((d30.off + 1) + 1)).bind (getI .i64)).bind fun n70 =>
((cell h67 d30.block (((d30.off + 1) + 1) + 1)).bind (getI .i64)).bind fun n71 =>
((cell h67 d30.block ((((d30.off + 1) + 1) + 1) + 1)).bind (getI .i64)).bind fun n72 =>
((cell h67 d30.block (((((d30.off + 1) + 1) + 1) + 1) + 1)).bind getStr).bind fun s73 =>
some ((.agg #[(.int .i64 n68), (.int .i64 n69), (.int .i64 n70), (.int .i64 n71), (.int .i64 n72), (.string s73)]), h67)
else none)) : Option (Value × AH)) := by kernel_rfl
theorem r85 {base : Nat} {v0 : Option Addr} {h : AH} {r : Value × AH} (hx :
((some (h ++ [some ⟨[(.int .i64 0), (.int .i64 0), (.int .i64 0), (.int .i64 0), (.int .i64 0), (.string ⟨#[]⟩)], 116⟩])).bind fun h1 =>
(run (Et base) 84 [(.pointer v0)] h1).bind fun r2 =>
((some r2.1).bind (getI .i64)).bind fun n3 =>
(some (r2.2 ++ [some ⟨[(.int .i64 0), (.int .i64 0), (.int .i64 0), (.int .i64 0), (.int .i64 0), (.string ⟨#[]⟩)], 116⟩])).bind fun h4 =>
(wr base h4 (List.length r2.2) 0 [(.int .i64 n3), (.int .i64 (0 : Int)), (.int .i64 (0 : Int)), (.int .i64 (0 : Int)), (.int .i64 (0 : Int)), (.string (⟨#[]⟩ : ByteArray))]).bind fun h5 =>
(run (Et base) 84 [(.pointer v0)] h5).bind fun r6 =>
((some r6.1).bind (getI .i64)).bind fun n7 =>
(wr base r6.2 (List.length r2.2) 1 [(.int .i64 n7)]).bind fun h8 =>
(run (Et base) 84 [(.pointer v0)] h8).bind fun r9 =>
((some r9.1).bind (getI .i64)).bind fun n10 =>
(wr base r9.2 (List.length r2.2) 2 [(.int .i64 n10)]).bind fun h11 =>
(run (Et base) 84 [(.pointer v0)] h11).bind fun r12 =>
((some r12.1).bind (getI .i64)).bind fun n13 =>
(wr base r12.2 (List.length r2.2) 3 [(.int .i64 n13)]).bind fun h14 =>
(run (Et base) 84 [(.pointer v0)] h14).bind fun r15 =>
((some r15.1).bind (getI .i64)).bind fun n16 =>
(wr base r15.2 (List.length r2.2) 4 [(.int .i64 n16)]).bind fun h17 =>
(run (Et base) 84 [(.pointer v0)] h17).bind fun r18 =>
((some r18.1).bind (getI .i64)).bind fun n19 =>
((v0).bind fun a21 =>
((cell r18.2 a21.block (a21.off + 2)).bind getB).bind fun b22 =>
(if b22 = true then
some (.inl ([some (.pointer v0), some (.pointer (some ⟨(List.length h), 0, none⟩)), some (.pointer (some ⟨(List.length r2.2), 0, none⟩)), some (.int .i64 n19), some (.bool true)], r18.2))
else
(run (Et base) 62 [(.int .i64 n19), (.int .i64 (0 : Int)), (.int .i64 (12 : Int))] r18.2).bind fun r23 =>
((some r23.1).bind getB).bind fun b24 =>
(if (!b24) = true then
some (.inl ([some (.pointer v0), some (.pointer (some ⟨(List.length h), 0, none⟩)), some (.pointer (some ⟨(List.length r2.2), 0, none⟩)), some (.int .i64 n19), some (.bool true)], r23.2))
else
(v0).bind fun a25 =>
((cell r23.2 a25.block (a25.off + 0)).bind getS).bind fun l26 =>
(v0).bind fun a27 =>
((cell r23.2 a27.block (a27.off + 1)).bind (getI .i64)).bind fun n28 =>
some (.inl ([some (.pointer v0), some (.pointer (some ⟨(List.length h), 0, none⟩)), some (.pointer (some ⟨(List.length r2.2), 0, none⟩)), some (.int .i64 n19), some (.bool (decide (n19 > (IntKind.wrap .i64 (((l26.2 : Nat) : Int) - n28)))))], r23.2))))).bind fun j20 => joinK j20 fun j20 =>
((sget j20.1 0).bind getP).bind fun p29 =>
((sget (j20.1.tail) 0).bind getA).bind fun d30 =>
((sget (j20.1.tail.tail) 0).bind getA).bind fun d31 =>
((sget (j20.1.tail.tail.tail) 0).bind (getI .i64)).bind fun n32 =>
((sget (j20.1.tail.tail.tail.tail) 0).bind getB).bind fun b33 =>
(if b33 = true then
(p29).bind fun a34 =>
(wr base j20.2 a34.block (a34.off + 2) [(.bool true)]).bind fun h35 =>
((cell h35 d31.block d31.off).bind (getI .i64)).bind fun n36 =>
((cell h35 d31.block (d31.off + 1)).bind (getI .i64)).bind fun n37 =>
((cell h35 d31.block ((d31.off + 1) + 1)).bind (getI .i64)).bind fun n38 =>
((cell h35 d31.block (((d31.off + 1) + 1) + 1)).bind (getI .i64)).bind fun n39 =>
((cell h35 d31.block ((((d31.off + 1) + 1) + 1) + 1)).bind (getI .i64)).bind fun n40 =>
((cell h35 d31.block (((((d31.off + 1) + 1) + 1) + 1) + 1)).bind getStr).bind fun s41 =>
(wr base h35 d30.block d30.off [(.int .i64 n36), (.int .i64 n37), (.int .i64 n38), (.int .i64 n39), (.int .i64 n40), (.string s41)]).bind fun h42 =>
((cell h42 d30.block d30.off).bind (getI .i64)).bind fun n43 =>
((cell h42 d30.block (d30.off + 1)).bind (getI .i64)).bind fun n44 =>
((cell h42 d30.block ((d30.off + 1) + 1)).bind (getI .i64)).bind fun n45 =>
((cell h42 d30.block (((d30.off + 1) + 1) + 1)).bind (getI .i64)).bind fun n46 =>
((cell h42 d30.block ((((d30.off + 1) + 1) + 1) + 1)).bind (getI .i64)).bind fun n47 =>
((cell h42 d30.block (((((d30.off + 1) + 1) + 1) + 1) + 1)).bind getStr).bind fun s48 =>
some ((.agg #[(.int .i64 n43), (.int .i64 n44), (.int .i64 n45), (.int .i64 n46), (.int .i64 n47), (.string s48)]), h42)
else
(p29).bind fun a49 =>
((cell j20.2 a49.block (a49.off + 0)).bind getS).bind fun l50 =>
(p29).bind fun a51 =>
((cell j20.2 a51.block (a51.off + 1)).bind (getI .i64)).bind fun n52 =>
(p29).bind fun a53 =>
((cell j20.2 a53.block (a53.off + 1)).bind (getI .i64)).bind fun n54 =>
(if 0 ≤ n52 ∧ n52 ≤ (IntKind.wrap .i64 (n54 + n32)) ∧ (IntKind.wrap .i64 (n54 + n32)) ≤ ((l50.2 : Nat) : Int) ∧ okTy base j20.2 l50.1 5 (Int.toNat n52) = true then
((rawAt j20.2 (shiftA l50.1 (Int.toNat n52 * 1)) (Int.toNat (IntKind.wrap .i64 (n54 + n32)) - Int.toNat n52)).bind u8s).bind fun z55 =>
(wr base j20.2 d31.block (d31.off + 5) [(.string (bstr z55))]).bind fun h56 =>
(p29).bind fun a57 =>
((cell h56 a57.block (a57.off + 1)).bind (getI .i64)).bind fun n58 =>
(p29).bind fun a59 =>
(wr base h56 a59.block (a59.off + 1) [(.int .i64 (IntKind.wrap .i64 (n58 + n32)))]).bind fun h60 =>
((cell h60 d31.block d31.off).bind (getI .i64)).bind fun n61 =>
((cell h60 d31.block (d31.off + 1)).bind (getI .i64)).bind fun n62 =>
((cell h60 d31.block ((d31.off + 1) + 1)).bind (getI .i64)).bind fun n63 =>
((cell h60 d31.block (((d31.off + 1) + 1) + 1)).bind (getI .i64)).bind fun n64 =>
((cell h60 d31.block ((((d31.off + 1) + 1) + 1) + 1)).bind (getI .i64)).bind fun n65 =>
((cell h60 d31.block (((((d31.off + 1) + 1) + 1) + 1) + 1)).bind getStr).bind fun s66 =>
(wr base h60 d30.block d30.off [(.int .i64 n61), (.int .i64 n62), (.int .i64 n63), (.int .i64 n64), (.int .i64 n65), (.string s66)]).bind fun h67 =>
((cell h67 d30.block d30.off).bind (getI .i64)).bind fun n68 =>
((cell h67 d30.block (d30.off + 1)).bind (getI .i64)).bind fun n69 =>
((cell h67 d30.block ((d30.off + 1) + 1)).bind (getI .i64)).bind fun n70 =>
((cell h67 d30.block (((d30.off + 1) + 1) + 1)).bind (getI .i64)).bind fun n71 =>
((cell h67 d30.block ((((d30.off + 1) + 1) + 1) + 1)).bind (getI .i64)).bind fun n72 =>
((cell h67 d30.block (((((d30.off + 1) + 1) + 1) + 1) + 1)).bind getStr).bind fun s73 =>
some ((.agg #[(.int .i64 n68), (.int .i64 n69), (.int .i64 n70), (.int .i64 n71), (.int .i64 n72), (.string s73)]), h67)
else none))) = some r) : run (Et base) 85 [(.pointer v0)] h = some r := run_i Try.func85 (by kernel_rfl) ((f85_eq base v0 h).trans hx)
/-! impl.GetNum (gates 0) -/
noncomputable def B86_0 (base : Nat) : Body := fun l h => lay s86_0 l fun s => exCode (Et base) (run (Et base)) loopL a86_0 (subC [1, 1, 0, 1, 0, 0] (bodyC Try.f86)) s h (keepK s86_0 e86_0)
theorem B86_0_eq (base : Nat) (v0 : Option Addr) (v0n : Nat) (v1 : Int) (v7 : Int) (v8 : Int) (h : AH) : B86_0 base [some (.slice v0 v0n v0n), some (.int .i64 v1), some (.int .i64 v7), some (.int .i64 v8)] h =
(((if (decide (v8 < (4 : Int))) = true then
(if (decide (v1 ≥ (0 : Int))) = true then
some (.inl ([some (.slice v0 v0n v0n), some (.int .i64 v1), some (.int .i64 v7), some (.int .i64 v8), some (.bool (decide (v1 < (IntKind.wrap .i64 (((v0n : Nat) : Int) - v8)))))], h))
else
some (.inl ([some (.slice v0 v0n v0n), some (.int .i64 v1), some (.int .i64 v7), some (.int .i64 v8), some (.bool false)], h)))
else
some (.inl ([some (.slice v0 v0n v0n), some (.int .i64 v1), some (.int .i64 v7), some (.int .i64 v8), some (.bool false)], h)))).bind fun j1 => joinK j1 fun j1 =>
((sget j1.1 0).bind getS).bind fun l2 =>
((sget (j1.1.tail) 0).bind (getI .i64)).bind fun n3 =>
((sget (j1.1.tail.tail) 0).bind (getI .i64)).bind fun n4 =>
((sget (j1.1.tail.tail.tail) 0).bind (getI .i64)).bind fun n5 =>
((sget (j1.1.tail.tail.tail.tail) 0).bind getB).bind fun b6 =>
(if b6 = true then
(if 0 ≤ (IntKind.wrap .i64 (n3 + n5)) ∧ (IntKind.wrap .i64 (n3 + n5)) < ((l2.2 : Nat) : Int) then
((l2.1 : Option Addr)).bind fun a7 =>
((cell j1.2 a7.block (a7.off + Int.toNat (IntKind.wrap .i64 (n3 + n5)) * 1)).bind (getI .u8)).bind fun n8 =>
(if (IntKind.wrap .i64 ((7 : Int) * n5)) < 0 then none else
(if (decide ((IntKind.wrap .i64 n8) ≥ (128 : Int))) = true then
some (0, [some (.slice l2.1 l2.2 l2.2), some (.int .i64 n3), some (.int .i64 (IntKind.wrap .i64 (n4 + (IntKind.wrap .i64 ((Int.tmod (IntKind.wrap .i64 n8) (128 : Int)) * 2 ^ min ((IntKind.wrap .i64 ((7 : Int) * n5))).toNat 64))))), some (.int .i64 (IntKind.wrap .i64 (n5 + (1 : Int))))], j1.2)
else
((if ((Int.tmod (IntKind.wrap .i64 (n4 + (IntKind.wrap .i64 ((Int.tmod (IntKind.wrap .i64 n8) (128 : Int)) * 2 ^ min ((IntKind.wrap .i64 ((7 : Int) * n5))).toNat 64)))) (2 : Int)) == (1 : Int)) = true then
some (.inl ([some (.int .i64 n3), some (.int .i64 n5), some (.int .i64 (IntKind.wrap .i64 n8)), some (.int .i64 (IntKind.wrap .i64 (Int.tdiv (IntKind.wrap .i64 (0 - (IntKind.wrap .i64 ((IntKind.wrap .i64 (n4 + (IntKind.wrap .i64 ((Int.tmod (IntKind.wrap .i64 n8) (128 : Int)) * 2 ^ min ((IntKind.wrap .i64 ((7 : Int) * n5))).toNat 64)))) + (1 : Int))))) (2 : Int))))], j1.2))
else
some (.inl ([some (.int .i64 n3), some (.int .i64 n5), some (.int .i64 (IntKind.wrap .i64 n8)), some (.int .i64 (IntKind.wrap .i64 (Int.tdiv (IntKind.wrap .i64 (n4 + (IntKind.wrap .i64 ((Int.tmod (IntKind.wrap .i64 n8) (128 : Int)) * 2 ^ min ((IntKind.wrap .i64 ((7 : Int) * n5))).toNat 64)))) (2 : Int))))], j1.2)))).bind fun j9 => joinK j9 fun j9 =>
((sget j9.1 0).bind (getI .i64)).bind fun n10 =>
((sget (j9.1.tail) 0).bind (getI .i64)).bind fun n11 =>
((sget (j9.1.tail.tail) 0).bind (getI .i64)).bind fun n12 =>
((sget (j9.1.tail.tail.tail) 0).bind (getI .i64)).bind fun n13 =>
((if (n12 == (0 : Int)) = true then
(if (decide (n11 > (0 : Int))) = true then
some (.inl ([some (.int .i64 n10), some (.int .i64 n11), some (.int .i64 n13), some (.bool true)], j9.2))
else
(run (Et base) 67 [(.int .i64 n13), (.int .i64 (-1000000 : Int)), (.int .i64 (1000000 : Int))] j9.2).bind fun r15 =>
((some r15.1).bind getB).bind fun b16 =>
some (.inl ([some (.int .i64 n10), some (.int .i64 n11), some (.int .i64 n13), some (.bool (!b16))], r15.2)))
else
(run (Et base) 67 [(.int .i64 n13), (.int .i64 (-1000000 : Int)), (.int .i64 (1000000 : Int))] j9.2).bind fun r17 =>
((some r17.1).bind getB).bind fun b18 =>
some (.inl ([some (.int .i64 n10), some (.int .i64 n11), some (.int .i64 n13), some (.bool (!b18))], r17.2)))).bind fun j14 => joinK j14 fun j14 =>
((sget j14.1 0).bind (getI .i64)).bind fun n19 =>
((sget (j14.1.tail) 0).bind (getI .i64)).bind fun n20 =>
((sget (j14.1.tail.tail) 0).bind (getI .i64)).bind fun n21 =>
((sget (j14.1.tail.tail.tail) 0).bind getB).bind fun b22 =>
(if b22 = true then
some (1, [some (.int .i64 (0 : Int)), some (.int .i64 (0 : Int)), some (.bool false)], j14.2)
else
some (1, [some (.int .i64 n21), some (.int .i64 (IntKind.wrap .i64 ((IntKind.wrap .i64 (n19 + n20)) + (1 : Int)))), some (.bool true)], j14.2))))
else none)
else
some (2, [], j1.2)) : Option (Nat × Slots × AH)) := by kernel_rfl
theorem f86_eq (base : Nat) (v0 : Option Addr) (v0n : Nat) (v1 : Int) (h : AH) : exFun (Et base) (run (Et base)) loopL a86 Try.f86 [(.slice v0 v0n v0n), (.int .i64 v1)] h =
((loopL (B86_0 base) [some (.slice v0 v0n v0n), some (.int .i64 v1), some (.int .i64 (0 : Int)), some (.int .i64 (0 : Int))] h).bind fun q1 =>
(if q1.1 = 1 then
((sget q1.2.1 0).bind (getI .i64)).bind fun n2 =>
((sget (q1.2.1.tail) 0).bind (getI .i64)).bind fun n3 =>
((sget (q1.2.1.tail.tail) 0).bind getB).bind fun b4 =>
some ((.tuple #[(.int .i64 n2), (.int .i64 n3), (.bool b4)]), q1.2.2)
else
(if q1.1 = 2 then
some ((.tuple #[(.int .i64 (0 : Int)), (.int .i64 (0 : Int)), (.bool false)]), q1.2.2)
else
none)) : Option (Value × AH)) := by kernel_rfl
theorem r86 {base : Nat} {v0 : Option Addr} {v0n : Nat} {v1 : Int} {h : AH} {r : Value × AH} (hx :
((loopL (B86_0 base) [some (.slice v0 v0n v0n), some (.int .i64 v1), some (.int .i64 (0 : Int)), some (.int .i64 (0 : Int))] h).bind fun q1 =>
(if q1.1 = 1 then
((sget q1.2.1 0).bind (getI .i64)).bind fun n2 =>
((sget (q1.2.1.tail) 0).bind (getI .i64)).bind fun n3 =>
((sget (q1.2.1.tail.tail) 0).bind getB).bind fun b4 =>
some ((.tuple #[(.int .i64 n2), (.int .i64 n3), (.bool b4)]), q1.2.2)
else
(if q1.1 = 2 then
some ((.tuple #[(.int .i64 (0 : Int)), (.int .i64 (0 : Int)), (.bool false)]), q1.2.2)
else
none))) = some r) : run (Et base) 86 [(.slice v0 v0n v0n), (.int .i64 v1)] h = some r := run_i Try.func86 (by kernel_rfl) ((f86_eq base v0 v0n v1 h).trans hx)
/-! spec.l1New (gates 0) -/
noncomputable def B87_0 (base : Nat) : Body := fun l h => lay s87_0 l fun s => exCode (Et base) (run (Et base)) loopL a87_0 (subC [1, 1, 0, 1, 0, 0] (bodyC Try.f87)) s h (keepK s87_0 e87_0)
theorem B87_0_eq (base : Nat) (v0 : Option Addr) (v0n : Nat) (v3 : Int) (v4 : Int) (h : AH) : B87_0 base [some (.slice v0 v0n v0n), some (.int .i64 v3), some (.int .i64 v4)] h =
(((if (decide (v4 < ((v0n : Nat) : Int))) = true then
some (.inl ([some (.slice v0 v0n v0n), some (.int .i64 v3), some (.int .i64 v4), some (.bool (decide (v4 < (4000 : Int))))], h))
else
some (.inl ([some (.slice v0 v0n v0n), some (.int .i64 v3), some (.int .i64 v4), some (.bool false)], h)))).bind fun j1 => joinK j1 fun j1 =>
((sget j1.1 0).bind getS).bind fun l2 =>
((sget (j1.1.tail) 0).bind (getI .i64)).bind fun n3 =>
((sget (j1.1.tail.tail) 0).bind (getI .i64)).bind fun n4 =>
((sget (j1.1.tail.tail.tail) 0).bind getB).bind fun b5 =>
(if b5 = true then
(if 0 ≤ n4 ∧ n4 < ((l2.2 : Nat) : Int) then
((l2.1 : Option Addr)).bind fun a6 =>
((cell j1.2 a6.block (a6.off + Int.toNat n4 * 1)).bind (getI .u8)).bind fun n7 =>
some (0, [some (.slice l2.1 l2.2 l2.2), some (.int .i64 (Go.bits .and .i64 (IntKind.wrap .i64 ((IntKind.wrap .i64 ((IntKind.wrap .i64 (n3 * (137 : Int))) + (IntKind.wrap .i64 n7))) + (11 : Int))) (1073741823 : Int))), some (.int .i64 (IntKind.wrap .i64 (n4 + (1 : Int))))], j1.2)
else none)
else
some (2, [some (.slice l2.1 l2.2 l2.2), some (.int .i64 n3)], j1.2)) : Option (Nat × Slots × AH)) := by kernel_rfl
theorem f87_eq (base : Nat) (v0 : Option Addr) (v0n : Nat) (h : AH) : exFun (Et base) (run (Et base)) loopL a87 Try.f87 [(.slice v0 v0n v0n)] h =
((loopL (B87_0 base) [some (.slice v0 v0n v0n), some (.int .i64 (IntKind.wrap .i64 ((384384 : Int) + ((v0n : Nat) : Int)))), some (.int .i64 (0 : Int))] h).bind fun q1 =>
(if q1.1 = 2 then
((sget q1.2.1 0).bind getS).bind fun l2 =>
((sget (q1.2.1.tail) 0).bind (getI .i64)).bind fun n3 =>
(some (q1.2.2 ++ [some ⟨[(.slice l2.1 l2.2 l2.2), (.int .i64 (0 : Int)), (.int .i64 n3)], 164⟩])).bind fun h4 =>
some ((.pointer (some ⟨(List.length q1.2.2), 0, none⟩)), h4)
else
none) : Option (Value × AH)) := by kernel_rfl
theorem r87 {base : Nat} {v0 : Option Addr} {v0n : Nat} {h : AH} {r : Value × AH} (hx :
((loopL (B87_0 base) [some (.slice v0 v0n v0n), some (.int .i64 (IntKind.wrap .i64 ((384384 : Int) + ((v0n : Nat) : Int)))), some (.int .i64 (0 : Int))] h).bind fun q1 =>
(if q1.1 = 2 then
((sget q1.2.1 0).bind getS).bind fun l2 =>
((sget (q1.2.1.tail) 0).bind (getI .i64)).bind fun n3 =>
(some (q1.2.2 ++ [some ⟨[(.slice l2.1 l2.2 l2.2), (.int .i64 (0 : Int)), (.int .i64 n3)], 164⟩])).bind fun h4 =>
some ((.pointer (some ⟨(List.length q1.2.2), 0, none⟩)), h4)
else
none)) = some r) : run (Et base) 87 [(.slice v0 v0n v0n)] h = some r := run_i Try.func87 (by kernel_rfl) ((f87_eq base v0 v0n h).trans hx)
/-! spec.l8Code (gates 0) -/
noncomputable def B88_0 (base : Nat) : Body := fun l h => lay s88_0 l fun s => exCode (Et base) (run (Et base)) loopL a88_0 (subC [1, 1, 1, 1, 0, 1, 0, 0] (bodyC Try.f88)) s h (keepK s88_0 e88_0)
theorem B88_0_eq (base : Nat) (v0 : Option Addr) (v5 : Int) (v6 : Option Addr) (v6n : Nat) (v7 : Int) (h : AH) : B88_0 base [some (.pointer v0), some (.int .i64 v5), some (.slice v6 v6n v6n), some (.int .i64 v7)] h =
((if (decide ((IntKind.wrap .i64 (v7 + (1 : Int))) < v5)) = true then
(run (Et base) 127 [(.pointer v0), (.int .i64 v5)] h).bind fun r1 =>
((some r1.1).bind (getAgg 6)).bind fun l2 =>
((l2[0]?).bind (getI .i64)).bind fun n3 =>
((l2[1]?).bind (getI .i64)).bind fun n4 =>
((l2[2]?).bind (getI .i64)).bind fun n5 =>
((l2[3]?).bind (getI .i64)).bind fun n6 =>
((l2[4]?).bind (getI .i64)).bind fun n7 =>
((l2[5]?).bind getStr).bind fun s8 =>
(some (r1.2 ++ [some ⟨[(.int .i64 n3), (.int .i64 n4), (.int .i64 n5), (.int .i64 n6), (.int .i64 n7), (.string s8)], 116⟩])).bind fun h9 =>
(app base h9 116 6 56 v6 v6n (rawAt h9 (some ⟨(List.length r1.2), 0, none⟩) (1 * 6)) 1).bind fun p10 =>
((some p10.1).bind getS).bind fun l11 =>
some (0, [some (.pointer v0), some (.int .i64 v5), some (.slice l11.1 l11.2 l11.2), some (.int .i64 (IntKind.wrap .i64 (v7 + (1 : Int))))], p10.2)
else
some (2, [some (.pointer v0), some (.int .i64 v5), some (.slice v6 v6n v6n)], h)) : Option (Nat × Slots × AH)) := by kernel_rfl
theorem f88_eq (base : Nat) (v0 : Option Addr) (h : AH) : exFun (Et base) (run (Et base)) loopL a88 Try.f88 [(.pointer v0)] h =
((run (Et base) 123 [(.pointer v0), (.int .i64 (2 : Int))] h).bind fun r1 =>
((some r1.1).bind getB).bind fun b2 =>
(if b2 = true then
(run (Et base) 125 [] r1.2).bind fun r3 =>
((some r3.1).bind getS).bind fun l4 =>
(run (Et base) 126 [(.pointer v0), (.int .i64 (6 : Int))] r3.2).bind fun r5 =>
((some r5.1).bind (getI .i64)).bind fun n6 =>
(if 0 ≤ n6 ∧ n6 < ((l4.2 : Nat) : Int) then
((l4.1 : Option Addr)).bind fun a7 =>
((cell r5.2 a7.block (a7.off + Int.toNat n6 * 1)).bind getStr).bind fun s8 =>
(run (Et base) 124 [(.string s8)] r5.2).bind fun r9 =>
(getTup 2 r9.1).bind fun l10 =>
((l10[0]?).bind getS).bind fun l11 =>
((l10[1]?).bind getB).bind fun b12 =>
some ((.slice l11.1 l11.2 l11.2), r9.2)
else none)
else
(run (Et base) 126 [(.pointer v0), (.int .i64 (10 : Int))] r1.2).bind fun r13 =>
((some r13.1).bind (getI .i64)).bind fun n14 =>
(some (r13.2 ++ [some ⟨[], 116⟩])).bind fun h15 =>
(loopL (B88_0 base) [some (.pointer v0), some (.int .i64 (IntKind.wrap .i64 ((3 : Int) + n14))), some (.slice (some ⟨(List.length r13.2), 0, none⟩) 0 0), some (.int .i64 (0 : Int))] h15).bind fun q16 =>
(if q16.1 = 2 then
((sget q16.2.1 0).bind getP).bind fun p17 =>
((sget (q16.2.1.tail) 0).bind (getI .i64)).bind fun n18 =>
((sget (q16.2.1.tail.tail) 0).bind getS).bind fun l19 =>
(run (Et base) 126 [(.pointer p17), (.int .i64 n18)] q16.2.2).bind fun r20 =>
((some r20.1).bind (getI .i64)).bind fun n21 =>
(some (r20.2 ++ [some ⟨[(.int .i64 (12 : Int)), (.int .i64 (0 : Int)), (.int .i64 (0 : Int)), (.int .i64 (0 : Int)), (.int .i64 n21), (.string (⟨#[]⟩ : ByteArray))], 116⟩])).bind fun h22 =>
(app base h22 116 6 56 l19.1 l19.2 (rawAt h22 (some ⟨(List.length r20.2), 0, none⟩) (1 * 6)) 1).bind fun p23 =>
((some p23.1).bind getS).bind fun l24 =>
some ((.slice l24.1 l24.2 l24.2), p23.2)
else
none)) : Option (Value × AH)) := by kernel_rfl
theorem r88 {base : Nat} {v0 : Option Addr} {h : AH} {r : Value × AH} (hx :
((run (Et base) 123 [(.pointer v0), (.int .i64 (2 : Int))] h).bind fun r1 =>
((some r1.1).bind getB).bind fun b2 =>
(if b2 = true then
(run (Et base) 125 [] r1.2).bind fun r3 =>
((some r3.1).bind getS).bind fun l4 =>
(run (Et base) 126 [(.pointer v0), (.int .i64 (6 : Int))] r3.2).bind fun r5 =>
((some r5.1).bind (getI .i64)).bind fun n6 =>
(if 0 ≤ n6 ∧ n6 < ((l4.2 : Nat) : Int) then
((l4.1 : Option Addr)).bind fun a7 =>
((cell r5.2 a7.block (a7.off + Int.toNat n6 * 1)).bind getStr).bind fun s8 =>
(run (Et base) 124 [(.string s8)] r5.2).bind fun r9 =>
(getTup 2 r9.1).bind fun l10 =>
((l10[0]?).bind getS).bind fun l11 =>
((l10[1]?).bind getB).bind fun b12 =>
some ((.slice l11.1 l11.2 l11.2), r9.2)
else none)
else
(run (Et base) 126 [(.pointer v0), (.int .i64 (10 : Int))] r1.2).bind fun r13 =>
((some r13.1).bind (getI .i64)).bind fun n14 =>
(some (r13.2 ++ [some ⟨[], 116⟩])).bind fun h15 =>
(loopL (B88_0 base) [some (.pointer v0), some (.int .i64 (IntKind.wrap .i64 ((3 : Int) + n14))), some (.slice (some ⟨(List.length r13.2), 0, none⟩) 0 0), some (.int .i64 (0 : Int))] h15).bind fun q16 =>
(if q16.1 = 2 then
((sget q16.2.1 0).bind getP).bind fun p17 =>
((sget (q16.2.1.tail) 0).bind (getI .i64)).bind fun n18 =>
((sget (q16.2.1.tail.tail) 0).bind getS).bind fun l19 =>
(run (Et base) 126 [(.pointer p17), (.int .i64 n18)] q16.2.2).bind fun r20 =>
((some r20.1).bind (getI .i64)).bind fun n21 =>
(some (r20.2 ++ [some ⟨[(.int .i64 (12 : Int)), (.int .i64 (0 : Int)), (.int .i64 (0 : Int)), (.int .i64 (0 : Int)), (.int .i64 n21), (.string (⟨#[]⟩ : ByteArray))], 116⟩])).bind fun h22 =>
(app base h22 116 6 56 l19.1 l19.2 (rawAt h22 (some ⟨(List.length r20.2), 0, none⟩) (1 * 6)) 1).bind fun p23 =>
((some p23.1).bind getS).bind fun l24 =>
some ((.slice l24.1 l24.2 l24.2), p23.2)
else
none))) = some r) : run (Et base) 88 [(.pointer v0)] h = some r := run_i Try.func88 (by kernel_rfl) ((f88_eq base v0 h).trans hx)
/-! spec.l1Int (gates 0) -/
theorem f107_eq (base : Nat) (v0 : Option Addr) (v1 : Option Addr) (v1n : Nat) (h : AH) : exFun (Et base) (run (Et base)) loopL a107 Try.f107 [(.pointer v0), (.slice v1 v1n v1n)] h =
((run (Et base) 126 [(.pointer v0), (.int .i64 ((v1n : Nat) : Int))] h).bind fun r1 =>
((some r1.1).bind (getI .i64)).bind fun n2 =>
(if 0 ≤ n2 ∧ n2 < ((v1n : Nat) : Int) then
((v1 : Option Addr)).bind fun a3 =>
((cell r1.2 a3.block (a3.off + Int.toNat n2 * 1)).bind (getI .i64)).bind fun n4 =>
some ((.int .i64 n4), r1.2)
else none) : Option (Value × AH)) := by kernel_rfl
theorem r107 {base : Nat} {v0 : Option Addr} {v1 : Option Addr} {v1n : Nat} {h : AH} {r : Value × AH} (hx :
((run (Et base) 126 [(.pointer v0), (.int .i64 ((v1n : Nat) : Int))] h).bind fun r1 =>
((some r1.1).bind (getI .i64)).bind fun n2 =>
(if 0 ≤ n2 ∧ n2 < ((v1n : Nat) : Int) then
((v1 : Option Addr)).bind fun a3 =>
((cell r1.2 a3.block (a3.off + Int.toNat n2 * 1)).bind (getI .i64)).bind fun n4 =>
some ((.int .i64 n4), r1.2)
else none)) = some r) : run (Et base) 107 [(.pointer v0), (.slice v1 v1n v1n)] h = some r := run_i Try.func107 (by kernel_rfl) ((f107_eq base v0 v1 v1n h).trans hx)
/-! spec.InsOk (gates 1) -/
theorem f120_eq (base : Nat) (v0_0 : Int) (v0_1 : Int) (v0_2 : Int) (v0_3 : Int) (v0_4 : Int) (v0_5 : ByteArray) (v1 : Int) (h : AH) : exFun (Et base) (run (Et base)) loopL a120 Try.f120 [(.agg #[(.int .i64 v0_0), (.int .i64 v0_1), (.int .i64 v0_2), (.int .i64 v0_3), (.int .i64 v0_4), (.string v0_5)]), (.int .i64 v1)] h =
((some (h ++ [some ⟨[(.int .i64 v0_0), (.int .i64 v0_1), (.int .i64 v0_2), (.int .i64 v0_3), (.int .i64 v0_4), (.string v0_5)], 116⟩])).bind fun h1 =>
((run (Et base) 62 [(.int .i64 v1), (.int .i64 (1 : Int)), (.int .i64 (200 : Int))] h1).bind fun r3 =>
((some r3.1).bind getB).bind fun b4 =>
(if (!b4) = true then
some (.inl ([some (.int .i64 v1), some (.pointer (some ⟨(List.length h), 0, none⟩)), some (.bool true)], r3.2))
else
((cell r3.2 (List.length h) 0).bind (getI .i64)).bind fun n5 =>
(run (Et base) 62 [(.int .i64 n5), (.int .i64 (1 : Int)), (.int .i64 (20 : Int))] r3.2).bind fun r6 =>
((some r6.1).bind getB).bind fun b7 =>
some (.inl ([some (.int .i64 v1), some (.pointer (some ⟨(List.length h), 0, none⟩)), some (.bool (!b7))], r6.2)))).bind fun j2 => joinK j2 fun j2 =>
((sget j2.1 0).bind (getI .i64)).bind fun n8 =>
((sget (j2.1.tail) 0).bind getA).bind fun d9 =>
((sget (j2.1.tail.tail) 0).bind getB).bind fun b10 =>
(if b10 = true then
some ((.bool false), j2.2)
else
(run (Et base) 141 [] j2.2).bind fun r11 =>
((some r11.1).bind getS).bind fun l12 =>
(gate (sameA j2.2 r11.2 (some ⟨d9.block, (d9.off + 0), none⟩) 1)
(((cell r11.2 d9.block (d9.off + 0)).bind (getI .i64)).bind fun n13 =>
(if 0 ≤ (IntKind.wrap .i64 (n13 - (1 : Int))) ∧ (IntKind.wrap .i64 (n13 - (1 : Int))) < ((l12.2 : Nat) : Int) then
((l12.1 : Option Addr)).bind fun a14 =>
((cell r11.2 a14.block (a14.off + Int.toNat (IntKind.wrap .i64 (n13 - (1 : Int))) * 1)).bind getStr).bind fun s15 =>
(((cell r11.2 d9.block (d9.off + 1)).bind (getI .i64)).bind fun n17 =>
(run (Et base) 142 [(.string s15), (.int .u8 (65 : Int)), (.int .i64 n17)] r11.2).bind fun r18 =>
((some r18.1).bind getB).bind fun b19 =>
(if (!b19) = true then
some (.inl ([some (.int .i64 n8), some (.pointer (some d9)), some (.bool true)], r18.2))
else
((cell r18.2 d9.block (d9.off + 3)).bind (getI .i64)).bind fun n20 =>
(run (Et base) 142 [(.string s15), (.int .u8 (67 : Int)), (.int .i64 n20)] r18.2).bind fun r21 =>
((some r21.1).bind getB).bind fun b22 =>
(if (!b22) = true then
some (.inl ([some (.int .i64 n8), some (.pointer (some d9)), some (.bool true)], r21.2))
else
((cell r21.2 d9.block (d9.off + 0)).bind (getI .i64)).bind fun n23 =>
(if (n23 != (11 : Int)) = true then
((cell r21.2 d9.block (d9.off + 2)).bind (getI .i64)).bind fun n24 =>
(run (Et base) 142 [(.string s15), (.int .u8 (66 : Int)), (.int .i64 n24)] r21.2).bind fun r25 =>
((some r25.1).bind getB).bind fun b26 =>
(if (!b26) = true then
some (.inl ([some (.int .i64 n8), some (.pointer (some d9)), some (.bool true)], r25.2))
else
((cell r25.2 d9.block (d9.off + 0)).bind (getI .i64)).bind fun n27 =>
(if (n27 == (11 : Int)) = true then
((cell r25.2 d9.block (d9.off + 2)).bind (getI .i64)).bind fun n28 =>
(run (Et base) 62 [(.int .i64 n28), (.int .i64 (1 : Int)), (.int .i64 (6 : Int))] r25.2).bind fun r29 =>
((some r29.1).bind getB).bind fun b30 =>
some (.inl ([some (.int .i64 n8), some (.pointer (some d9)), some (.bool (!b30))], r29.2))
else
some (.inl ([some (.int .i64 n8), some (.pointer (some d9)), some (.bool false)], r25.2))))
else
((cell r21.2 d9.block (d9.off + 0)).bind (getI .i64)).bind fun n31 =>
(if (n31 == (11 : Int)) = true then
((cell r21.2 d9.block (d9.off + 2)).bind (getI .i64)).bind fun n32 =>
(run (Et base) 62 [(.int .i64 n32), (.int .i64 (1 : Int)), (.int .i64 (6 : Int))] r21.2).bind fun r33 =>
((some r33.1).bind getB).bind fun b34 =>
some (.inl ([some (.int .i64 n8), some (.pointer (some d9)), some (.bool (!b34))], r33.2))
else
some (.inl ([some (.int .i64 n8), some (.pointer (some d9)), some (.bool false)], r21.2))))))).bind fun j16 => joinK j16 fun j16 =>
((sget j16.1 0).bind (getI .i64)).bind fun n35 =>
((sget (j16.1.tail) 0).bind getA).bind fun d36 =>
((sget (j16.1.tail.tail) 0).bind getB).bind fun b37 =>
(if b37 = true then
some ((.bool false), j16.2)
else
(((cell j16.2 d36.block (d36.off + 0)).bind (getI .i64)).bind fun n39 =>
(if (n39 == (2 : Int)) = true then
((cell j16.2 d36.block (d36.off + 5)).bind getStr).bind fun s40 =>
(run (Et base) 143 [(.string s40)] j16.2).bind fun r41 =>
((some r41.1).bind getB).bind fun b42 =>
(if (!b42) = true then
some (.inl ([some (.int .i64 n35), some (.pointer (some d36)), some (.bool true)], r41.2))
else
((cell r41.2 d36.block (d36.off + 0)).bind (getI .i64)).bind fun n43 =>
(if (n43 != (2 : Int)) = true then
((cell r41.2 d36.block (d36.off + 5)).bind getStr).bind fun s44 =>
some (.inl ([some (.int .i64 n35), some (.pointer (some d36)), some (.bool (!(s44.toList == (⟨#[]⟩ : ByteArray).toList)))], r41.2))
else
some (.inl ([some (.int .i64 n35), some (.pointer (some d36)), some (.bool false)], r41.2))))
else
((cell j16.2 d36.block (d36.off + 0)).bind (getI .i64)).bind fun n45 =>
(if (n45 != (2 : Int)) = true then
((cell j16.2 d36.block (d36.off + 5)).bind getStr).bind fun s46 =>
some (.inl ([some (.int .i64 n35), some (.pointer (some d36)), some (.bool (!(s46.toList == (⟨#[]⟩ : ByteArray).toList)))], j16.2))
else
some (.inl ([some (.int .i64 n35), some (.pointer (some d36)), some (.bool false)], j16.2))))).bind fun j38 => joinK j38 fun j38 =>
((sget j38.1 0).bind (getI .i64)).bind fun n47 =>
((sget (j38.1.tail) 0).bind getA).bind fun d48 =>
((sget (j38.1.tail.tail) 0).bind getB).bind fun b49 =>
(if b49 = true then
some ((.bool false), j38.2)
else
((cell j38.2 d48.block d48.off).bind (getI .i64)).bind fun n50 =>
((cell j38.2 d48.block (d48.off + 1)).bind (getI .i64)).bind fun n51 =>
((cell j38.2 d48.block ((d48.off + 1) + 1)).bind (getI .i64)).bind fun n52 =>
((cell j38.2 d48.block (((d48.off + 1) + 1) + 1)).bind (getI .i64)).bind fun n53 =>
((cell j38.2 d48.block ((((d48.off + 1) + 1) + 1) + 1)).bind (getI .i64)).bind fun n54 =>
((cell j38.2 d48.block (((((d48.off + 1) + 1) + 1) + 1) + 1)).bind getStr).bind fun s55 =>
(run (Et base) 144 [(.agg #[(.int .i64 n50), (.int .i64 n51), (.int .i64 n52), (.int .i64 n53), (.int .i64 n54), (.string s55)]), (.int .i64 n47)] j38.2).bind fun r56 =>
((some r56.1).bind getB).bind fun b57 =>
some ((.bool b57), r56.2)))
else none)))) : Option (Value × AH)) := by kernel_rfl
theorem r120 {base : Nat} {v0_0 : Int} {v0_1 : Int} {v0_2 : Int} {v0_3 : Int} {v0_4 : Int} {v0_5 : ByteArray} {v1 : Int} {h : AH} {r : Value × AH} (hx :
((some (h ++ [some ⟨[(.int .i64 v0_0), (.int .i64 v0_1), (.int .i64 v0_2), (.int .i64 v0_3), (.int .i64 v0_4), (.string v0_5)], 116⟩])).bind fun h1 =>
((run (Et base) 62 [(.int .i64 v1), (.int .i64 (1 : Int)), (.int .i64 (200 : Int))] h1).bind fun r3 =>
((some r3.1).bind getB).bind fun b4 =>
(if (!b4) = true then
some (.inl ([some (.int .i64 v1), some (.pointer (some ⟨(List.length h), 0, none⟩)), some (.bool true)], r3.2))
else
((cell r3.2 (List.length h) 0).bind (getI .i64)).bind fun n5 =>
(run (Et base) 62 [(.int .i64 n5), (.int .i64 (1 : Int)), (.int .i64 (20 : Int))] r3.2).bind fun r6 =>
((some r6.1).bind getB).bind fun b7 =>
some (.inl ([some (.int .i64 v1), some (.pointer (some ⟨(List.length h), 0, none⟩)), some (.bool (!b7))], r6.2)))).bind fun j2 => joinK j2 fun j2 =>
((sget j2.1 0).bind (getI .i64)).bind fun n8 =>
((sget (j2.1.tail) 0).bind getA).bind fun d9 =>
((sget (j2.1.tail.tail) 0).bind getB).bind fun b10 =>
(if b10 = true then
some ((.bool false), j2.2)
else
(run (Et base) 141 [] j2.2).bind fun r11 =>
((some r11.1).bind getS).bind fun l12 =>
(gate (sameA j2.2 r11.2 (some ⟨d9.block, (d9.off + 0), none⟩) 1)
(((cell r11.2 d9.block (d9.off + 0)).bind (getI .i64)).bind fun n13 =>
(if 0 ≤ (IntKind.wrap .i64 (n13 - (1 : Int))) ∧ (IntKind.wrap .i64 (n13 - (1 : Int))) < ((l12.2 : Nat) : Int) then
((l12.1 : Option Addr)).bind fun a14 =>
((cell r11.2 a14.block (a14.off + Int.toNat (IntKind.wrap .i64 (n13 - (1 : Int))) * 1)).bind getStr).bind fun s15 =>
(((cell r11.2 d9.block (d9.off + 1)).bind (getI .i64)).bind fun n17 =>
(run (Et base) 142 [(.string s15), (.int .u8 (65 : Int)), (.int .i64 n17)] r11.2).bind fun r18 =>
((some r18.1).bind getB).bind fun b19 =>
(if (!b19) = true then
some (.inl ([some (.int .i64 n8), some (.pointer (some d9)), some (.bool true)], r18.2))
else
((cell r18.2 d9.block (d9.off + 3)).bind (getI .i64)).bind fun n20 =>
(run (Et base) 142 [(.string s15), (.int .u8 (67 : Int)), (.int .i64 n20)] r18.2).bind fun r21 =>
((some r21.1).bind getB).bind fun b22 =>
(if (!b22) = true then
some (.inl ([some (.int .i64 n8), some (.pointer (some d9)), some (.bool true)], r21.2))
else
((cell r21.2 d9.block (d9.off + 0)).bind (getI .i64)).bind fun n23 =>
(if (n23 != (11 : Int)) = true then
((cell r21.2 d9.block (d9.off + 2)).bind (getI .i64)).bind fun n24 =>
(run (Et base) 142 [(.string s15), (.int .u8 (66 : Int)), (.int .i64 n24)] r21.2).bind fun r25 =>
((some r25.1).bind getB).bind fun b26 =>
(if (!b26) = true then
some (.inl ([some (.int .i64 n8), some (.pointer (some d9)), some (.bool true)], r25.2))
else
((cell r25.2 d9.block (d9.off + 0)).bind (getI .i64)).bind fun n27 =>
(if (n27 == (11 : Int)) = true then
((cell r25.2 d9.block (d9.off + 2)).bind (getI .i64)).bind fun n28 =>
(run (Et base) 62 [(.int .i64 n28), (.int .i64 (1 : Int)), (.int .i64 (6 : Int))] r25.2).bind fun r29 =>
((some r29.1).bind getB).bind fun b30 =>
some (.inl ([some (.int .i64 n8), some (.pointer (some d9)), some (.bool (!b30))], r29.2))
else
some (.inl ([some (.int .i64 n8), some (.pointer (some d9)), some (.bool false)], r25.2))))
else
((cell r21.2 d9.block (d9.off + 0)).bind (getI .i64)).bind fun n31 =>
(if (n31 == (11 : Int)) = true then
((cell r21.2 d9.block (d9.off + 2)).bind (getI .i64)).bind fun n32 =>
(run (Et base) 62 [(.int .i64 n32), (.int .i64 (1 : Int)), (.int .i64 (6 : Int))] r21.2).bind fun r33 =>
((some r33.1).bind getB).bind fun b34 =>
some (.inl ([some (.int .i64 n8), some (.pointer (some d9)), some (.bool (!b34))], r33.2))
else
some (.inl ([some (.int .i64 n8), some (.pointer (some d9)), some (.bool false)], r21.2))))))).bind fun j16 => joinK j16 fun j16 =>
((sget j16.1 0).bind (getI .i64)).bind fun n35 =>
((sget (j16.1.tail) 0).bind getA).bind fun d36 =>
((sget (j16.1.tail.tail) 0).bind getB).bind fun b37 =>
(if b37 = true then
some ((.bool false), j16.2)
else
(((cell j16.2 d36.block (d36.off + 0)).bind (getI .i64)).bind fun n39 =>
(if (n39 == (2 : Int)) = true then
((cell j16.2 d36.block (d36.off + 5)).bind getStr).bind fun s40 =>
(run (Et base) 143 [(.string s40)] j16.2).bind fun r41 =>
((some r41.1).bind getB).bind fun b42 =>
(if (!b42) = true then
some (.inl ([some (.int .i64 n35), some (.pointer (some d36)), some (.bool true)], r41.2))
else
((cell r41.2 d36.block (d36.off + 0)).bind (getI .i64)).bind fun n43 =>
(if (n43 != (2 : Int)) = true then
((cell r41.2 d36.block (d36.off + 5)).bind getStr).bind fun s44 =>
some (.inl ([some (.int .i64 n35), some (.pointer (some d36)), some (.bool (!(s44.toList == (⟨#[]⟩ : ByteArray).toList)))], r41.2))
else
some (.inl ([some (.int .i64 n35), some (.pointer (some d36)), some (.bool false)], r41.2))))
else
((cell j16.2 d36.block (d36.off + 0)).bind (getI .i64)).bind fun n45 =>
(if (n45 != (2 : Int)) = true then
((cell j16.2 d36.block (d36.off + 5)).bind getStr).bind fun s46 =>
some (.inl ([some (.int .i64 n35), some (.pointer (some d36)), some (.bool (!(s46.toList == (⟨#[]⟩ : ByteArray).toList)))], j16.2))
else
some (.inl ([some (.int .i64 n35), some (.pointer (some d36)), some (.bool false)], j16.2))))).bind fun j38 => joinK j38 fun j38 =>
((sget j38.1 0).bind (getI .i64)).bind fun n47 =>
((sget (j38.1.tail) 0).bind getA).bind fun d48 =>
((sget (j38.1.tail.tail) 0).bind getB).bind fun b49 =>
(if b49 = true then
some ((.bool false), j38.2)
else
((cell j38.2 d48.block d48.off).bind (getI .i64)).bind fun n50 =>
((cell j38.2 d48.block (d48.off + 1)).bind (getI .i64)).bind fun n51 =>
((cell j38.2 d48.block ((d48.off + 1) + 1)).bind (getI .i64)).bind fun n52 =>
((cell j38.2 d48.block (((d48.off + 1) + 1) + 1)).bind (getI .i64)).bind fun n53 =>
((cell j38.2 d48.block ((((d48.off + 1) + 1) + 1) + 1)).bind (getI .i64)).bind fun n54 =>
((cell j38.2 d48.block (((((d48.off + 1) + 1) + 1) + 1) + 1)).bind getStr).bind fun s55 =>
(run (Et base) 144 [(.agg #[(.int .i64 n50), (.int .i64 n51), (.int .i64 n52), (.int .i64 n53), (.int .i64 n54), (.string s55)]), (.int .i64 n47)] j38.2).bind fun r56 =>
((some r56.1).bind getB).bind fun b57 =>
some ((.bool b57), r56.2)))
else none))))) = some r) : run (Et base) 120 [(.agg #[(.int .i64 v0_0), (.int .i64 v0_1), (.int .i64 v0_2), (.int .i64 v0_3), (.int .i64 v0_4), (.string v0_5)]), (.int .i64 v1)] h = some r := run_i Try.func120 (by kernel_rfl) ((f120_eq base v0_0 v0_1 v0_2 v0_3 v0_4 v0_5 v1 h).trans hx)
/-! impl.InsOk (gates 0) -/
theorem f121_eq (base : Nat) (v0_0 : Int) (v0_1 : Int) (v0_2 : Int) (v0_3 : Int) (v0_4 : Int) (v0_5 : ByteArray) (v1 : Int) (h : AH) : exFun (Et base) (run (Et base)) loopL a121 Try.f121 [(.agg #[(.int .i64 v0_0), (.int .i64 v0_1), (.int .i64 v0_2), (.int .i64 v0_3), (.int .i64 v0_4), (.string v0_5)]), (.int .i64 v1)] h =
((some (h ++ [some ⟨[(.int .i64 v0_0), (.int .i64 v0_1), (.int .i64 v0_2), (.int .i64 v0_3), (.int .i64 v0_4), (.string v0_5)], 116⟩])).bind fun h1 =>
((run (Et base) 67 [(.int .i64 v1), (.int .i64 (1 : Int)), (.int .i64 (200 : Int))] h1).bind fun r3 =>
((some r3.1).bind getB).bind fun b4 =>
(if (!b4) = true then
some (.inl ([some (.int .i64 v1), some (.pointer (some ⟨(List.length h), 0, none⟩)), some (.bool true)], r3.2))
else
((cell r3.2 (List.length h) 0).bind (getI .i64)).bind fun n5 =>
((cell r3.2 (List.length h) 1).bind (getI .i64)).bind fun n6 =>
((cell r3.2 (List.length h) 2).bind (getI .i64)).bind fun n7 =>
((cell r3.2 (List.length h) 3).bind (getI .i64)).bind fun n8 =>
((cell r3.2 (List.length h) 4).bind (getI .i64)).bind fun n9 =>
((cell r3.2 (List.length h) 5).bind getStr).bind fun s10 =>
(run (Et base) 145 [(.agg #[(.int .i64 n5), (.int .i64 n6), (.int .i64 n7), (.int .i64 n8), (.int .i64 n9), (.string s10)])] r3.2).bind fun r11 =>
((some r11.1).bind getB).bind fun b12 =>
(if (!b12) = true then
some (.inl ([some (.int .i64 v1), some (.pointer (some ⟨(List.length h), 0, none⟩)), some (.bool true)], r11.2))
else
((cell r11.2 (List.length h) 1).bind (getI .i64)).bind fun n13 =>
(run (Et base) 146 [(.int .i64 n13)] r11.2).bind fun r14 =>
((some r14.1).bind getB).bind fun b15 =>
(if (!b15) = true then
some (.inl ([some (.int .i64 v1), some (.pointer (some ⟨(List.length h), 0, none⟩)), some (.bool true)], r14.2))
else
((cell r14.2 (List.length h) 2).bind (getI .i64)).bind fun n16 =>
(run (Et base) 146 [(.int .i64 n16)] r14.2).bind fun r17 =>
((some r17.1).bind getB).bind fun b18 =>
(if (!b18) = true then
some (.inl ([some (.int .i64 v1), some (.pointer (some ⟨(List.length h), 0, none⟩)), some (.bool true)], r17.2))
else
((cell r17.2 (List.length h) 3).bind (getI .i64)).bind fun n19 =>
(run (Et base) 146 [(.int .i64 n19)] r17.2).bind fun r20 =>
((some r20.1).bind getB).bind fun b21 =>
some (.inl ([some (.int .i64 v1), some (.pointer (some ⟨(List.length h), 0, none⟩)), some (.bool (!b21))], r20.2))))))).bind fun j2 => joinK j2 fun j2 =>
((sget j2.1 0).bind (getI .i64)).bind fun n22 =>
((sget (j2.1.tail) 0).bind getA).bind fun d23 =>
((sget (j2.1.tail.tail) 0).bind getB).bind fun b24 =>
(if b24 = true then
some ((.bool false), j2.2)
else
((cell j2.2 d23.block (d23.off + 0)).bind (getI .i64)).bind fun n25 =>
(if (n25 == (1 : Int)) = true then
((cell j2.2 d23.block (d23.off + 4)).bind (getI .i64)).bind fun n26 =>
(run (Et base) 67 [(.int .i64 n26), (.int .i64 (-1000000 : Int)), (.int .i64 (1000000 : Int))] j2.2).bind fun r27 =>
((some r27.1).bind getB).bind fun b28 =>
some ((.bool b28), r27.2)
else
(if (n25 == (2 : Int)) = true then
((cell j2.2 d23.block (d23.off + 5)).bind getStr).bind fun s29 =>
(run (Et base) 147 [(.string s29)] j2.2).bind fun r30 =>
((some r30.1).bind getB).bind fun b31 =>
some ((.bool b31), r30.2)
else
(if (n25 == (4 : Int)) = true then
((cell j2.2 d23.block (d23.off + 4)).bind (getI .i64)).bind fun n32 =>
(run (Et base) 67 [(.int .i64 n32), (.int .i64 (0 : Int)), (.int .i64 (8 : Int))] j2.2).bind fun r33 =>
((some r33.1).bind getB).bind fun b34 =>
(if b34 = true then
((cell r33.2 d23.block (d23.off + 2)).bind (getI .i64)).bind fun n35 =>
((cell r33.2 d23.block (d23.off + 4)).bind (getI .i64)).bind fun n36 =>
some ((.bool (decide ((IntKind.wrap .i64 (n35 + n36)) ≤ (8 : Int)))), r33.2)
else
some ((.bool false), r33.2))
else
(if (n25 == (6 : Int)) = true then
((cell j2.2 d23.block (d23.off + 4)).bind (getI .i64)).bind fun n37 =>
(run (Et base) 67 [(.int .i64 n37), (.int .i64 (0 : Int)), (.int .i64 (7 : Int))] j2.2).bind fun r38 =>
((some r38.1).bind getB).bind fun b39 =>
some ((.bool b39), r38.2)
else
(if (n25 == (11 : Int)) = true then
((cell j2.2 d23.block (d23.off + 2)).bind (getI .i64)).bind fun n40 =>
(run (Et base) 67 [(.int .i64 n40), (.int .i64 (1 : Int)), (.int .i64 (6 : Int))] j2.2).bind fun r41 =>
((some r41.1).bind getB).bind fun b42 =>
(if b42 = true then
((cell r41.2 d23.block (d23.off + 4)).bind (getI .i64)).bind fun n43 =>
(run (Et base) 67 [(.int .i64 n43), (.int .i64 (0 : Int)), (.int .i64 (IntKind.wrap .i64 (n22 - (1 : Int))))] r41.2).bind fun r44 =>
((some r44.1).bind getB).bind fun b45 =>
some ((.bool b45), r44.2)
else
some ((.bool false), r41.2))
else
((if (n25 == (10 : Int)) = true then
some (.inl ([some (.int .i64 n22), some (.pointer (some d23)), some (.bool (n25 == (10 : Int)))], j2.2))
else
(if (n25 == (12 : Int)) = true then
some (.inl ([some (.int .i64 n22), some (.pointer (some d23)), some (.bool (n25 == (12 : Int)))], j2.2))
else
some (.inl ([some (.int .i64 n22), some (.pointer (some d23)), some (.bool (n25 == (16 : Int)))], j2.2))))).bind fun j46 => joinK j46 fun j46 =>
((sget j46.1 0).bind (getI .i64)).bind fun n47 =>
((sget (j46.1.tail) 0).bind getA).bind fun d48 =>
((sget (j46.1.tail.tail) 0).bind getB).bind fun b49 =>
(if b49 = true then
((cell j46.2 d48.block (d48.off + 4)).bind (getI .i64)).bind fun n50 =>
(run (Et base) 67 [(.int .i64 n50), (.int .i64 (0 : Int)), (.int .i64 (IntKind.wrap .i64 (n47 - (1 : Int))))] j46.2).bind fun r51 =>
((some r51.1).bind getB).bind fun b52 =>
some ((.bool b52), r51.2)
else
some ((.bool true), j46.2)))))))) : Option (Value × AH)) := by kernel_rfl
theorem r121 {base : Nat} {v0_0 : Int} {v0_1 : Int} {v0_2 : Int} {v0_3 : Int} {v0_4 : Int} {v0_5 : ByteArray} {v1 : Int} {h : AH} {r : Value × AH} (hx :
((some (h ++ [some ⟨[(.int .i64 v0_0), (.int .i64 v0_1), (.int .i64 v0_2), (.int .i64 v0_3), (.int .i64 v0_4), (.string v0_5)], 116⟩])).bind fun h1 =>
((run (Et base) 67 [(.int .i64 v1), (.int .i64 (1 : Int)), (.int .i64 (200 : Int))] h1).bind fun r3 =>
((some r3.1).bind getB).bind fun b4 =>
(if (!b4) = true then
some (.inl ([some (.int .i64 v1), some (.pointer (some ⟨(List.length h), 0, none⟩)), some (.bool true)], r3.2))
else
((cell r3.2 (List.length h) 0).bind (getI .i64)).bind fun n5 =>
((cell r3.2 (List.length h) 1).bind (getI .i64)).bind fun n6 =>
((cell r3.2 (List.length h) 2).bind (getI .i64)).bind fun n7 =>
((cell r3.2 (List.length h) 3).bind (getI .i64)).bind fun n8 =>
((cell r3.2 (List.length h) 4).bind (getI .i64)).bind fun n9 =>
((cell r3.2 (List.length h) 5).bind getStr).bind fun s10 =>
(run (Et base) 145 [(.agg #[(.int .i64 n5), (.int .i64 n6), (.int .i64 n7), (.int .i64 n8), (.int .i64 n9), (.string s10)])] r3.2).bind fun r11 =>
((some r11.1).bind getB).bind fun b12 =>
(if (!b12) = true then
some (.inl ([some (.int .i64 v1), some (.pointer (some ⟨(List.length h), 0, none⟩)), some (.bool true)], r11.2))
else
((cell r11.2 (List.length h) 1).bind (getI .i64)).bind fun n13 =>
(run (Et base) 146 [(.int .i64 n13)] r11.2).bind fun r14 =>
((some r14.1).bind getB).bind fun b15 =>
(if (!b15) = true then
some (.inl ([some (.int .i64 v1), some (.pointer (some ⟨(List.length h), 0, none⟩)), some (.bool true)], r14.2))
else
((cell r14.2 (List.length h) 2).bind (getI .i64)).bind fun n16 =>
(run (Et base) 146 [(.int .i64 n16)] r14.2).bind fun r17 =>
((some r17.1).bind getB).bind fun b18 =>
(if (!b18) = true then
some (.inl ([some (.int .i64 v1), some (.pointer (some ⟨(List.length h), 0, none⟩)), some (.bool true)], r17.2))
else
((cell r17.2 (List.length h) 3).bind (getI .i64)).bind fun n19 =>
(run (Et base) 146 [(.int .i64 n19)] r17.2).bind fun r20 =>
((some r20.1).bind getB).bind fun b21 =>
some (.inl ([some (.int .i64 v1), some (.pointer (some ⟨(List.length h), 0, none⟩)), some (.bool (!b21))], r20.2))))))).bind fun j2 => joinK j2 fun j2 =>
((sget j2.1 0).bind (getI .i64)).bind fun n22 =>
((sget (j2.1.tail) 0).bind getA).bind fun d23 =>
((sget (j2.1.tail.tail) 0).bind getB).bind fun b24 =>
(if b24 = true then
some ((.bool false), j2.2)
else
((cell j2.2 d23.block (d23.off + 0)).bind (getI .i64)).bind fun n25 =>
(if (n25 == (1 : Int)) = true then
((cell j2.2 d23.block (d23.off + 4)).bind (getI .i64)).bind fun n26 =>
(run (Et base) 67 [(.int .i64 n26), (.int .i64 (-1000000 : Int)), (.int .i64 (1000000 : Int))] j2.2).bind fun r27 =>
((some r27.1).bind getB).bind fun b28 =>
some ((.bool b28), r27.2)
else
(if (n25 == (2 : Int)) = true then
((cell j2.2 d23.block (d23.off + 5)).bind getStr).bind fun s29 =>
(run (Et base) 147 [(.string s29)] j2.2).bind fun r30 =>
((some r30.1).bind getB).bind fun b31 =>
some ((.bool b31), r30.2)
else
(if (n25 == (4 : Int)) = true then
((cell j2.2 d23.block (d23.off + 4)).bind (getI .i64)).bind fun n32 =>
(run (Et base) 67 [(.int .i64 n32), (.int .i64 (0 : Int)), (.int .i64 (8 : Int))] j2.2).bind fun r33 =>
((some r33.1).bind getB).bind fun b34 =>
(if b34 = true then
((cell r33.2 d23.block (d23.off + 2)).bind (getI .i64)).bind fun n35 =>
((cell r33.2 d23.block (d23.off + 4)).bind (getI .i64)).bind fun n36 =>
some ((.bool (decide ((IntKind.wrap .i64 (n35 + n36)) ≤ (8 : Int)))), r33.2)
else
some ((.bool false), r33.2))
else
(if (n25 == (6 : Int)) = true then
((cell j2.2 d23.block (d23.off + 4)).bind (getI .i64)).bind fun n37 =>
(run (Et base) 67 [(.int .i64 n37), (.int .i64 (0 : Int)), (.int .i64 (7 : Int))] j2.2).bind fun r38 =>
((some r38.1).bind getB).bind fun b39 =>
some ((.bool b39), r38.2)
else
(if (n25 == (11 : Int)) = true then
((cell j2.2 d23.block (d23.off + 2)).bind (getI .i64)).bind fun n40 =>
(run (Et base) 67 [(.int .i64 n40), (.int .i64 (1 : Int)), (.int .i64 (6 : Int))] j2.2).bind fun r41 =>
((some r41.1).bind getB).bind fun b42 =>
(if b42 = true then
((cell r41.2 d23.block (d23.off + 4)).bind (getI .i64)).bind fun n43 =>
(run (Et base) 67 [(.int .i64 n43), (.int .i64 (0 : Int)), (.int .i64 (IntKind.wrap .i64 (n22 - (1 : Int))))] r41.2).bind fun r44 =>
((some r44.1).bind getB).bind fun b45 =>
some ((.bool b45), r44.2)
else
some ((.bool false), r41.2))
else
((if (n25 == (10 : Int)) = true then
some (.inl ([some (.int .i64 n22), some (.pointer (some d23)), some (.bool (n25 == (10 : Int)))], j2.2))
else
(if (n25 == (12 : Int)) = true then
some (.inl ([some (.int .i64 n22), some (.pointer (some d23)), some (.bool (n25 == (12 : Int)))], j2.2))
else
some (.inl ([some (.int .i64 n22), some (.pointer (some d23)), some (.bool (n25 == (16 : Int)))], j2.2))))).bind fun j46 => joinK j46 fun j46 =>
((sget j46.1 0).bind (getI .i64)).bind fun n47 =>
((sget (j46.1.tail) 0).bind getA).bind fun d48 =>
((sget (j46.1.tail.tail) 0).bind getB).bind fun b49 =>
(if b49 = true then
((cell j46.2 d48.block (d48.off + 4)).bind (getI .i64)).bind fun n50 =>
(run (Et base) 67 [(.int .i64 n50), (.int .i64 (0 : Int)), (.int .i64 (IntKind.wrap .i64 (n47 - (1 : Int))))] j46.2).bind fun r51 =>
((some r51.1).bind getB).bind fun b52 =>
some ((.bool b52), r51.2)
else
some ((.bool true), j46.2))))))))) = some r) : run (Et base) 121 [(.agg #[(.int .i64 v0_0), (.int .i64 v0_1), (.int .i64 v0_2), (.int .i64 v0_3), (.int .i64 v0_4), (.string v0_5)]), (.int .i64 v1)] h = some r := run_i Try.func121 (by kernel_rfl) ((f121_eq base v0_0 v0_1 v0_2 v0_3 v0_4 v0_5 v1 h).trans hx)
/-! spec.GetNum (gates 0) -/
noncomputable def B122_0 (base : Nat) : Body := fun l h => lay s122_0 l fun s => exCode (Et base) (run (Et base)) loopL a122_0 (subC [1, 1, 0, 1, 0, 0] (bodyC Try.f122)) s h (keepK s122_0 e122_0)
theorem B122_0_eq (base : Nat) (v0 : Option Addr) (v0n : Nat) (v1 : Int) (v7 : Int) (v8 : Int) (h : AH) : B122_0 base [some (.slice v0 v0n v0n), some (.int .i64 v1), some (.int .i64 v7), some (.int .i64 v8)] h =
(((if (decide (v8 < (4 : Int))) = true then
(if (decide (v1 ≥ (0 : Int))) = true then
(if (decide (v1 < ((v0n : Nat) : Int))) = true then
some (.inl ([some (.slice v0 v0n v0n), some (.int .i64 v1), some (.int .i64 v7), some (.int .i64 v8), some (.bool (decide ((IntKind.wrap .i64 (v1 + v8)) < ((v0n : Nat) : Int))))], h))
else
some (.inl ([some (.slice v0 v0n v0n), some (.int .i64 v1), some (.int .i64 v7), some (.int .i64 v8), some (.bool false)], h)))
else
some (.inl ([some (.slice v0 v0n v0n), some (.int .i64 v1), some (.int .i64 v7), some (.int .i64 v8), some (.bool false)], h)))
else
some (.inl ([some (.slice v0 v0n v0n), some (.int .i64 v1), some (.int .i64 v7), some (.int .i64 v8), some (.bool false)], h)))).bind fun j1 => joinK j1 fun j1 =>
((sget j1.1 0).bind getS).bind fun l2 =>
((sget (j1.1.tail) 0).bind (getI .i64)).bind fun n3 =>
((sget (j1.1.tail.tail) 0).bind (getI .i64)).bind fun n4 =>
((sget (j1.1.tail.tail.tail) 0).bind (getI .i64)).bind fun n5 =>
((sget (j1.1.tail.tail.tail.tail) 0).bind getB).bind fun b6 =>
(if b6 = true then
(if 0 ≤ (IntKind.wrap .i64 (n3 + n5)) ∧ (IntKind.wrap .i64 (n3 + n5)) < ((l2.2 : Nat) : Int) then
((l2.1 : Option Addr)).bind fun a7 =>
((cell j1.2 a7.block (a7.off + Int.toNat (IntKind.wrap .i64 (n3 + n5)) * 1)).bind (getI .u8)).bind fun n8 =>
(if (IntKind.wrap .u64 (IntKind.wrap .i64 ((7 : Int) * n5))) < 0 then none else
(if (decide ((IntKind.wrap .i64 n8) > (127 : Int))) = true then
some (0, [some (.slice l2.1 l2.2 l2.2), some (.int .i64 n3), some (.int .i64 (Go.bits .or .i64 n4 (IntKind.wrap .i64 ((Go.bits .and .i64 (IntKind.wrap .i64 n8) (127 : Int)) * 2 ^ min ((IntKind.wrap .u64 (IntKind.wrap .i64 ((7 : Int) * n5)))).toNat 64)))), some (.int .i64 (IntKind.wrap .i64 (n5 + (1 : Int))))], j1.2)
else
((if ((Go.bits .and .i64 (Go.bits .or .i64 n4 (IntKind.wrap .i64 ((Go.bits .and .i64 (IntKind.wrap .i64 n8) (127 : Int)) * 2 ^ min ((IntKind.wrap .u64 (IntKind.wrap .i64 ((7 : Int) * n5)))).toNat 64))) (1 : Int)) == (1 : Int)) = true then
some (.inl ([some (.int .i64 n3), some (.int .i64 n5), some (.int .i64 (IntKind.wrap .i64 n8)), some (.int .i64 (IntKind.wrap .i64 ((IntKind.wrap .i64 (0 - (Int.fdiv (Go.bits .or .i64 n4 (IntKind.wrap .i64 ((Go.bits .and .i64 (IntKind.wrap .i64 n8) (127 : Int)) * 2 ^ min ((IntKind.wrap .u64 (IntKind.wrap .i64 ((7 : Int) * n5)))).toNat 64))) (2 ^ min ((1 : Int)).toNat 64)))) - (1 : Int))))], j1.2))
else
some (.inl ([some (.int .i64 n3), some (.int .i64 n5), some (.int .i64 (IntKind.wrap .i64 n8)), some (.int .i64 (Int.fdiv (Go.bits .or .i64 n4 (IntKind.wrap .i64 ((Go.bits .and .i64 (IntKind.wrap .i64 n8) (127 : Int)) * 2 ^ min ((IntKind.wrap .u64 (IntKind.wrap .i64 ((7 : Int) * n5)))).toNat 64))) (2 ^ min ((1 : Int)).toNat 64)))], j1.2)))).bind fun j9 => joinK j9 fun j9 =>
((sget j9.1 0).bind (getI .i64)).bind fun n10 =>
((sget (j9.1.tail) 0).bind (getI .i64)).bind fun n11 =>
((sget (j9.1.tail.tail) 0).bind (getI .i64)).bind fun n12 =>
((sget (j9.1.tail.tail.tail) 0).bind (getI .i64)).bind fun n13 =>
((if (decide (n11 > (0 : Int))) = true then
(if (n12 == (0 : Int)) = true then
some (.inl ([some (.int .i64 n10), some (.int .i64 n11), some (.int .i64 n13), some (.bool true)], j9.2))
else
(run (Et base) 62 [(.int .i64 n13), (.int .i64 (-1000000 : Int)), (.int .i64 (1000000 : Int))] j9.2).bind fun r15 =>
((some r15.1).bind getB).bind fun b16 =>
some (.inl ([some (.int .i64 n10), some (.int .i64 n11), some (.int .i64 n13), some (.bool (!b16))], r15.2)))
else
(run (Et base) 62 [(.int .i64 n13), (.int .i64 (-1000000 : Int)), (.int .i64 (1000000 : Int))] j9.2).bind fun r17 =>
((some r17.1).bind getB).bind fun b18 =>
some (.inl ([some (.int .i64 n10), some (.int .i64 n11), some (.int .i64 n13), some (.bool (!b18))], r17.2)))).bind fun j14 => joinK j14 fun j14 =>
((sget j14.1 0).bind (getI .i64)).bind fun n19 =>
((sget (j14.1.tail) 0).bind (getI .i64)).bind fun n20 =>
((sget (j14.1.tail.tail) 0).bind (getI .i64)).bind fun n21 =>
((sget (j14.1.tail.tail.tail) 0).bind getB).bind fun b22 =>
(if b22 = true then
some (1, [some (.int .i64 (0 : Int)), some (.int .i64 (0 : Int)), some (.bool false)], j14.2)
else
some (1, [some (.int .i64 n21), some (.int .i64 (IntKind.wrap .i64 ((IntKind.wrap .i64 (n19 + n20)) + (1 : Int)))), some (.bool true)], j14.2))))
else none)
else
some (2, [], j1.2)) : Option (Nat × Slots × AH)) := by kernel_rfl
theorem f122_eq (base : Nat) (v0 : Option Addr) (v0n : Nat) (v1 : Int) (h : AH) : exFun (Et base) (run (Et base)) loopL a122 Try.f122 [(.slice v0 v0n v0n), (.int .i64 v1)] h =
((loopL (B122_0 base) [some (.slice v0 v0n v0n), some (.int .i64 v1), some (.int .i64 (0 : Int)), some (.int .i64 (0 : Int))] h).bind fun q1 =>
(if q1.1 = 1 then
((sget q1.2.1 0).bind (getI .i64)).bind fun n2 =>
((sget (q1.2.1.tail) 0).bind (getI .i64)).bind fun n3 =>
((sget (q1.2.1.tail.tail) 0).bind getB).bind fun b4 =>
some ((.tuple #[(.int .i64 n2), (.int .i64 n3), (.bool b4)]), q1.2.2)
else
(if q1.1 = 2 then
some ((.tuple #[(.int .i64 (0 : Int)), (.int .i64 (0 : Int)), (.bool false)]), q1.2.2)
else
none)) : Option (Value × AH)) := by kernel_rfl
theorem r122 {base : Nat} {v0 : Option Addr} {v0n : Nat} {v1 : Int} {h : AH} {r : Value × AH} (hx :
((loopL (B122_0 base) [some (.slice v0 v0n v0n), some (.int .i64 v1), some (.int .i64 (0 : Int)), some (.int .i64 (0 : Int))] h).bind fun q1 =>
(if q1.1 = 1 then
((sget q1.2.1 0).bind (getI .i64)).bind fun n2 =>
((sget (q1.2.1.tail) 0).bind (getI .i64)).bind fun n3 =>
((sget (q1.2.1.tail.tail) 0).bind getB).bind fun b4 =>
some ((.tuple #[(.int .i64 n2), (.int .i64 n3), (.bool b4)]), q1.2.2)
else
(if q1.1 = 2 then
some ((.tuple #[(.int .i64 (0 : Int)), (.int .i64 (0 : Int)), (.bool false)]), q1.2.2)
else
none))) = some r) : run (Et base) 122 [(.slice v0 v0n v0n), (.int .i64 v1)] h = some r := run_i Try.func122 (by kernel_rfl) ((f122_eq base v0 v0n v1 h).trans hx)
/-! spec.l1Once (gates 0) -/
theorem f123_eq (base : Nat) (v0 : Option Addr) (v1 : Int) (h : AH) : exFun (Et base) (run (Et base)) loopL a123 Try.f123 [(.pointer v0), (.int .i64 v1)] h =
((run (Et base) 126 [(.pointer v0), (.int .i64 v1)] h).bind fun r1 =>
((some r1.1).bind (getI .i64)).bind fun n2 =>
some ((.bool (n2 == (0 : Int))), r1.2) : Option (Value × AH)) := by kernel_rfl
theorem r123 {base : Nat} {v0 : Option Addr} {v1 : Int} {h : AH} {r : Value × AH} (hx :
((run (Et base) 126 [(.pointer v0), (.int .i64 v1)] h).bind fun r1 =>
((some r1.1).bind (getI .i64)).bind fun n2 =>
some ((.bool (n2 == (0 : Int))), r1.2)) = some r) : run (Et base) 123 [(.pointer v0), (.int .i64 v1)] h = some r := run_i Try.func123 (by kernel_rfl) ((f123_eq base v0 v1 h).trans hx)
/-! spec.ParseCode (gates 0) -/
noncomputable def B124_0 (base : Nat) : Body := fun l h => lay s124_0 l fun s => exCode (Et base) (run (Et base)) loopL a124_0 (subC [1, 1, 1, 1, 1, 1, 0, 1, 0, 0] (bodyC Try.f124)) s h (keepK s124_0 e124_0)
theorem B124_0_eq (base : Nat) (v4 : Option Addr) (v4n : Nat) (v5 : Option Addr) (v5n : Nat) (v6 : Int) (v7 : Option Addr) (v7n : Nat) (v8 : Int) (h : AH) : B124_0 base [some (.slice v4 v4n v4n), some (.slice v5 v5n v5n), some (.int .i64 v6), some (.slice v7 v7n v7n), some (.int .i64 v8)] h =
((if (decide (v8 < v6)) = true then
(if 0 ≤ v8 ∧ v8 < ((v5n : Nat) : Int) then
((v5 : Option Addr)).bind fun a1 =>
((cell h a1.block (a1.off + Int.toNat v8 * 1)).bind getStr).bind fun s2 =>
(run (Et base) 149 [(.string s2)] h).bind fun r3 =>
(getTup 2 r3.1).bind fun l4 =>
((l4[0]?).bind (getAgg 6)).bind fun l5 =>
((l5[0]?).bind (getI .i64)).bind fun n6 =>
((l5[1]?).bind (getI .i64)).bind fun n7 =>
((l5[2]?).bind (getI .i64)).bind fun n8 =>
((l5[3]?).bind (getI .i64)).bind fun n9 =>
((l5[4]?).bind (getI .i64)).bind fun n10 =>
((l5[5]?).bind getStr).bind fun s11 =>
((l4[1]?).bind getB).bind fun b12 =>
(some (r3.2 ++ [some ⟨[(.int .i64 0), (.int .i64 0), (.int .i64 0), (.int .i64 0), (.int .i64 0), (.string ⟨#[]⟩)], 116⟩])).bind fun h13 =>
(wr base h13 (List.length r3.2) 0 [(.int .i64 n6), (.int .i64 n7), (.int .i64 n8), (.int .i64 n9), (.int .i64 n10), (.string s11)]).bind fun h14 =>
(if (!b12) = true then
some (1, [some (.slice v4 v4n v4n), some (.bool false)], h14)
else
((cell h14 (List.length r3.2) 0).bind (getI .i64)).bind fun n15 =>
((cell h14 (List.length r3.2) 1).bind (getI .i64)).bind fun n16 =>
((cell h14 (List.length r3.2) 2).bind (getI .i64)).bind fun n17 =>
((cell h14 (List.length r3.2) 3).bind (getI .i64)).bind fun n18 =>
((cell h14 (List.length r3.2) 4).bind (getI .i64)).bind fun n19 =>
((cell h14 (List.length r3.2) 5).bind getStr).bind fun s20 =>
(some (h14 ++ [some ⟨[(.int .i64 n15), (.int .i64 n16), (.int .i64 n17), (.int .i64 n18), (.int .i64 n19), (.string s20)], 116⟩])).bind fun h21 =>
(app base h21 116 6 56 v7 v7n (rawAt h21 (some ⟨(List.length h14), 0, none⟩) (1 * 6)) 1).bind fun p22 =>
((some p22.1).bind getS).bind fun l23 =>
some (0, [some (.slice v4 v4n v4n), some (.slice v5 v5n v5n), some (.int .i64 v6), some (.slice l23.1 l23.2 l23.2), some (.int .i64 (IntKind.wrap .i64 (v8 + (1 : Int))))], p22.2))
else none)
else
some (2, [some (.slice v4 v4n v4n), some (.slice v7 v7n v7n)], h)) : Option (Nat × Slots × AH)) := by kernel_rfl
theorem f124_eq (base : Nat) (v0 : ByteArray) (h : AH) : exFun (Et base) (run (Et base)) loopL a124 Try.f124 [(.string v0)] h =
((some (h ++ [some ⟨[], 116⟩])).bind fun h1 =>
(run (Et base) 148 [(.string v0), (.int .u8 (10 : Int))] h1).bind fun r2 =>
((some r2.1).bind getS).bind fun l3 =>
(if 0 ≤ (IntKind.wrap .i64 (((l3.2 : Nat) : Int) - (1 : Int))) ∧ (IntKind.wrap .i64 (((l3.2 : Nat) : Int) - (1 : Int))) < ((l3.2 : Nat) : Int) then
((l3.1 : Option Addr)).bind fun a4 =>
((cell r2.2 a4.block (a4.off + Int.toNat (IntKind.wrap .i64 (((l3.2 : Nat) : Int) - (1 : Int))) * 1)).bind getStr).bind fun s5 =>
(if (!(s5.toList == (⟨#[]⟩ : ByteArray).toList)) = true then
some ((.tuple #[(.slice (some ⟨(List.length h), 0, none⟩) 0 0), (.bool false)]), r2.2)
else
(some (r2.2 ++ [some ⟨[], 116⟩])).bind fun h6 =>
(loopL (B124_0 base) [some (.slice (some ⟨(List.length h), 0, none⟩) 0 0), some (.slice l3.1 l3.2 l3.2), some (.int .i64 (IntKind.wrap .i64 (((l3.2 : Nat) : Int) - (1 : Int)))), some (.slice (some ⟨(List.length r2.2), 0, none⟩) 0 0), some (.int .i64 (0 : Int))] h6).bind fun q7 =>
(if q7.1 = 1 then
((sget q7.2.1 0).bind getS).bind fun l8 =>
((sget (q7.2.1.tail) 0).bind getB).bind fun b9 =>
some ((.tuple #[(.slice l8.1 l8.2 l8.2), (.bool b9)]), q7.2.2)
else
(if q7.1 = 2 then
((sget q7.2.1 0).bind getS).bind fun l10 =>
((sget (q7.2.1.tail) 0).bind getS).bind fun l11 =>
(run (Et base) 77 [(.slice l11.1 l11.2 l11.2)] q7.2.2).bind fun r12 =>
((some r12.1).bind getB).bind fun b13 =>
(if (!b13) = true then
some ((.tuple #[(.slice l10.1 l10.2 l10.2), (.bool false)]), r12.2)
else
some ((.tuple #[(.slice l11.1 l11.2 l11.2), (.bool true)]), r12.2))
else
none)))
else none) : Option (Value × AH)) := by kernel_rfl
theorem r124 {base : Nat} {v0 : ByteArray} {h : AH} {r : Value × AH} (hx :
((some (h ++ [some ⟨[], 116⟩])).bind fun h1 =>
(run (Et base) 148 [(.string v0), (.int .u8 (10 : Int))] h1).bind fun r2 =>
((some r2.1).bind getS).bind fun l3 =>
(if 0 ≤ (IntKind.wrap .i64 (((l3.2 : Nat) : Int) - (1 : Int))) ∧ (IntKind.wrap .i64 (((l3.2 : Nat) : Int) - (1 : Int))) < ((l3.2 : Nat) : Int) then
((l3.1 : Option Addr)).bind fun a4 =>
((cell r2.2 a4.block (a4.off + Int.toNat (IntKind.wrap .i64 (((l3.2 : Nat) : Int) - (1 : Int))) * 1)).bind getStr).bind fun s5 =>
(if (!(s5.toList == (⟨#[]⟩ : ByteArray).toList)) = true then
some ((.tuple #[(.slice (some ⟨(List.length h), 0, none⟩) 0 0), (.bool false)]), r2.2)
else
(some (r2.2 ++ [some ⟨[], 116⟩])).bind fun h6 =>
(loopL (B124_0 base) [some (.slice (some ⟨(List.length h), 0, none⟩) 0 0), some (.slice l3.1 l3.2 l3.2), some (.int .i64 (IntKind.wrap .i64 (((l3.2 : Nat) : Int) - (1 : Int)))), some (.slice (some ⟨(List.length r2.2), 0, none⟩) 0 0), some (.int .i64 (0 : Int))] h6).bind fun q7 =>
(if q7.1 = 1 then
((sget q7.2.1 0).bind getS).bind fun l8 =>
((sget (q7.2.1.tail) 0).bind getB).bind fun b9 =>
some ((.tuple #[(.slice l8.1 l8.2 l8.2), (.bool b9)]), q7.2.2)
else
(if q7.1 = 2 then
((sget q7.2.1 0).bind getS).bind fun l10 =>
((sget (q7.2.1.tail) 0).bind getS).bind fun l11 =>
(run (Et base) 77 [(.slice l11.1 l11.2 l11.2)] q7.2.2).bind fun r12 =>
((some r12.1).bind getB).bind fun b13 =>
(if (!b13) = true then
some ((.tuple #[(.slice l10.1 l10.2 l10.2), (.bool false)]), r12.2)
else
some ((.tuple #[(.slice l11.1 l11.2 l11.2), (.bool true)]), r12.2))
else
none)))
else none)) = some r) : run (Et base) 124 [(.string v0)] h = some r := run_i Try.func124 (by kernel_rfl) ((f124_eq base v0 h).trans hx)
/-! spec.l8Codes (gates 0) -/
theorem f125_eq (base : Nat)  (h : AH) : exFun (Et base) (run (Et base)) loopL a125 Try.f125 [] h =
((some (h ++ [some ⟨[(.string (⟨#[116, 97, 107, 101, 32, 48, 10, 107, 105, 110, 100, 32, 48, 32, 50, 32, 53, 10, 115, 97, 121, 32, 48, 10, 106, 117, 109, 112, 32, 48, 10, 110, 105, 108, 32, 49, 10, 104, 101, 97, 100, 32, 49, 32, 48, 10, 116, 97, 105, 108, 32, 50, 32, 48, 10, 115, 97, 121, 32, 49, 10, 106, 117, 109, 112, 32, 48, 10]⟩ : ByteArray)), (.string (⟨#[116, 97, 107, 101, 32, 48, 10, 115, 101, 108, 102, 32, 49, 10, 105, 110, 116, 32, 50, 32, 49, 10, 116, 117, 112, 108, 101, 32, 51, 32, 48, 32, 51, 10, 101, 108, 101, 109, 32, 52, 32, 51, 32, 50, 10, 97, 100, 100, 32, 53, 32, 52, 32, 50, 10, 115, 97, 121, 32, 51, 10, 115, 97, 109, 101, 32, 48, 32, 49, 32, 49, 48, 10, 115, 101, 110, 100, 32, 49, 32, 53, 10, 106, 117, 109, 112, 32, 48, 10, 115, 101, 110, 100, 32, 48, 32, 51, 10, 106, 117, 109, 112, 32, 48, 10]⟩ : ByteArray)), (.string (⟨#[105, 110, 116, 32, 49, 32, 48, 10, 116, 97, 107, 101, 32, 48, 10, 107, 105, 110, 100, 32, 48, 32, 49, 32, 53, 10, 97, 100, 100, 32, 49, 32, 49, 32, 48, 10, 106, 117, 109, 112, 32, 49, 10, 115, 97, 121, 32, 49, 10, 101, 110, 100, 32, 48, 10]⟩ : ByteArray)), (.string (⟨#[116, 97, 107, 101, 32, 48, 10, 109, 97, 107, 101, 32, 49, 32, 48, 32, 52, 10, 108, 105, 110, 107, 32, 49, 10, 106, 117, 109, 112, 32, 48, 10, 115, 101, 108, 102, 32, 50, 10, 115, 97, 121, 32, 48, 10, 116, 97, 107, 101, 32, 51, 10, 101, 110, 100, 32, 51, 10]⟩ : ByteArray)), (.string (⟨#[110, 105, 108, 32, 49, 10, 116, 97, 107, 101, 32, 48, 10, 99, 111, 110, 115, 32, 49, 32, 48, 32, 49, 10, 115, 97, 121, 32, 49, 10, 106, 117, 109, 112, 32, 49, 10]⟩ : ByteArray)), (.string (⟨#[116, 97, 107, 101, 32, 48, 10, 101, 110, 100, 32, 48, 10]⟩ : ByteArray))], 9⟩])).bind fun h1 =>
some ((.slice (some ⟨(List.length h), 0, none⟩) 6 6), h1) : Option (Value × AH)) := by kernel_rfl
theorem r125 {base : Nat}  {h : AH} {r : Value × AH} (hx :
((some (h ++ [some ⟨[(.string (⟨#[116, 97, 107, 101, 32, 48, 10, 107, 105, 110, 100, 32, 48, 32, 50, 32, 53, 10, 115, 97, 121, 32, 48, 10, 106, 117, 109, 112, 32, 48, 10, 110, 105, 108, 32, 49, 10, 104, 101, 97, 100, 32, 49, 32, 48, 10, 116, 97, 105, 108, 32, 50, 32, 48, 10, 115, 97, 121, 32, 49, 10, 106, 117, 109, 112, 32, 48, 10]⟩ : ByteArray)), (.string (⟨#[116, 97, 107, 101, 32, 48, 10, 115, 101, 108, 102, 32, 49, 10, 105, 110, 116, 32, 50, 32, 49, 10, 116, 117, 112, 108, 101, 32, 51, 32, 48, 32, 51, 10, 101, 108, 101, 109, 32, 52, 32, 51, 32, 50, 10, 97, 100, 100, 32, 53, 32, 52, 32, 50, 10, 115, 97, 121, 32, 51, 10, 115, 97, 109, 101, 32, 48, 32, 49, 32, 49, 48, 10, 115, 101, 110, 100, 32, 49, 32, 53, 10, 106, 117, 109, 112, 32, 48, 10, 115, 101, 110, 100, 32, 48, 32, 51, 10, 106, 117, 109, 112, 32, 48, 10]⟩ : ByteArray)), (.string (⟨#[105, 110, 116, 32, 49, 32, 48, 10, 116, 97, 107, 101, 32, 48, 10, 107, 105, 110, 100, 32, 48, 32, 49, 32, 53, 10, 97, 100, 100, 32, 49, 32, 49, 32, 48, 10, 106, 117, 109, 112, 32, 49, 10, 115, 97, 121, 32, 49, 10, 101, 110, 100, 32, 48, 10]⟩ : ByteArray)), (.string (⟨#[116, 97, 107, 101, 32, 48, 10, 109, 97, 107, 101, 32, 49, 32, 48, 32, 52, 10, 108, 105, 110, 107, 32, 49, 10, 106, 117, 109, 112, 32, 48, 10, 115, 101, 108, 102, 32, 50, 10, 115, 97, 121, 32, 48, 10, 116, 97, 107, 101, 32, 51, 10, 101, 110, 100, 32, 51, 10]⟩ : ByteArray)), (.string (⟨#[110, 105, 108, 32, 49, 10, 116, 97, 107, 101, 32, 48, 10, 99, 111, 110, 115, 32, 49, 32, 48, 32, 49, 10, 115, 97, 121, 32, 49, 10, 106, 117, 109, 112, 32, 49, 10]⟩ : ByteArray)), (.string (⟨#[116, 97, 107, 101, 32, 48, 10, 101, 110, 100, 32, 48, 10]⟩ : ByteArray))], 9⟩])).bind fun h1 =>
some ((.slice (some ⟨(List.length h), 0, none⟩) 6 6), h1)) = some r) : run (Et base) 125 [] h = some r := run_i Try.func125 (by kernel_rfl) ((f125_eq base  h).trans hx)
/-! spec.l1Below (gates 0) -/
theorem f126_eq (base : Nat) (v0 : Option Addr) (v1 : Int) (h : AH) : exFun (Et base) (run (Et base)) loopL a126 Try.f126 [(.pointer v0), (.int .i64 v1)] h =
((if (decide (v1 ≤ (0 : Int))) = true then
some ((.int .i64 (0 : Int)), h)
else
(if (decide (v1 ≤ (256 : Int))) = true then
(run (Et base) 150 [(.pointer v0)] h).bind fun r1 =>
((some r1.1).bind (getI .i64)).bind fun n2 =>
(if v1 = 0 then none else
some ((.int .i64 (Int.tmod n2 v1)), r1.2))
else
(run (Et base) 150 [(.pointer v0)] h).bind fun r3 =>
((some r3.1).bind (getI .i64)).bind fun n4 =>
(run (Et base) 150 [(.pointer v0)] r3.2).bind fun r5 =>
((some r5.1).bind (getI .i64)).bind fun n6 =>
(run (Et base) 150 [(.pointer v0)] r5.2).bind fun r7 =>
((some r7.1).bind (getI .i64)).bind fun n8 =>
(if v1 = 0 then none else
some ((.int .i64 (Int.tmod (IntKind.wrap .i64 ((IntKind.wrap .i64 ((IntKind.wrap .i64 (n4 * (65536 : Int))) + (IntKind.wrap .i64 (n6 * (256 : Int))))) + n8)) v1)), r7.2)))) : Option (Value × AH)) := by kernel_rfl
theorem r126 {base : Nat} {v0 : Option Addr} {v1 : Int} {h : AH} {r : Value × AH} (hx :
((if (decide (v1 ≤ (0 : Int))) = true then
some ((.int .i64 (0 : Int)), h)
else
(if (decide (v1 ≤ (256 : Int))) = true then
(run (Et base) 150 [(.pointer v0)] h).bind fun r1 =>
((some r1.1).bind (getI .i64)).bind fun n2 =>
(if v1 = 0 then none else
some ((.int .i64 (Int.tmod n2 v1)), r1.2))
else
(run (Et base) 150 [(.pointer v0)] h).bind fun r3 =>
((some r3.1).bind (getI .i64)).bind fun n4 =>
(run (Et base) 150 [(.pointer v0)] r3.2).bind fun r5 =>
((some r5.1).bind (getI .i64)).bind fun n6 =>
(run (Et base) 150 [(.pointer v0)] r5.2).bind fun r7 =>
((some r7.1).bind (getI .i64)).bind fun n8 =>
(if v1 = 0 then none else
some ((.int .i64 (Int.tmod (IntKind.wrap .i64 ((IntKind.wrap .i64 ((IntKind.wrap .i64 (n4 * (65536 : Int))) + (IntKind.wrap .i64 (n6 * (256 : Int))))) + n8)) v1)), r7.2))))) = some r) : run (Et base) 126 [(.pointer v0), (.int .i64 v1)] h = some r := run_i Try.func126 (by kernel_rfl) ((f126_eq base v0 v1 h).trans hx)
end Go.Proofs.Ytnmjhhipbfngkaa.Am
