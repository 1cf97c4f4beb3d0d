/- What each of these functions comes to on the abstract machine, one equation a function and one a loop.
Conditions: none. -/
import Derived.Test.YtnmjhhipbfngkaaTb
set_option linter.unusedVariables false
set_option maxRecDepth 100000
namespace Go.Proofs.Ytnmjhhipbfngkaa.Am
open Go Go.RowKit
/-! spec.l8Draw (gates 1) -/
theorem f127_eq (base : Nat) (v0 : Option Addr) (v1 : Int) (h : AH) : exFun (Et base) (run (Et base)) loopL a127 Try.f127 [(.pointer v0), (.int .i64 v1)] h =
((some (h ++ [some ⟨[(.int .i64 0), (.int .i64 0), (.int .i64 0), (.int .i64 0), (.int .i64 0), (.string ⟨#[]⟩)], 116⟩])).bind fun h1 =>
(run (Et base) 126 [(.pointer v0), (.int .i64 (20 : Int))] h1).bind fun r2 =>
((some r2.1).bind (getI .i64)).bind fun n3 =>
(some (r2.2 ++ [some ⟨[(.int .i64 0), (.int .i64 0), (.int .i64 0), (.int .i64 0), (.int .i64 0), (.string ⟨#[]⟩)], 116⟩])).bind fun h4 =>
(wr base h4 (List.length r2.2) 0 [(.int .i64 (IntKind.wrap .i64 ((1 : Int) + n3))), (.int .i64 (0 : Int)), (.int .i64 (0 : Int)), (.int .i64 (0 : Int)), (.int .i64 (0 : Int)), (.string (⟨#[]⟩ : ByteArray))]).bind fun h5 =>
(run (Et base) 141 [] h5).bind fun r6 =>
((some r6.1).bind getS).bind fun l7 =>
(gate (sameA h5 r6.2 (some ⟨(List.length r2.2), 0, none⟩) 1)
(((cell r6.2 (List.length r2.2) 0).bind (getI .i64)).bind fun n8 =>
(if 0 ≤ (IntKind.wrap .i64 (n8 - (1 : Int))) ∧ (IntKind.wrap .i64 (n8 - (1 : Int))) < ((l7.2 : Nat) : Int) then
((l7.1 : Option Addr)).bind fun a9 =>
((cell r6.2 a9.block (a9.off + Int.toNat (IntKind.wrap .i64 (n8 - (1 : Int))) * 1)).bind getStr).bind fun s10 =>
((run (Et base) 151 [(.string s10), (.int .u8 (65 : Int))] r6.2).bind fun r12 =>
((some r12.1).bind getB).bind fun b13 =>
(if b13 = true then
(run (Et base) 126 [(.pointer v0), (.int .i64 (4 : Int))] r12.2).bind fun r14 =>
((some r14.1).bind (getI .i64)).bind fun n15 =>
(wr base r14.2 (List.length r2.2) 1 [(.int .i64 n15)]).bind fun h16 =>
some (.inl ([some (.pointer v0), some (.int .i64 v1), some (.pointer (some ⟨(List.length h), 0, none⟩)), some (.pointer (some ⟨(List.length r2.2), 0, none⟩)), some (.string s10)], h16))
else
some (.inl ([some (.pointer v0), some (.int .i64 v1), some (.pointer (some ⟨(List.length h), 0, none⟩)), some (.pointer (some ⟨(List.length r2.2), 0, none⟩)), some (.string s10)], r12.2)))).bind fun j11 => joinK j11 fun j11 =>
((sget j11.1 0).bind getP).bind fun p17 =>
((sget (j11.1.tail) 0).bind (getI .i64)).bind fun n18 =>
((sget (j11.1.tail.tail) 0).bind getA).bind fun d19 =>
((sget (j11.1.tail.tail.tail) 0).bind getA).bind fun d20 =>
((sget (j11.1.tail.tail.tail.tail) 0).bind getStr).bind fun s21 =>
((run (Et base) 151 [(.string s21), (.int .u8 (66 : Int))] j11.2).bind fun r23 =>
((some r23.1).bind getB).bind fun b24 =>
(if b24 = true then
(run (Et base) 126 [(.pointer p17), (.int .i64 (4 : Int))] r23.2).bind fun r25 =>
((some r25.1).bind (getI .i64)).bind fun n26 =>
(wr base r25.2 d20.block (d20.off + 2) [(.int .i64 n26)]).bind fun h27 =>
some (.inl ([some (.pointer p17), some (.int .i64 n18), some (.pointer (some d19)), some (.pointer (some d20)), some (.string s21)], h27))
else
some (.inl ([some (.pointer p17), some (.int .i64 n18), some (.pointer (some d19)), some (.pointer (some d20)), some (.string s21)], r23.2)))).bind fun j22 => joinK j22 fun j22 =>
((sget j22.1 0).bind getP).bind fun p28 =>
((sget (j22.1.tail) 0).bind (getI .i64)).bind fun n29 =>
((sget (j22.1.tail.tail) 0).bind getA).bind fun d30 =>
((sget (j22.1.tail.tail.tail) 0).bind getA).bind fun d31 =>
((sget (j22.1.tail.tail.tail.tail) 0).bind getStr).bind fun s32 =>
((run (Et base) 151 [(.string s32), (.int .u8 (67 : Int))] j22.2).bind fun r34 =>
((some r34.1).bind getB).bind fun b35 =>
(if b35 = true then
(run (Et base) 126 [(.pointer p28), (.int .i64 (4 : Int))] r34.2).bind fun r36 =>
((some r36.1).bind (getI .i64)).bind fun n37 =>
(wr base r36.2 d31.block (d31.off + 3) [(.int .i64 n37)]).bind fun h38 =>
some (.inl ([some (.pointer p28), some (.int .i64 n29), some (.pointer (some d30)), some (.pointer (some d31))], h38))
else
some (.inl ([some (.pointer p28), some (.int .i64 n29), some (.pointer (some d30)), some (.pointer (some d31))], r34.2)))).bind fun j33 => joinK j33 fun j33 =>
((sget j33.1 0).bind getP).bind fun p39 =>
((sget (j33.1.tail) 0).bind (getI .i64)).bind fun n40 =>
((sget (j33.1.tail.tail) 0).bind getA).bind fun d41 =>
((sget (j33.1.tail.tail.tail) 0).bind getA).bind fun d42 =>
(((cell j33.2 d42.block (d42.off + 0)).bind (getI .i64)).bind fun n44 =>
(if (n44 == (1 : Int)) = true then
(some (j33.2 ++ [some ⟨[(.int .i64 (0 : Int)), (.int .i64 (1 : Int)), (.int .i64 (-1 : Int)), (.int .i64 (1000000 : Int))], 3⟩])).bind fun h45 =>
(run (Et base) 107 [(.pointer p39), (.slice (some ⟨(List.length j33.2), 0, none⟩) 4 4)] h45).bind fun r46 =>
((some r46.1).bind (getI .i64)).bind fun n47 =>
(wr base r46.2 d42.block (d42.off + 4) [(.int .i64 n47)]).bind fun h48 =>
some (.inl ([some (.pointer (some d41)), some (.pointer (some d42))], h48))
else
(if (n44 == (2 : Int)) = true then
(some (j33.2 ++ [some ⟨[(.string (⟨#[111, 107]⟩ : ByteArray)), (.string (⟨#[97]⟩ : ByteArray)), (.string (⟨#[98, 97, 100]⟩ : ByteArray))], 9⟩])).bind fun h49 =>
(run (Et base) 152 [(.pointer p39), (.slice (some ⟨(List.length j33.2), 0, none⟩) 3 3)] h49).bind fun r50 =>
((some r50.1).bind getStr).bind fun s51 =>
(wr base r50.2 d42.block (d42.off + 5) [(.string s51)]).bind fun h52 =>
some (.inl ([some (.pointer (some d41)), some (.pointer (some d42))], h52))
else
((if (n44 == (4 : Int)) = true then
some (.inl ([some (.pointer p39), some (.int .i64 n40), some (.pointer (some d41)), some (.pointer (some d42)), some (.int .i64 n44), some (.bool (n44 == (4 : Int)))], j33.2))
else
some (.inl ([some (.pointer p39), some (.int .i64 n40), some (.pointer (some d41)), some (.pointer (some d42)), some (.int .i64 n44), some (.bool (n44 == (6 : Int)))], j33.2)))).bind fun j53 => joinK j53 fun j53 =>
((sget j53.1 0).bind getP).bind fun p54 =>
((sget (j53.1.tail) 0).bind (getI .i64)).bind fun n55 =>
((sget (j53.1.tail.tail) 0).bind getA).bind fun d56 =>
((sget (j53.1.tail.tail.tail) 0).bind getA).bind fun d57 =>
((sget (j53.1.tail.tail.tail.tail) 0).bind (getI .i64)).bind fun n58 =>
((sget (j53.1.tail.tail.tail.tail.tail) 0).bind getB).bind fun b59 =>
(if b59 = true then
(run (Et base) 126 [(.pointer p54), (.int .i64 (4 : Int))] j53.2).bind fun r60 =>
((some r60.1).bind (getI .i64)).bind fun n61 =>
(wr base r60.2 d57.block (d57.off + 4) [(.int .i64 n61)]).bind fun h62 =>
some (.inl ([some (.pointer (some d56)), some (.pointer (some d57))], h62))
else
(if (n58 == (11 : Int)) = true then
(run (Et base) 126 [(.pointer p54), (.int .i64 (6 : Int))] j53.2).bind fun r63 =>
((some r63.1).bind (getI .i64)).bind fun n64 =>
(wr base r63.2 d57.block (d57.off + 2) [(.int .i64 (IntKind.wrap .i64 ((1 : Int) + n64)))]).bind fun h65 =>
(run (Et base) 126 [(.pointer p54), (.int .i64 n55)] h65).bind fun r66 =>
((some r66.1).bind (getI .i64)).bind fun n67 =>
(wr base r66.2 d57.block (d57.off + 4) [(.int .i64 n67)]).bind fun h68 =>
some (.inl ([some (.pointer (some d56)), some (.pointer (some d57))], h68))
else
((if (n58 == (10 : Int)) = true then
some (.inl ([some (.pointer p54), some (.int .i64 n55), some (.pointer (some d56)), some (.pointer (some d57)), some (.bool (n58 == (10 : Int)))], j53.2))
else
(if (n58 == (12 : Int)) = true then
some (.inl ([some (.pointer p54), some (.int .i64 n55), some (.pointer (some d56)), some (.pointer (some d57)), some (.bool (n58 == (12 : Int)))], j53.2))
else
some (.inl ([some (.pointer p54), some (.int .i64 n55), some (.pointer (some d56)), some (.pointer (some d57)), some (.bool (n58 == (16 : Int)))], j53.2))))).bind fun j69 => joinK j69 fun j69 =>
((sget j69.1 0).bind getP).bind fun p70 =>
((sget (j69.1.tail) 0).bind (getI .i64)).bind fun n71 =>
((sget (j69.1.tail.tail) 0).bind getA).bind fun d72 =>
((sget (j69.1.tail.tail.tail) 0).bind getA).bind fun d73 =>
((sget (j69.1.tail.tail.tail.tail) 0).bind getB).bind fun b74 =>
(if b74 = true then
(run (Et base) 126 [(.pointer p70), (.int .i64 n71)] j69.2).bind fun r75 =>
((some r75.1).bind (getI .i64)).bind fun n76 =>
(wr base r75.2 d73.block (d73.off + 4) [(.int .i64 n76)]).bind fun h77 =>
some (.inl ([some (.pointer (some d72)), some (.pointer (some d73))], h77))
else
some (.inl ([some (.pointer (some d72)), some (.pointer (some d73))], j69.2)))))))).bind fun j43 => joinK j43 fun j43 =>
((sget j43.1 0).bind getA).bind fun d78 =>
((sget (j43.1.tail) 0).bind getA).bind fun d79 =>
((cell j43.2 d79.block d79.off).bind (getI .i64)).bind fun n80 =>
((cell j43.2 d79.block (d79.off + 1)).bind (getI .i64)).bind fun n81 =>
((cell j43.2 d79.block ((d79.off + 1) + 1)).bind (getI .i64)).bind fun n82 =>
((cell j43.2 d79.block (((d79.off + 1) + 1) + 1)).bind (getI .i64)).bind fun n83 =>
((cell j43.2 d79.block ((((d79.off + 1) + 1) + 1) + 1)).bind (getI .i64)).bind fun n84 =>
((cell j43.2 d79.block (((((d79.off + 1) + 1) + 1) + 1) + 1)).bind getStr).bind fun s85 =>
(wr base j43.2 d78.block d78.off [(.int .i64 n80), (.int .i64 n81), (.int .i64 n82), (.int .i64 n83), (.int .i64 n84), (.string s85)]).bind fun h86 =>
((cell h86 d78.block d78.off).bind (getI .i64)).bind fun n87 =>
((cell h86 d78.block (d78.off + 1)).bind (getI .i64)).bind fun n88 =>
((cell h86 d78.block ((d78.off + 1) + 1)).bind (getI .i64)).bind fun n89 =>
((cell h86 d78.block (((d78.off + 1) + 1) + 1)).bind (getI .i64)).bind fun n90 =>
((cell h86 d78.block ((((d78.off + 1) + 1) + 1) + 1)).bind (getI .i64)).bind fun n91 =>
((cell h86 d78.block (((((d78.off + 1) + 1) + 1) + 1) + 1)).bind getStr).bind fun s92 =>
some ((.agg #[(.int .i64 n87), (.int .i64 n88), (.int .i64 n89), (.int .i64 n90), (.int .i64 n91), (.string s92)]), h86)
else none))) : Option (Value × AH)) := by kernel_rfl
theorem r127 {base : Nat} {v0 : Option Addr} {v1 : Int} {h : AH} {r : Value × AH} (hx :
((some (h ++ [some ⟨[(.int .i64 0), (.int .i64 0), (.int .i64 0), (.int .i64 0), (.int .i64 0), (.string ⟨#[]⟩)], 116⟩])).bind fun h1 =>
(run (Et base) 126 [(.pointer v0), (.int .i64 (20 : Int))] h1).bind fun r2 =>
((some r2.1).bind (getI .i64)).bind fun n3 =>
(some (r2.2 ++ [some ⟨[(.int .i64 0), (.int .i64 0), (.int .i64 0), (.int .i64 0), (.int .i64 0), (.string ⟨#[]⟩)], 116⟩])).bind fun h4 =>
(wr base h4 (List.length r2.2) 0 [(.int .i64 (IntKind.wrap .i64 ((1 : Int) + n3))), (.int .i64 (0 : Int)), (.int .i64 (0 : Int)), (.int .i64 (0 : Int)), (.int .i64 (0 : Int)), (.string (⟨#[]⟩ : ByteArray))]).bind fun h5 =>
(run (Et base) 141 [] h5).bind fun r6 =>
((some r6.1).bind getS).bind fun l7 =>
(gate (sameA h5 r6.2 (some ⟨(List.length r2.2), 0, none⟩) 1)
(((cell r6.2 (List.length r2.2) 0).bind (getI .i64)).bind fun n8 =>
(if 0 ≤ (IntKind.wrap .i64 (n8 - (1 : Int))) ∧ (IntKind.wrap .i64 (n8 - (1 : Int))) < ((l7.2 : Nat) : Int) then
((l7.1 : Option Addr)).bind fun a9 =>
((cell r6.2 a9.block (a9.off + Int.toNat (IntKind.wrap .i64 (n8 - (1 : Int))) * 1)).bind getStr).bind fun s10 =>
((run (Et base) 151 [(.string s10), (.int .u8 (65 : Int))] r6.2).bind fun r12 =>
((some r12.1).bind getB).bind fun b13 =>
(if b13 = true then
(run (Et base) 126 [(.pointer v0), (.int .i64 (4 : Int))] r12.2).bind fun r14 =>
((some r14.1).bind (getI .i64)).bind fun n15 =>
(wr base r14.2 (List.length r2.2) 1 [(.int .i64 n15)]).bind fun h16 =>
some (.inl ([some (.pointer v0), some (.int .i64 v1), some (.pointer (some ⟨(List.length h), 0, none⟩)), some (.pointer (some ⟨(List.length r2.2), 0, none⟩)), some (.string s10)], h16))
else
some (.inl ([some (.pointer v0), some (.int .i64 v1), some (.pointer (some ⟨(List.length h), 0, none⟩)), some (.pointer (some ⟨(List.length r2.2), 0, none⟩)), some (.string s10)], r12.2)))).bind fun j11 => joinK j11 fun j11 =>
((sget j11.1 0).bind getP).bind fun p17 =>
((sget (j11.1.tail) 0).bind (getI .i64)).bind fun n18 =>
((sget (j11.1.tail.tail) 0).bind getA).bind fun d19 =>
((sget (j11.1.tail.tail.tail) 0).bind getA).bind fun d20 =>
((sget (j11.1.tail.tail.tail.tail) 0).bind getStr).bind fun s21 =>
((run (Et base) 151 [(.string s21), (.int .u8 (66 : Int))] j11.2).bind fun r23 =>
((some r23.1).bind getB).bind fun b24 =>
(if b24 = true then
(run (Et base) 126 [(.pointer p17), (.int .i64 (4 : Int))] r23.2).bind fun r25 =>
((some r25.1).bind (getI .i64)).bind fun n26 =>
(wr base r25.2 d20.block (d20.off + 2) [(.int .i64 n26)]).bind fun h27 =>
some (.inl ([some (.pointer p17), some (.int .i64 n18), some (.pointer (some d19)), some (.pointer (some d20)), some (.string s21)], h27))
else
some (.inl ([some (.pointer p17), some (.int .i64 n18), some (.pointer (some d19)), some (.pointer (some d20)), some (.string s21)], r23.2)))).bind fun j22 => joinK j22 fun j22 =>
((sget j22.1 0).bind getP).bind fun p28 =>
((sget (j22.1.tail) 0).bind (getI .i64)).bind fun n29 =>
((sget (j22.1.tail.tail) 0).bind getA).bind fun d30 =>
((sget (j22.1.tail.tail.tail) 0).bind getA).bind fun d31 =>
((sget (j22.1.tail.tail.tail.tail) 0).bind getStr).bind fun s32 =>
((run (Et base) 151 [(.string s32), (.int .u8 (67 : Int))] j22.2).bind fun r34 =>
((some r34.1).bind getB).bind fun b35 =>
(if b35 = true then
(run (Et base) 126 [(.pointer p28), (.int .i64 (4 : Int))] r34.2).bind fun r36 =>
((some r36.1).bind (getI .i64)).bind fun n37 =>
(wr base r36.2 d31.block (d31.off + 3) [(.int .i64 n37)]).bind fun h38 =>
some (.inl ([some (.pointer p28), some (.int .i64 n29), some (.pointer (some d30)), some (.pointer (some d31))], h38))
else
some (.inl ([some (.pointer p28), some (.int .i64 n29), some (.pointer (some d30)), some (.pointer (some d31))], r34.2)))).bind fun j33 => joinK j33 fun j33 =>
((sget j33.1 0).bind getP).bind fun p39 =>
((sget (j33.1.tail) 0).bind (getI .i64)).bind fun n40 =>
((sget (j33.1.tail.tail) 0).bind getA).bind fun d41 =>
((sget (j33.1.tail.tail.tail) 0).bind getA).bind fun d42 =>
(((cell j33.2 d42.block (d42.off + 0)).bind (getI .i64)).bind fun n44 =>
(if (n44 == (1 : Int)) = true then
(some (j33.2 ++ [some ⟨[(.int .i64 (0 : Int)), (.int .i64 (1 : Int)), (.int .i64 (-1 : Int)), (.int .i64 (1000000 : Int))], 3⟩])).bind fun h45 =>
(run (Et base) 107 [(.pointer p39), (.slice (some ⟨(List.length j33.2), 0, none⟩) 4 4)] h45).bind fun r46 =>
((some r46.1).bind (getI .i64)).bind fun n47 =>
(wr base r46.2 d42.block (d42.off + 4) [(.int .i64 n47)]).bind fun h48 =>
some (.inl ([some (.pointer (some d41)), some (.pointer (some d42))], h48))
else
(if (n44 == (2 : Int)) = true then
(some (j33.2 ++ [some ⟨[(.string (⟨#[111, 107]⟩ : ByteArray)), (.string (⟨#[97]⟩ : ByteArray)), (.string (⟨#[98, 97, 100]⟩ : ByteArray))], 9⟩])).bind fun h49 =>
(run (Et base) 152 [(.pointer p39), (.slice (some ⟨(List.length j33.2), 0, none⟩) 3 3)] h49).bind fun r50 =>
((some r50.1).bind getStr).bind fun s51 =>
(wr base r50.2 d42.block (d42.off + 5) [(.string s51)]).bind fun h52 =>
some (.inl ([some (.pointer (some d41)), some (.pointer (some d42))], h52))
else
((if (n44 == (4 : Int)) = true then
some (.inl ([some (.pointer p39), some (.int .i64 n40), some (.pointer (some d41)), some (.pointer (some d42)), some (.int .i64 n44), some (.bool (n44 == (4 : Int)))], j33.2))
else
some (.inl ([some (.pointer p39), some (.int .i64 n40), some (.pointer (some d41)), some (.pointer (some d42)), some (.int .i64 n44), some (.bool (n44 == (6 : Int)))], j33.2)))).bind fun j53 => joinK j53 fun j53 =>
((sget j53.1 0).bind getP).bind fun p54 =>
((sget (j53.1.tail) 0).bind (getI .i64)).bind fun n55 =>
((sget (j53.1.tail.tail) 0).bind getA).bind fun d56 =>
((sget (j53.1.tail.tail.tail) 0).bind getA).bind fun d57 =>
((sget (j53.1.tail.tail.tail.tail) 0).bind (getI .i64)).bind fun n58 =>
((sget (j53.1.tail.tail.tail.tail.tail) 0).bind getB).bind fun b59 =>
(if b59 = true then
(run (Et base) 126 [(.pointer p54), (.int .i64 (4 : Int))] j53.2).bind fun r60 =>
((some r60.1).bind (getI .i64)).bind fun n61 =>
(wr base r60.2 d57.block (d57.off + 4) [(.int .i64 n61)]).bind fun h62 =>
some (.inl ([some (.pointer (some d56)), some (.pointer (some d57))], h62))
else
(if (n58 == (11 : Int)) = true then
(run (Et base) 126 [(.pointer p54), (.int .i64 (6 : Int))] j53.2).bind fun r63 =>
((some r63.1).bind (getI .i64)).bind fun n64 =>
(wr base r63.2 d57.block (d57.off + 2) [(.int .i64 (IntKind.wrap .i64 ((1 : Int) + n64)))]).bind fun h65 =>
(run (Et base) 126 [(.pointer p54), (.int .i64 n55)] h65).bind fun r66 =>
((some r66.1).bind (getI .i64)).bind fun n67 =>
(wr base r66.2 d57.block (d57.off + 4) [(.int .i64 n67)]).bind fun h68 =>
some (.inl ([some (.pointer (some d56)), some (.pointer (some d57))], h68))
else
((if (n58 == (10 : Int)) = true then
some (.inl ([some (.pointer p54), some (.int .i64 n55), some (.pointer (some d56)), some (.pointer (some d57)), some (.bool (n58 == (10 : Int)))], j53.2))
else
(if (n58 == (12 : Int)) = true then
some (.inl ([some (.pointer p54), some (.int .i64 n55), some (.pointer (some d56)), some (.pointer (some d57)), some (.bool (n58 == (12 : Int)))], j53.2))
else
some (.inl ([some (.pointer p54), some (.int .i64 n55), some (.pointer (some d56)), some (.pointer (some d57)), some (.bool (n58 == (16 : Int)))], j53.2))))).bind fun j69 => joinK j69 fun j69 =>
((sget j69.1 0).bind getP).bind fun p70 =>
((sget (j69.1.tail) 0).bind (getI .i64)).bind fun n71 =>
((sget (j69.1.tail.tail) 0).bind getA).bind fun d72 =>
((sget (j69.1.tail.tail.tail) 0).bind getA).bind fun d73 =>
((sget (j69.1.tail.tail.tail.tail) 0).bind getB).bind fun b74 =>
(if b74 = true then
(run (Et base) 126 [(.pointer p70), (.int .i64 n71)] j69.2).bind fun r75 =>
((some r75.1).bind (getI .i64)).bind fun n76 =>
(wr base r75.2 d73.block (d73.off + 4) [(.int .i64 n76)]).bind fun h77 =>
some (.inl ([some (.pointer (some d72)), some (.pointer (some d73))], h77))
else
some (.inl ([some (.pointer (some d72)), some (.pointer (some d73))], j69.2)))))))).bind fun j43 => joinK j43 fun j43 =>
((sget j43.1 0).bind getA).bind fun d78 =>
((sget (j43.1.tail) 0).bind getA).bind fun d79 =>
((cell j43.2 d79.block d79.off).bind (getI .i64)).bind fun n80 =>
((cell j43.2 d79.block (d79.off + 1)).bind (getI .i64)).bind fun n81 =>
((cell j43.2 d79.block ((d79.off + 1) + 1)).bind (getI .i64)).bind fun n82 =>
((cell j43.2 d79.block (((d79.off + 1) + 1) + 1)).bind (getI .i64)).bind fun n83 =>
((cell j43.2 d79.block ((((d79.off + 1) + 1) + 1) + 1)).bind (getI .i64)).bind fun n84 =>
((cell j43.2 d79.block (((((d79.off + 1) + 1) + 1) + 1) + 1)).bind getStr).bind fun s85 =>
(wr base j43.2 d78.block d78.off [(.int .i64 n80), (.int .i64 n81), (.int .i64 n82), (.int .i64 n83), (.int .i64 n84), (.string s85)]).bind fun h86 =>
((cell h86 d78.block d78.off).bind (getI .i64)).bind fun n87 =>
((cell h86 d78.block (d78.off + 1)).bind (getI .i64)).bind fun n88 =>
((cell h86 d78.block ((d78.off + 1) + 1)).bind (getI .i64)).bind fun n89 =>
((cell h86 d78.block (((d78.off + 1) + 1) + 1)).bind (getI .i64)).bind fun n90 =>
((cell h86 d78.block ((((d78.off + 1) + 1) + 1) + 1)).bind (getI .i64)).bind fun n91 =>
((cell h86 d78.block (((((d78.off + 1) + 1) + 1) + 1) + 1)).bind getStr).bind fun s92 =>
some ((.agg #[(.int .i64 n87), (.int .i64 n88), (.int .i64 n89), (.int .i64 n90), (.int .i64 n91), (.string s92)]), h86)
else none)))) = some r) : run (Et base) 127 [(.pointer v0), (.int .i64 v1)] h = some r := run_i Try.func127 (by kernel_rfl) ((f127_eq base v0 v1 h).trans hx)
/-! spec.l8Uses (gates 0) -/
theorem f141_eq (base : Nat)  (h : AH) : exFun (Et base) (run (Et base)) loopL a141 Try.f141 [] h =
((some (h ++ [some ⟨[(.string (⟨#[65, 78]⟩ : ByteArray)), (.string (⟨#[65, 83]⟩ : ByteArray)), (.string (⟨#[65, 66]⟩ : ByteArray)), (.string (⟨#[65, 66, 78]⟩ : ByteArray)), (.string (⟨#[65, 66, 67]⟩ : ByteArray)), (.string (⟨#[65, 66, 78]⟩ : ByteArray)), (.string (⟨#[65, 66]⟩ : ByteArray)), (.string (⟨#[65, 66]⟩ : ByteArray)), (.string (⟨#[65, 66, 67]⟩ : ByteArray)), (.string (⟨#[65, 66, 78]⟩ : ByteArray)), (.string (⟨#[65, 66, 78]⟩ : ByteArray)), (.string (⟨#[78]⟩ : ByteArray)), (.string (⟨#[65, 66]⟩ : ByteArray)), (.string (⟨#[65]⟩ : ByteArray)), (.string (⟨#[65]⟩ : ByteArray)), (.string (⟨#[65, 66, 78]⟩ : ByteArray)), (.string (⟨#[65]⟩ : ByteArray)), (.string (⟨#[65]⟩ : ByteArray)), (.string (⟨#[65]⟩ : ByteArray)), (.string (⟨#[65]⟩ : ByteArray))], 9⟩])).bind fun h1 =>
some ((.slice (some ⟨(List.length h), 0, none⟩) 20 20), h1) : Option (Value × AH)) := by kernel_rfl
theorem r141 {base : Nat}  {h : AH} {r : Value × AH} (hx :
((some (h ++ [some ⟨[(.string (⟨#[65, 78]⟩ : ByteArray)), (.string (⟨#[65, 83]⟩ : ByteArray)), (.string (⟨#[65, 66]⟩ : ByteArray)), (.string (⟨#[65, 66, 78]⟩ : ByteArray)), (.string (⟨#[65, 66, 67]⟩ : ByteArray)), (.string (⟨#[65, 66, 78]⟩ : ByteArray)), (.string (⟨#[65, 66]⟩ : ByteArray)), (.string (⟨#[65, 66]⟩ : ByteArray)), (.string (⟨#[65, 66, 67]⟩ : ByteArray)), (.string (⟨#[65, 66, 78]⟩ : ByteArray)), (.string (⟨#[65, 66, 78]⟩ : ByteArray)), (.string (⟨#[78]⟩ : ByteArray)), (.string (⟨#[65, 66]⟩ : ByteArray)), (.string (⟨#[65]⟩ : ByteArray)), (.string (⟨#[65]⟩ : ByteArray)), (.string (⟨#[65, 66, 78]⟩ : ByteArray)), (.string (⟨#[65]⟩ : ByteArray)), (.string (⟨#[65]⟩ : ByteArray)), (.string (⟨#[65]⟩ : ByteArray)), (.string (⟨#[65]⟩ : ByteArray))], 9⟩])).bind fun h1 =>
some ((.slice (some ⟨(List.length h), 0, none⟩) 20 20), h1)) = some r) : run (Et base) 141 [] h = some r := run_i Try.func141 (by kernel_rfl) ((f141_eq base  h).trans hx)
/-! spec.l8Reg (gates 0) -/
theorem f142_eq (base : Nat) (v0 : ByteArray) (v1 : Int) (v2 : Int) (h : AH) : exFun (Et base) (run (Et base)) loopL a142 Try.f142 [(.string v0), (.int .u8 v1), (.int .i64 v2)] h =
((run (Et base) 151 [(.string v0), (.int .u8 v1)] h).bind fun r1 =>
((some r1.1).bind getB).bind fun b2 =>
(if (!b2) = true then
some ((.bool (v2 == (0 : Int))), r1.2)
else
(run (Et base) 62 [(.int .i64 v2), (.int .i64 (0 : Int)), (.int .i64 (7 : Int))] r1.2).bind fun r3 =>
((some r3.1).bind getB).bind fun b4 =>
some ((.bool b4), r3.2)) : Option (Value × AH)) := by kernel_rfl
theorem r142 {base : Nat} {v0 : ByteArray} {v1 : Int} {v2 : Int} {h : AH} {r : Value × AH} (hx :
((run (Et base) 151 [(.string v0), (.int .u8 v1)] h).bind fun r1 =>
((some r1.1).bind getB).bind fun b2 =>
(if (!b2) = true then
some ((.bool (v2 == (0 : Int))), r1.2)
else
(run (Et base) 62 [(.int .i64 v2), (.int .i64 (0 : Int)), (.int .i64 (7 : Int))] r1.2).bind fun r3 =>
((some r3.1).bind getB).bind fun b4 =>
some ((.bool b4), r3.2))) = some r) : run (Et base) 142 [(.string v0), (.int .u8 v1), (.int .i64 v2)] h = some r := run_i Try.func142 (by kernel_rfl) ((f142_eq base v0 v1 v2 h).trans hx)
/-! spec.AtomOk (gates 0) -/
noncomputable def B143_0 (base : Nat) : Body := fun l h => lay s143_0 l fun s => exCode (Et base) (run (Et base)) loopL a143_0 (subC [1, 0, 1, 0, 0] (bodyC Try.f143)) s h (keepK s143_0 e143_0)
theorem B143_0_eq (base : Nat) (v0 : ByteArray) (v3 : Int) (h : AH) : B143_0 base [some (.string v0), some (.int .i64 v3)] h =
((if (decide (v3 < (v0.size : Int))) = true then
(if 0 ≤ v3 ∧ v3 < (v0.size : Int) then
(run (Et base) 62 [(.int .i64 (IntKind.wrap .i64 ((v0.data.toList.getD (Int.toNat v3) 0).toNat : Int))), (.int .i64 (97 : Int)), (.int .i64 (122 : Int))] h).bind fun r1 =>
((some r1.1).bind getB).bind fun b2 =>
((if (!b2) = true then
(if (v3 == (0 : Int)) = true then
some (.inl ([some (.string v0), some (.int .i64 v3), some (.bool true)], r1.2))
else
(if 0 ≤ v3 ∧ v3 < (v0.size : Int) then
(run (Et base) 62 [(.int .i64 (IntKind.wrap .i64 ((v0.data.toList.getD (Int.toNat v3) 0).toNat : Int))), (.int .i64 (48 : Int)), (.int .i64 (57 : Int))] r1.2).bind fun r4 =>
((some r4.1).bind getB).bind fun b5 =>
some (.inl ([some (.string v0), some (.int .i64 v3), some (.bool (!b5))], r4.2))
else none))
else
some (.inl ([some (.string v0), some (.int .i64 v3), some (.bool false)], r1.2)))).bind fun j3 => joinK j3 fun j3 =>
((sget j3.1 0).bind getStr).bind fun s6 =>
((sget (j3.1.tail) 0).bind (getI .i64)).bind fun n7 =>
((sget (j3.1.tail.tail) 0).bind getB).bind fun b8 =>
(if b8 = true then
some (1, [some (.bool false)], j3.2)
else
some (0, [some (.string s6), some (.int .i64 (IntKind.wrap .i64 (n7 + (1 : Int))))], j3.2))
else none)
else
some (2, [some (.string v0)], h)) : Option (Nat × Slots × AH)) := by kernel_rfl
theorem f143_eq (base : Nat) (v0 : ByteArray) (h : AH) : exFun (Et base) (run (Et base)) loopL a143 Try.f143 [(.string v0)] h =
((loopL (B143_0 base) [some (.string v0), some (.int .i64 (0 : Int))] h).bind fun q1 =>
(if q1.1 = 1 then
((sget q1.2.1 0).bind getB).bind fun b2 =>
some ((.bool b2), q1.2.2)
else
(if q1.1 = 2 then
((sget q1.2.1 0).bind getStr).bind fun s3 =>
(run (Et base) 62 [(.int .i64 (s3.size : Int)), (.int .i64 (1 : Int)), (.int .i64 (12 : Int))] q1.2.2).bind fun r4 =>
((some r4.1).bind getB).bind fun b5 =>
some ((.bool b5), r4.2)
else
none)) : Option (Value × AH)) := by kernel_rfl
theorem r143 {base : Nat} {v0 : ByteArray} {h : AH} {r : Value × AH} (hx :
((loopL (B143_0 base) [some (.string v0), some (.int .i64 (0 : Int))] h).bind fun q1 =>
(if q1.1 = 1 then
((sget q1.2.1 0).bind getB).bind fun b2 =>
some ((.bool b2), q1.2.2)
else
(if q1.1 = 2 then
((sget q1.2.1 0).bind getStr).bind fun s3 =>
(run (Et base) 62 [(.int .i64 (s3.size : Int)), (.int .i64 (1 : Int)), (.int .i64 (12 : Int))] q1.2.2).bind fun r4 =>
((some r4.1).bind getB).bind fun b5 =>
some ((.bool b5), r4.2)
else
none))) = some r) : run (Et base) 143 [(.string v0)] h = some r := run_i Try.func143 (by kernel_rfl) ((f143_eq base v0 h).trans hx)
/-! spec.l8Num (gates 0) -/
theorem f144_eq (base : Nat) (v0_0 : Int) (v0_1 : Int) (v0_2 : Int) (v0_3 : Int) (v0_4 : Int) (v0_5 : ByteArray) (v1 : Int) (h : AH) : exFun (Et base) (run (Et base)) loopL a144 Try.f144 [(.agg #[(.int .i64 v0_0), (.int .i64 v0_1), (.int .i64 v0_2), (.int .i64 v0_3), (.int .i64 v0_4), (.string v0_5)]), (.int .i64 v1)] h =
((some (h ++ [some ⟨[(.int .i64 v0_0), (.int .i64 v0_1), (.int .i64 v0_2), (.int .i64 v0_3), (.int .i64 v0_4), (.string v0_5)], 116⟩])).bind fun h1 =>
((cell h1 (List.length h) 0).bind (getI .i64)).bind fun n2 =>
(if (n2 == (1 : Int)) = true then
((cell h1 (List.length h) 4).bind (getI .i64)).bind fun n3 =>
(run (Et base) 62 [(.int .i64 n3), (.int .i64 (-1000000 : Int)), (.int .i64 (1000000 : Int))] h1).bind fun r4 =>
((some r4.1).bind getB).bind fun b5 =>
some ((.bool b5), r4.2)
else
(if (n2 == (4 : Int)) = true then
((cell h1 (List.length h) 4).bind (getI .i64)).bind fun n6 =>
(run (Et base) 62 [(.int .i64 n6), (.int .i64 (0 : Int)), (.int .i64 (8 : Int))] h1).bind fun r7 =>
((some r7.1).bind getB).bind fun b8 =>
(if b8 = true then
((cell r7.2 (List.length h) 2).bind (getI .i64)).bind fun n9 =>
((cell r7.2 (List.length h) 4).bind (getI .i64)).bind fun n10 =>
some ((.bool (decide ((IntKind.wrap .i64 (n9 + n10)) ≤ (8 : Int)))), r7.2)
else
some ((.bool false), r7.2))
else
(if (n2 == (6 : Int)) = true then
((cell h1 (List.length h) 4).bind (getI .i64)).bind fun n11 =>
(run (Et base) 62 [(.int .i64 n11), (.int .i64 (0 : Int)), (.int .i64 (7 : Int))] h1).bind fun r12 =>
((some r12.1).bind getB).bind fun b13 =>
some ((.bool b13), r12.2)
else
((if (n2 == (10 : Int)) = true then
some (.inl ([some (.int .i64 v1), some (.pointer (some ⟨(List.length h), 0, none⟩)), some (.bool (n2 == (10 : Int)))], h1))
else
(if (n2 == (11 : Int)) = true then
some (.inl ([some (.int .i64 v1), some (.pointer (some ⟨(List.length h), 0, none⟩)), some (.bool (n2 == (11 : Int)))], h1))
else
(if (n2 == (12 : Int)) = true then
some (.inl ([some (.int .i64 v1), some (.pointer (some ⟨(List.length h), 0, none⟩)), some (.bool (n2 == (12 : Int)))], h1))
else
some (.inl ([some (.int .i64 v1), some (.pointer (some ⟨(List.length h), 0, none⟩)), some (.bool (n2 == (16 : Int)))], h1)))))).bind fun j14 => joinK j14 fun j14 =>
((sget j14.1 0).bind (getI .i64)).bind fun n15 =>
((sget (j14.1.tail) 0).bind getA).bind fun d16 =>
((sget (j14.1.tail.tail) 0).bind getB).bind fun b17 =>
(if b17 = true then
((cell j14.2 d16.block (d16.off + 4)).bind (getI .i64)).bind fun n18 =>
(if (decide (n18 ≥ (0 : Int))) = true then
((cell j14.2 d16.block (d16.off + 4)).bind (getI .i64)).bind fun n19 =>
some ((.bool (decide (n19 < n15))), j14.2)
else
some ((.bool false), j14.2))
else
((cell j14.2 d16.block (d16.off + 4)).bind (getI .i64)).bind fun n20 =>
some ((.bool (n20 == (0 : Int))), j14.2))))) : Option (Value × AH)) := by kernel_rfl
theorem r144 {base : Nat} {v0_0 : Int} {v0_1 : Int} {v0_2 : Int} {v0_3 : Int} {v0_4 : Int} {v0_5 : ByteArray} {v1 : Int} {h : AH} {r : Value × AH} (hx :
((some (h ++ [some ⟨[(.int .i64 v0_0), (.int .i64 v0_1), (.int .i64 v0_2), (.int .i64 v0_3), (.int .i64 v0_4), (.string v0_5)], 116⟩])).bind fun h1 =>
((cell h1 (List.length h) 0).bind (getI .i64)).bind fun n2 =>
(if (n2 == (1 : Int)) = true then
((cell h1 (List.length h) 4).bind (getI .i64)).bind fun n3 =>
(run (Et base) 62 [(.int .i64 n3), (.int .i64 (-1000000 : Int)), (.int .i64 (1000000 : Int))] h1).bind fun r4 =>
((some r4.1).bind getB).bind fun b5 =>
some ((.bool b5), r4.2)
else
(if (n2 == (4 : Int)) = true then
((cell h1 (List.length h) 4).bind (getI .i64)).bind fun n6 =>
(run (Et base) 62 [(.int .i64 n6), (.int .i64 (0 : Int)), (.int .i64 (8 : Int))] h1).bind fun r7 =>
((some r7.1).bind getB).bind fun b8 =>
(if b8 = true then
((cell r7.2 (List.length h) 2).bind (getI .i64)).bind fun n9 =>
((cell r7.2 (List.length h) 4).bind (getI .i64)).bind fun n10 =>
some ((.bool (decide ((IntKind.wrap .i64 (n9 + n10)) ≤ (8 : Int)))), r7.2)
else
some ((.bool false), r7.2))
else
(if (n2 == (6 : Int)) = true then
((cell h1 (List.length h) 4).bind (getI .i64)).bind fun n11 =>
(run (Et base) 62 [(.int .i64 n11), (.int .i64 (0 : Int)), (.int .i64 (7 : Int))] h1).bind fun r12 =>
((some r12.1).bind getB).bind fun b13 =>
some ((.bool b13), r12.2)
else
((if (n2 == (10 : Int)) = true then
some (.inl ([some (.int .i64 v1), some (.pointer (some ⟨(List.length h), 0, none⟩)), some (.bool (n2 == (10 : Int)))], h1))
else
(if (n2 == (11 : Int)) = true then
some (.inl ([some (.int .i64 v1), some (.pointer (some ⟨(List.length h), 0, none⟩)), some (.bool (n2 == (11 : Int)))], h1))
else
(if (n2 == (12 : Int)) = true then
some (.inl ([some (.int .i64 v1), some (.pointer (some ⟨(List.length h), 0, none⟩)), some (.bool (n2 == (12 : Int)))], h1))
else
some (.inl ([some (.int .i64 v1), some (.pointer (some ⟨(List.length h), 0, none⟩)), some (.bool (n2 == (16 : Int)))], h1)))))).bind fun j14 => joinK j14 fun j14 =>
((sget j14.1 0).bind (getI .i64)).bind fun n15 =>
((sget (j14.1.tail) 0).bind getA).bind fun d16 =>
((sget (j14.1.tail.tail) 0).bind getB).bind fun b17 =>
(if b17 = true then
((cell j14.2 d16.block (d16.off + 4)).bind (getI .i64)).bind fun n18 =>
(if (decide (n18 ≥ (0 : Int))) = true then
((cell j14.2 d16.block (d16.off + 4)).bind (getI .i64)).bind fun n19 =>
some ((.bool (decide (n19 < n15))), j14.2)
else
some ((.bool false), j14.2))
else
((cell j14.2 d16.block (d16.off + 4)).bind (getI .i64)).bind fun n20 =>
some ((.bool (n20 == (0 : Int))), j14.2)))))) = some r) : run (Et base) 144 [(.agg #[(.int .i64 v0_0), (.int .i64 v0_1), (.int .i64 v0_2), (.int .i64 v0_3), (.int .i64 v0_4), (.string v0_5)]), (.int .i64 v1)] h = some r := run_i Try.func144 (by kernel_rfl) ((f144_eq base v0_0 v0_1 v0_2 v0_3 v0_4 v0_5 v1 h).trans hx)
/-! impl.onlyNamed (gates 0) -/
theorem f145_eq (base : Nat) (v0_0 : Int) (v0_1 : Int) (v0_2 : Int) (v0_3 : Int) (v0_4 : Int) (v0_5 : ByteArray) (h : AH) : exFun (Et base) (run (Et base)) loopL a145 Try.f145 [(.agg #[(.int .i64 v0_0), (.int .i64 v0_1), (.int .i64 v0_2), (.int .i64 v0_3), (.int .i64 v0_4), (.string v0_5)])] h =
((some (h ++ [some ⟨[(.int .i64 v0_0), (.int .i64 v0_1), (.int .i64 v0_2), (.int .i64 v0_3), (.int .i64 v0_4), (.string v0_5)], 116⟩])).bind fun h1 =>
((cell h1 (List.length h) 0).bind (getI .i64)).bind fun n2 =>
(run (Et base) 158 [(.int .i64 n2)] h1).bind fun r3 =>
((some r3.1).bind getStr).bind fun s4 =>
(some (r3.2 ++ [some ⟨[(.string ⟨#[]⟩)], 9⟩])).bind fun h5 =>
(wr base h5 (List.length r3.2) 0 [(.string s4)]).bind fun h6 =>
((cell h6 (List.length r3.2) 0).bind getStr).bind fun s7 =>
(if (!(s7.toList == (⟨#[]⟩ : ByteArray).toList)) = true then
((run (Et base) 159 [(.int .u8 (65 : Int)), (.pointer (some ⟨(List.length r3.2), 0, none⟩))] h6).bind fun r9 =>
((some r9.1).bind getB).bind fun b10 =>
some ((.bool b10), r9.2)).bind fun r8 =>
((some r8.1).bind getB).bind fun b11 =>
(if b11 = true then
((run (Et base) 159 [(.int .u8 (66 : Int)), (.pointer (some ⟨(List.length r3.2), 0, none⟩))] r8.2).bind fun r13 =>
((some r13.1).bind getB).bind fun b14 =>
some ((.bool b14), r13.2)).bind fun r12 =>
((some r12.1).bind getB).bind fun b15 =>
(if b15 = true then
((run (Et base) 159 [(.int .u8 (67 : Int)), (.pointer (some ⟨(List.length r3.2), 0, none⟩))] r12.2).bind fun r17 =>
((some r17.1).bind getB).bind fun b18 =>
some ((.bool b18), r17.2)).bind fun r16 =>
((some r16.1).bind getB).bind fun b19 =>
(if b19 = true then
((run (Et base) 159 [(.int .u8 (78 : Int)), (.pointer (some ⟨(List.length r3.2), 0, none⟩))] r16.2).bind fun r21 =>
((some r21.1).bind getB).bind fun b22 =>
some ((.bool b22), r21.2)).bind fun r20 =>
((some r20.1).bind getB).bind fun b23 =>
(if b23 = true then
((run (Et base) 159 [(.int .u8 (83 : Int)), (.pointer (some ⟨(List.length r3.2), 0, none⟩))] r20.2).bind fun r25 =>
((some r25.1).bind getB).bind fun b26 =>
some ((.bool b26), r25.2)).bind fun r24 =>
((some r24.1).bind getB).bind fun b27 =>
(if b27 = true then
some ((.bool true), r24.2)
else
((cell r24.2 (List.length h) 5).bind getStr).bind fun s28 =>
some ((.bool (s28.toList == (⟨#[]⟩ : ByteArray).toList)), r24.2))
else
((cell r20.2 (List.length h) 4).bind (getI .i64)).bind fun n29 =>
(if (n29 == (0 : Int)) = true then
((run (Et base) 159 [(.int .u8 (83 : Int)), (.pointer (some ⟨(List.length r3.2), 0, none⟩))] r20.2).bind fun r31 =>
((some r31.1).bind getB).bind fun b32 =>
some ((.bool b32), r31.2)).bind fun r30 =>
((some r30.1).bind getB).bind fun b33 =>
(if b33 = true then
some ((.bool true), r30.2)
else
((cell r30.2 (List.length h) 5).bind getStr).bind fun s34 =>
some ((.bool (s34.toList == (⟨#[]⟩ : ByteArray).toList)), r30.2))
else
some ((.bool false), r20.2)))
else
((cell r16.2 (List.length h) 3).bind (getI .i64)).bind fun n35 =>
(if (n35 == (0 : Int)) = true then
((run (Et base) 159 [(.int .u8 (78 : Int)), (.pointer (some ⟨(List.length r3.2), 0, none⟩))] r16.2).bind fun r37 =>
((some r37.1).bind getB).bind fun b38 =>
some ((.bool b38), r37.2)).bind fun r36 =>
((some r36.1).bind getB).bind fun b39 =>
(if b39 = true then
((run (Et base) 159 [(.int .u8 (83 : Int)), (.pointer (some ⟨(List.length r3.2), 0, none⟩))] r36.2).bind fun r41 =>
((some r41.1).bind getB).bind fun b42 =>
some ((.bool b42), r41.2)).bind fun r40 =>
((some r40.1).bind getB).bind fun b43 =>
(if b43 = true then
some ((.bool true), r40.2)
else
((cell r40.2 (List.length h) 5).bind getStr).bind fun s44 =>
some ((.bool (s44.toList == (⟨#[]⟩ : ByteArray).toList)), r40.2))
else
((cell r36.2 (List.length h) 4).bind (getI .i64)).bind fun n45 =>
(if (n45 == (0 : Int)) = true then
((run (Et base) 159 [(.int .u8 (83 : Int)), (.pointer (some ⟨(List.length r3.2), 0, none⟩))] r36.2).bind fun r47 =>
((some r47.1).bind getB).bind fun b48 =>
some ((.bool b48), r47.2)).bind fun r46 =>
((some r46.1).bind getB).bind fun b49 =>
(if b49 = true then
some ((.bool true), r46.2)
else
((cell r46.2 (List.length h) 5).bind getStr).bind fun s50 =>
some ((.bool (s50.toList == (⟨#[]⟩ : ByteArray).toList)), r46.2))
else
some ((.bool false), r36.2)))
else
some ((.bool false), r16.2)))
else
((cell r12.2 (List.length h) 2).bind (getI .i64)).bind fun n51 =>
(if (n51 == (0 : Int)) = true then
((run (Et base) 159 [(.int .u8 (67 : Int)), (.pointer (some ⟨(List.length r3.2), 0, none⟩))] r12.2).bind fun r53 =>
((some r53.1).bind getB).bind fun b54 =>
some ((.bool b54), r53.2)).bind fun r52 =>
((some r52.1).bind getB).bind fun b55 =>
(if b55 = true then
((run (Et base) 159 [(.int .u8 (78 : Int)), (.pointer (some ⟨(List.length r3.2), 0, none⟩))] r52.2).bind fun r57 =>
((some r57.1).bind getB).bind fun b58 =>
some ((.bool b58), r57.2)).bind fun r56 =>
((some r56.1).bind getB).bind fun b59 =>
(if b59 = true then
((run (Et base) 159 [(.int .u8 (83 : Int)), (.pointer (some ⟨(List.length r3.2), 0, none⟩))] r56.2).bind fun r61 =>
((some r61.1).bind getB).bind fun b62 =>
some ((.bool b62), r61.2)).bind fun r60 =>
((some r60.1).bind getB).bind fun b63 =>
(if b63 = true then
some ((.bool true), r60.2)
else
((cell r60.2 (List.length h) 5).bind getStr).bind fun s64 =>
some ((.bool (s64.toList == (⟨#[]⟩ : ByteArray).toList)), r60.2))
else
((cell r56.2 (List.length h) 4).bind (getI .i64)).bind fun n65 =>
(if (n65 == (0 : Int)) = true then
((run (Et base) 159 [(.int .u8 (83 : Int)), (.pointer (some ⟨(List.length r3.2), 0, none⟩))] r56.2).bind fun r67 =>
((some r67.1).bind getB).bind fun b68 =>
some ((.bool b68), r67.2)).bind fun r66 =>
((some r66.1).bind getB).bind fun b69 =>
(if b69 = true then
some ((.bool true), r66.2)
else
((cell r66.2 (List.length h) 5).bind getStr).bind fun s70 =>
some ((.bool (s70.toList == (⟨#[]⟩ : ByteArray).toList)), r66.2))
else
some ((.bool false), r56.2)))
else
((cell r52.2 (List.length h) 3).bind (getI .i64)).bind fun n71 =>
(if (n71 == (0 : Int)) = true then
((run (Et base) 159 [(.int .u8 (78 : Int)), (.pointer (some ⟨(List.length r3.2), 0, none⟩))] r52.2).bind fun r73 =>
((some r73.1).bind getB).bind fun b74 =>
some ((.bool b74), r73.2)).bind fun r72 =>
((some r72.1).bind getB).bind fun b75 =>
(if b75 = true then
((run (Et base) 159 [(.int .u8 (83 : Int)), (.pointer (some ⟨(List.length r3.2), 0, none⟩))] r72.2).bind fun r77 =>
((some r77.1).bind getB).bind fun b78 =>
some ((.bool b78), r77.2)).bind fun r76 =>
((some r76.1).bind getB).bind fun b79 =>
(if b79 = true then
some ((.bool true), r76.2)
else
((cell r76.2 (List.length h) 5).bind getStr).bind fun s80 =>
some ((.bool (s80.toList == (⟨#[]⟩ : ByteArray).toList)), r76.2))
else
((cell r72.2 (List.length h) 4).bind (getI .i64)).bind fun n81 =>
(if (n81 == (0 : Int)) = true then
((run (Et base) 159 [(.int .u8 (83 : Int)), (.pointer (some ⟨(List.length r3.2), 0, none⟩))] r72.2).bind fun r83 =>
((some r83.1).bind getB).bind fun b84 =>
some ((.bool b84), r83.2)).bind fun r82 =>
((some r82.1).bind getB).bind fun b85 =>
(if b85 = true then
some ((.bool true), r82.2)
else
((cell r82.2 (List.length h) 5).bind getStr).bind fun s86 =>
some ((.bool (s86.toList == (⟨#[]⟩ : ByteArray).toList)), r82.2))
else
some ((.bool false), r72.2)))
else
some ((.bool false), r52.2)))
else
some ((.bool false), r12.2)))
else
((cell r8.2 (List.length h) 1).bind (getI .i64)).bind fun n87 =>
(if (n87 == (0 : Int)) = true then
((run (Et base) 159 [(.int .u8 (66 : Int)), (.pointer (some ⟨(List.length r3.2), 0, none⟩))] r8.2).bind fun r89 =>
((some r89.1).bind getB).bind fun b90 =>
some ((.bool b90), r89.2)).bind fun r88 =>
((some r88.1).bind getB).bind fun b91 =>
(if b91 = true then
((run (Et base) 159 [(.int .u8 (67 : Int)), (.pointer (some ⟨(List.length r3.2), 0, none⟩))] r88.2).bind fun r93 =>
((some r93.1).bind getB).bind fun b94 =>
some ((.bool b94), r93.2)).bind fun r92 =>
((some r92.1).bind getB).bind fun b95 =>
(if b95 = true then
((run (Et base) 159 [(.int .u8 (78 : Int)), (.pointer (some ⟨(List.length r3.2), 0, none⟩))] r92.2).bind fun r97 =>
((some r97.1).bind getB).bind fun b98 =>
some ((.bool b98), r97.2)).bind fun r96 =>
((some r96.1).bind getB).bind fun b99 =>
(if b99 = true then
((run (Et base) 159 [(.int .u8 (83 : Int)), (.pointer (some ⟨(List.length r3.2), 0, none⟩))] r96.2).bind fun r101 =>
((some r101.1).bind getB).bind fun b102 =>
some ((.bool b102), r101.2)).bind fun r100 =>
((some r100.1).bind getB).bind fun b103 =>
(if b103 = true then
some ((.bool true), r100.2)
else
((cell r100.2 (List.length h) 5).bind getStr).bind fun s104 =>
some ((.bool (s104.toList == (⟨#[]⟩ : ByteArray).toList)), r100.2))
else
((cell r96.2 (List.length h) 4).bind (getI .i64)).bind fun n105 =>
(if (n105 == (0 : Int)) = true then
((run (Et base) 159 [(.int .u8 (83 : Int)), (.pointer (some ⟨(List.length r3.2), 0, none⟩))] r96.2).bind fun r107 =>
((some r107.1).bind getB).bind fun b108 =>
some ((.bool b108), r107.2)).bind fun r106 =>
((some r106.1).bind getB).bind fun b109 =>
(if b109 = true then
some ((.bool true), r106.2)
else
((cell r106.2 (List.length h) 5).bind getStr).bind fun s110 =>
some ((.bool (s110.toList == (⟨#[]⟩ : ByteArray).toList)), r106.2))
else
some ((.bool false), r96.2)))
else
((cell r92.2 (List.length h) 3).bind (getI .i64)).bind fun n111 =>
(if (n111 == (0 : Int)) = true then
((run (Et base) 159 [(.int .u8 (78 : Int)), (.pointer (some ⟨(List.length r3.2), 0, none⟩))] r92.2).bind fun r113 =>
((some r113.1).bind getB).bind fun b114 =>
some ((.bool b114), r113.2)).bind fun r112 =>
((some r112.1).bind getB).bind fun b115 =>
(if b115 = true then
((run (Et base) 159 [(.int .u8 (83 : Int)), (.pointer (some ⟨(List.length r3.2), 0, none⟩))] r112.2).bind fun r117 =>
((some r117.1).bind getB).bind fun b118 =>
some ((.bool b118), r117.2)).bind fun r116 =>
((some r116.1).bind getB).bind fun b119 =>
(if b119 = true then
some ((.bool true), r116.2)
else
((cell r116.2 (List.length h) 5).bind getStr).bind fun s120 =>
some ((.bool (s120.toList == (⟨#[]⟩ : ByteArray).toList)), r116.2))
else
((cell r112.2 (List.length h) 4).bind (getI .i64)).bind fun n121 =>
(if (n121 == (0 : Int)) = true then
((run (Et base) 159 [(.int .u8 (83 : Int)), (.pointer (some ⟨(List.length r3.2), 0, none⟩))] r112.2).bind fun r123 =>
((some r123.1).bind getB).bind fun b124 =>
some ((.bool b124), r123.2)).bind fun r122 =>
((some r122.1).bind getB).bind fun b125 =>
(if b125 = true then
some ((.bool true), r122.2)
else
((cell r122.2 (List.length h) 5).bind getStr).bind fun s126 =>
some ((.bool (s126.toList == (⟨#[]⟩ : ByteArray).toList)), r122.2))
else
some ((.bool false), r112.2)))
else
some ((.bool false), r92.2)))
else
((cell r88.2 (List.length h) 2).bind (getI .i64)).bind fun n127 =>
(if (n127 == (0 : Int)) = true then
((run (Et base) 159 [(.int .u8 (67 : Int)), (.pointer (some ⟨(List.length r3.2), 0, none⟩))] r88.2).bind fun r129 =>
((some r129.1).bind getB).bind fun b130 =>
some ((.bool b130), r129.2)).bind fun r128 =>
((some r128.1).bind getB).bind fun b131 =>
(if b131 = true then
((run (Et base) 159 [(.int .u8 (78 : Int)), (.pointer (some ⟨(List.length r3.2), 0, none⟩))] r128.2).bind fun r133 =>
((some r133.1).bind getB).bind fun b134 =>
some ((.bool b134), r133.2)).bind fun r132 =>
((some r132.1).bind getB).bind fun b135 =>
(if b135 = true then
((run (Et base) 159 [(.int .u8 (83 : Int)), (.pointer (some ⟨(List.length r3.2), 0, none⟩))] r132.2).bind fun r137 =>
((some r137.1).bind getB).bind fun b138 =>
some ((.bool b138), r137.2)).bind fun r136 =>
((some r136.1).bind getB).bind fun b139 =>
(if b139 = true then
some ((.bool true), r136.2)
else
((cell r136.2 (List.length h) 5).bind getStr).bind fun s140 =>
some ((.bool (s140.toList == (⟨#[]⟩ : ByteArray).toList)), r136.2))
else
((cell r132.2 (List.length h) 4).bind (getI .i64)).bind fun n141 =>
(if (n141 == (0 : Int)) = true then
((run (Et base) 159 [(.int .u8 (83 : Int)), (.pointer (some ⟨(List.length r3.2), 0, none⟩))] r132.2).bind fun r143 =>
((some r143.1).bind getB).bind fun b144 =>
some ((.bool b144), r143.2)).bind fun r142 =>
((some r142.1).bind getB).bind fun b145 =>
(if b145 = true then
some ((.bool true), r142.2)
else
((cell r142.2 (List.length h) 5).bind getStr).bind fun s146 =>
some ((.bool (s146.toList == (⟨#[]⟩ : ByteArray).toList)), r142.2))
else
some ((.bool false), r132.2)))
else
((cell r128.2 (List.length h) 3).bind (getI .i64)).bind fun n147 =>
(if (n147 == (0 : Int)) = true then
((run (Et base) 159 [(.int .u8 (78 : Int)), (.pointer (some ⟨(List.length r3.2), 0, none⟩))] r128.2).bind fun r149 =>
((some r149.1).bind getB).bind fun b150 =>
some ((.bool b150), r149.2)).bind fun r148 =>
((some r148.1).bind getB).bind fun b151 =>
(if b151 = true then
((run (Et base) 159 [(.int .u8 (83 : Int)), (.pointer (some ⟨(List.length r3.2), 0, none⟩))] r148.2).bind fun r153 =>
((some r153.1).bind getB).bind fun b154 =>
some ((.bool b154), r153.2)).bind fun r152 =>
((some r152.1).bind getB).bind fun b155 =>
(if b155 = true then
some ((.bool true), r152.2)
else
((cell r152.2 (List.length h) 5).bind getStr).bind fun s156 =>
some ((.bool (s156.toList == (⟨#[]⟩ : ByteArray).toList)), r152.2))
else
((cell r148.2 (List.length h) 4).bind (getI .i64)).bind fun n157 =>
(if (n157 == (0 : Int)) = true then
((run (Et base) 159 [(.int .u8 (83 : Int)), (.pointer (some ⟨(List.length r3.2), 0, none⟩))] r148.2).bind fun r159 =>
((some r159.1).bind getB).bind fun b160 =>
some ((.bool b160), r159.2)).bind fun r158 =>
((some r158.1).bind getB).bind fun b161 =>
(if b161 = true then
some ((.bool true), r158.2)
else
((cell r158.2 (List.length h) 5).bind getStr).bind fun s162 =>
some ((.bool (s162.toList == (⟨#[]⟩ : ByteArray).toList)), r158.2))
else
some ((.bool false), r148.2)))
else
some ((.bool false), r128.2)))
else
some ((.bool false), r88.2)))
else
some ((.bool false), r8.2)))
else
some ((.bool false), h6)) : Option (Value × AH)) := by kernel_rfl
theorem r145 {base : Nat} {v0_0 : Int} {v0_1 : Int} {v0_2 : Int} {v0_3 : Int} {v0_4 : Int} {v0_5 : ByteArray} {h : AH} {r : Value × AH} (hx :
((some (h ++ [some ⟨[(.int .i64 v0_0), (.int .i64 v0_1), (.int .i64 v0_2), (.int .i64 v0_3), (.int .i64 v0_4), (.string v0_5)], 116⟩])).bind fun h1 =>
((cell h1 (List.length h) 0).bind (getI .i64)).bind fun n2 =>
(run (Et base) 158 [(.int .i64 n2)] h1).bind fun r3 =>
((some r3.1).bind getStr).bind fun s4 =>
(some (r3.2 ++ [some ⟨[(.string ⟨#[]⟩)], 9⟩])).bind fun h5 =>
(wr base h5 (List.length r3.2) 0 [(.string s4)]).bind fun h6 =>
((cell h6 (List.length r3.2) 0).bind getStr).bind fun s7 =>
(if (!(s7.toList == (⟨#[]⟩ : ByteArray).toList)) = true then
((run (Et base) 159 [(.int .u8 (65 : Int)), (.pointer (some ⟨(List.length r3.2), 0, none⟩))] h6).bind fun r9 =>
((some r9.1).bind getB).bind fun b10 =>
some ((.bool b10), r9.2)).bind fun r8 =>
((some r8.1).bind getB).bind fun b11 =>
(if b11 = true then
((run (Et base) 159 [(.int .u8 (66 : Int)), (.pointer (some ⟨(List.length r3.2), 0, none⟩))] r8.2).bind fun r13 =>
((some r13.1).bind getB).bind fun b14 =>
some ((.bool b14), r13.2)).bind fun r12 =>
((some r12.1).bind getB).bind fun b15 =>
(if b15 = true then
((run (Et base) 159 [(.int .u8 (67 : Int)), (.pointer (some ⟨(List.length r3.2), 0, none⟩))] r12.2).bind fun r17 =>
((some r17.1).bind getB).bind fun b18 =>
some ((.bool b18), r17.2)).bind fun r16 =>
((some r16.1).bind getB).bind fun b19 =>
(if b19 = true then
((run (Et base) 159 [(.int .u8 (78 : Int)), (.pointer (some ⟨(List.length r3.2), 0, none⟩))] r16.2).bind fun r21 =>
((some r21.1).bind getB).bind fun b22 =>
some ((.bool b22), r21.2)).bind fun r20 =>
((some r20.1).bind getB).bind fun b23 =>
(if b23 = true then
((run (Et base) 159 [(.int .u8 (83 : Int)), (.pointer (some ⟨(List.length r3.2), 0, none⟩))] r20.2).bind fun r25 =>
((some r25.1).bind getB).bind fun b26 =>
some ((.bool b26), r25.2)).bind fun r24 =>
((some r24.1).bind getB).bind fun b27 =>
(if b27 = true then
some ((.bool true), r24.2)
else
((cell r24.2 (List.length h) 5).bind getStr).bind fun s28 =>
some ((.bool (s28.toList == (⟨#[]⟩ : ByteArray).toList)), r24.2))
else
((cell r20.2 (List.length h) 4).bind (getI .i64)).bind fun n29 =>
(if (n29 == (0 : Int)) = true then
((run (Et base) 159 [(.int .u8 (83 : Int)), (.pointer (some ⟨(List.length r3.2), 0, none⟩))] r20.2).bind fun r31 =>
((some r31.1).bind getB).bind fun b32 =>
some ((.bool b32), r31.2)).bind fun r30 =>
((some r30.1).bind getB).bind fun b33 =>
(if b33 = true then
some ((.bool true), r30.2)
else
((cell r30.2 (List.length h) 5).bind getStr).bind fun s34 =>
some ((.bool (s34.toList == (⟨#[]⟩ : ByteArray).toList)), r30.2))
else
some ((.bool false), r20.2)))
else
((cell r16.2 (List.length h) 3).bind (getI .i64)).bind fun n35 =>
(if (n35 == (0 : Int)) = true then
((run (Et base) 159 [(.int .u8 (78 : Int)), (.pointer (some ⟨(List.length r3.2), 0, none⟩))] r16.2).bind fun r37 =>
((some r37.1).bind getB).bind fun b38 =>
some ((.bool b38), r37.2)).bind fun r36 =>
((some r36.1).bind getB).bind fun b39 =>
(if b39 = true then
((run (Et base) 159 [(.int .u8 (83 : Int)), (.pointer (some ⟨(List.length r3.2), 0, none⟩))] r36.2).bind fun r41 =>
((some r41.1).bind getB).bind fun b42 =>
some ((.bool b42), r41.2)).bind fun r40 =>
((some r40.1).bind getB).bind fun b43 =>
(if b43 = true then
some ((.bool true), r40.2)
else
((cell r40.2 (List.length h) 5).bind getStr).bind fun s44 =>
some ((.bool (s44.toList == (⟨#[]⟩ : ByteArray).toList)), r40.2))
else
((cell r36.2 (List.length h) 4).bind (getI .i64)).bind fun n45 =>
(if (n45 == (0 : Int)) = true then
((run (Et base) 159 [(.int .u8 (83 : Int)), (.pointer (some ⟨(List.length r3.2), 0, none⟩))] r36.2).bind fun r47 =>
((some r47.1).bind getB).bind fun b48 =>
some ((.bool b48), r47.2)).bind fun r46 =>
((some r46.1).bind getB).bind fun b49 =>
(if b49 = true then
some ((.bool true), r46.2)
else
((cell r46.2 (List.length h) 5).bind getStr).bind fun s50 =>
some ((.bool (s50.toList == (⟨#[]⟩ : ByteArray).toList)), r46.2))
else
some ((.bool false), r36.2)))
else
some ((.bool false), r16.2)))
else
((cell r12.2 (List.length h) 2).bind (getI .i64)).bind fun n51 =>
(if (n51 == (0 : Int)) = true then
((run (Et base) 159 [(.int .u8 (67 : Int)), (.pointer (some ⟨(List.length r3.2), 0, none⟩))] r12.2).bind fun r53 =>
((some r53.1).bind getB).bind fun b54 =>
some ((.bool b54), r53.2)).bind fun r52 =>
((some r52.1).bind getB).bind fun b55 =>
(if b55 = true then
((run (Et base) 159 [(.int .u8 (78 : Int)), (.pointer (some ⟨(List.length r3.2), 0, none⟩))] r52.2).bind fun r57 =>
((some r57.1).bind getB).bind fun b58 =>
some ((.bool b58), r57.2)).bind fun r56 =>
((some r56.1).bind getB).bind fun b59 =>
(if b59 = true then
((run (Et base) 159 [(.int .u8 (83 : Int)), (.pointer (some ⟨(List.length r3.2), 0, none⟩))] r56.2).bind fun r61 =>
((some r61.1).bind getB).bind fun b62 =>
some ((.bool b62), r61.2)).bind fun r60 =>
((some r60.1).bind getB).bind fun b63 =>
(if b63 = true then
some ((.bool true), r60.2)
else
((cell r60.2 (List.length h) 5).bind getStr).bind fun s64 =>
some ((.bool (s64.toList == (⟨#[]⟩ : ByteArray).toList)), r60.2))
else
((cell r56.2 (List.length h) 4).bind (getI .i64)).bind fun n65 =>
(if (n65 == (0 : Int)) = true then
((run (Et base) 159 [(.int .u8 (83 : Int)), (.pointer (some ⟨(List.length r3.2), 0, none⟩))] r56.2).bind fun r67 =>
((some r67.1).bind getB).bind fun b68 =>
some ((.bool b68), r67.2)).bind fun r66 =>
((some r66.1).bind getB).bind fun b69 =>
(if b69 = true then
some ((.bool true), r66.2)
else
((cell r66.2 (List.length h) 5).bind getStr).bind fun s70 =>
some ((.bool (s70.toList == (⟨#[]⟩ : ByteArray).toList)), r66.2))
else
some ((.bool false), r56.2)))
else
((cell r52.2 (List.length h) 3).bind (getI .i64)).bind fun n71 =>
(if (n71 == (0 : Int)) = true then
((run (Et base) 159 [(.int .u8 (78 : Int)), (.pointer (some ⟨(List.length r3.2), 0, none⟩))] r52.2).bind fun r73 =>
((some r73.1).bind getB).bind fun b74 =>
some ((.bool b74), r73.2)).bind fun r72 =>
((some r72.1).bind getB).bind fun b75 =>
(if b75 = true then
((run (Et base) 159 [(.int .u8 (83 : Int)), (.pointer (some ⟨(List.length r3.2), 0, none⟩))] r72.2).bind fun r77 =>
((some r77.1).bind getB).bind fun b78 =>
some ((.bool b78), r77.2)).bind fun r76 =>
((some r76.1).bind getB).bind fun b79 =>
(if b79 = true then
some ((.bool true), r76.2)
else
((cell r76.2 (List.length h) 5).bind getStr).bind fun s80 =>
some ((.bool (s80.toList == (⟨#[]⟩ : ByteArray).toList)), r76.2))
else
((cell r72.2 (List.length h) 4).bind (getI .i64)).bind fun n81 =>
(if (n81 == (0 : Int)) = true then
((run (Et base) 159 [(.int .u8 (83 : Int)), (.pointer (some ⟨(List.length r3.2), 0, none⟩))] r72.2).bind fun r83 =>
((some r83.1).bind getB).bind fun b84 =>
some ((.bool b84), r83.2)).bind fun r82 =>
((some r82.1).bind getB).bind fun b85 =>
(if b85 = true then
some ((.bool true), r82.2)
else
((cell r82.2 (List.length h) 5).bind getStr).bind fun s86 =>
some ((.bool (s86.toList == (⟨#[]⟩ : ByteArray).toList)), r82.2))
else
some ((.bool false), r72.2)))
else
some ((.bool false), r52.2)))
else
some ((.bool false), r12.2)))
else
((cell r8.2 (List.length h) 1).bind (getI .i64)).bind fun n87 =>
(if (n87 == (0 : Int)) = true then
((run (Et base) 159 [(.int .u8 (66 : Int)), (.pointer (some ⟨(List.length r3.2), 0, none⟩))] r8.2).bind fun r89 =>
((some r89.1).bind getB).bind fun b90 =>
some ((.bool b90), r89.2)).bind fun r88 =>
((some r88.1).bind getB).bind fun b91 =>
(if b91 = true then
((run (Et base) 159 [(.int .u8 (67 : Int)), (.pointer (some ⟨(List.length r3.2), 0, none⟩))] r88.2).bind fun r93 =>
((some r93.1).bind getB).bind fun b94 =>
some ((.bool b94), r93.2)).bind fun r92 =>
((some r92.1).bind getB).bind fun b95 =>
(if b95 = true then
((run (Et base) 159 [(.int .u8 (78 : Int)), (.pointer (some ⟨(List.length r3.2), 0, none⟩))] r92.2).bind fun r97 =>
((some r97.1).bind getB).bind fun b98 =>
some ((.bool b98), r97.2)).bind fun r96 =>
((some r96.1).bind getB).bind fun b99 =>
(if b99 = true then
((run (Et base) 159 [(.int .u8 (83 : Int)), (.pointer (some ⟨(List.length r3.2), 0, none⟩))] r96.2).bind fun r101 =>
((some r101.1).bind getB).bind fun b102 =>
some ((.bool b102), r101.2)).bind fun r100 =>
((some r100.1).bind getB).bind fun b103 =>
(if b103 = true then
some ((.bool true), r100.2)
else
((cell r100.2 (List.length h) 5).bind getStr).bind fun s104 =>
some ((.bool (s104.toList == (⟨#[]⟩ : ByteArray).toList)), r100.2))
else
((cell r96.2 (List.length h) 4).bind (getI .i64)).bind fun n105 =>
(if (n105 == (0 : Int)) = true then
((run (Et base) 159 [(.int .u8 (83 : Int)), (.pointer (some ⟨(List.length r3.2), 0, none⟩))] r96.2).bind fun r107 =>
((some r107.1).bind getB).bind fun b108 =>
some ((.bool b108), r107.2)).bind fun r106 =>
((some r106.1).bind getB).bind fun b109 =>
(if b109 = true then
some ((.bool true), r106.2)
else
((cell r106.2 (List.length h) 5).bind getStr).bind fun s110 =>
some ((.bool (s110.toList == (⟨#[]⟩ : ByteArray).toList)), r106.2))
else
some ((.bool false), r96.2)))
else
((cell r92.2 (List.length h) 3).bind (getI .i64)).bind fun n111 =>
(if (n111 == (0 : Int)) = true then
((run (Et base) 159 [(.int .u8 (78 : Int)), (.pointer (some ⟨(List.length r3.2), 0, none⟩))] r92.2).bind fun r113 =>
((some r113.1).bind getB).bind fun b114 =>
some ((.bool b114), r113.2)).bind fun r112 =>
((some r112.1).bind getB).bind fun b115 =>
(if b115 = true then
((run (Et base) 159 [(.int .u8 (83 : Int)), (.pointer (some ⟨(List.length r3.2), 0, none⟩))] r112.2).bind fun r117 =>
((some r117.1).bind getB).bind fun b118 =>
some ((.bool b118), r117.2)).bind fun r116 =>
((some r116.1).bind getB).bind fun b119 =>
(if b119 = true then
some ((.bool true), r116.2)
else
((cell r116.2 (List.length h) 5).bind getStr).bind fun s120 =>
some ((.bool (s120.toList == (⟨#[]⟩ : ByteArray).toList)), r116.2))
else
((cell r112.2 (List.length h) 4).bind (getI .i64)).bind fun n121 =>
(if (n121 == (0 : Int)) = true then
((run (Et base) 159 [(.int .u8 (83 : Int)), (.pointer (some ⟨(List.length r3.2), 0, none⟩))] r112.2).bind fun r123 =>
((some r123.1).bind getB).bind fun b124 =>
some ((.bool b124), r123.2)).bind fun r122 =>
((some r122.1).bind getB).bind fun b125 =>
(if b125 = true then
some ((.bool true), r122.2)
else
((cell r122.2 (List.length h) 5).bind getStr).bind fun s126 =>
some ((.bool (s126.toList == (⟨#[]⟩ : ByteArray).toList)), r122.2))
else
some ((.bool false), r112.2)))
else
some ((.bool false), r92.2)))
else
((cell r88.2 (List.length h) 2).bind (getI .i64)).bind fun n127 =>
(if (n127 == (0 : Int)) = true then
((run (Et base) 159 [(.int .u8 (67 : Int)), (.pointer (some ⟨(List.length r3.2), 0, none⟩))] r88.2).bind fun r129 =>
((some r129.1).bind getB).bind fun b130 =>
some ((.bool b130), r129.2)).bind fun r128 =>
((some r128.1).bind getB).bind fun b131 =>
(if b131 = true then
((run (Et base) 159 [(.int .u8 (78 : Int)), (.pointer (some ⟨(List.length r3.2), 0, none⟩))] r128.2).bind fun r133 =>
((some r133.1).bind getB).bind fun b134 =>
some ((.bool b134), r133.2)).bind fun r132 =>
((some r132.1).bind getB).bind fun b135 =>
(if b135 = true then
((run (Et base) 159 [(.int .u8 (83 : Int)), (.pointer (some ⟨(List.length r3.2), 0, none⟩))] r132.2).bind fun r137 =>
((some r137.1).bind getB).bind fun b138 =>
some ((.bool b138), r137.2)).bind fun r136 =>
((some r136.1).bind getB).bind fun b139 =>
(if b139 = true then
some ((.bool true), r136.2)
else
((cell r136.2 (List.length h) 5).bind getStr).bind fun s140 =>
some ((.bool (s140.toList == (⟨#[]⟩ : ByteArray).toList)), r136.2))
else
((cell r132.2 (List.length h) 4).bind (getI .i64)).bind fun n141 =>
(if (n141 == (0 : Int)) = true then
((run (Et base) 159 [(.int .u8 (83 : Int)), (.pointer (some ⟨(List.length r3.2), 0, none⟩))] r132.2).bind fun r143 =>
((some r143.1).bind getB).bind fun b144 =>
some ((.bool b144), r143.2)).bind fun r142 =>
((some r142.1).bind getB).bind fun b145 =>
(if b145 = true then
some ((.bool true), r142.2)
else
((cell r142.2 (List.length h) 5).bind getStr).bind fun s146 =>
some ((.bool (s146.toList == (⟨#[]⟩ : ByteArray).toList)), r142.2))
else
some ((.bool false), r132.2)))
else
((cell r128.2 (List.length h) 3).bind (getI .i64)).bind fun n147 =>
(if (n147 == (0 : Int)) = true then
((run (Et base) 159 [(.int .u8 (78 : Int)), (.pointer (some ⟨(List.length r3.2), 0, none⟩))] r128.2).bind fun r149 =>
((some r149.1).bind getB).bind fun b150 =>
some ((.bool b150), r149.2)).bind fun r148 =>
((some r148.1).bind getB).bind fun b151 =>
(if b151 = true then
((run (Et base) 159 [(.int .u8 (83 : Int)), (.pointer (some ⟨(List.length r3.2), 0, none⟩))] r148.2).bind fun r153 =>
((some r153.1).bind getB).bind fun b154 =>
some ((.bool b154), r153.2)).bind fun r152 =>
((some r152.1).bind getB).bind fun b155 =>
(if b155 = true then
some ((.bool true), r152.2)
else
((cell r152.2 (List.length h) 5).bind getStr).bind fun s156 =>
some ((.bool (s156.toList == (⟨#[]⟩ : ByteArray).toList)), r152.2))
else
((cell r148.2 (List.length h) 4).bind (getI .i64)).bind fun n157 =>
(if (n157 == (0 : Int)) = true then
((run (Et base) 159 [(.int .u8 (83 : Int)), (.pointer (some ⟨(List.length r3.2), 0, none⟩))] r148.2).bind fun r159 =>
((some r159.1).bind getB).bind fun b160 =>
some ((.bool b160), r159.2)).bind fun r158 =>
((some r158.1).bind getB).bind fun b161 =>
(if b161 = true then
some ((.bool true), r158.2)
else
((cell r158.2 (List.length h) 5).bind getStr).bind fun s162 =>
some ((.bool (s162.toList == (⟨#[]⟩ : ByteArray).toList)), r158.2))
else
some ((.bool false), r148.2)))
else
some ((.bool false), r128.2)))
else
some ((.bool false), r88.2)))
else
some ((.bool false), r8.2)))
else
some ((.bool false), h6))) = some r) : run (Et base) 145 [(.agg #[(.int .i64 v0_0), (.int .i64 v0_1), (.int .i64 v0_2), (.int .i64 v0_3), (.int .i64 v0_4), (.string v0_5)])] h = some r := run_i Try.func145 (by kernel_rfl) ((f145_eq base v0_0 v0_1 v0_2 v0_3 v0_4 v0_5 h).trans hx)
/-! impl.isReg (gates 0) -/
theorem f146_eq (base : Nat) (v0 : Int) (h : AH) : exFun (Et base) (run (Et base)) loopL a146 Try.f146 [(.int .i64 v0)] h =
((run (Et base) 67 [(.int .i64 v0), (.int .i64 (0 : Int)), (.int .i64 (7 : Int))] h).bind fun r1 =>
((some r1.1).bind getB).bind fun b2 =>
some ((.bool b2), r1.2) : Option (Value × AH)) := by kernel_rfl
theorem r146 {base : Nat} {v0 : Int} {h : AH} {r : Value × AH} (hx :
((run (Et base) 67 [(.int .i64 v0), (.int .i64 (0 : Int)), (.int .i64 (7 : Int))] h).bind fun r1 =>
((some r1.1).bind getB).bind fun b2 =>
some ((.bool b2), r1.2)) = some r) : run (Et base) 146 [(.int .i64 v0)] h = some r := run_i Try.func146 (by kernel_rfl) ((f146_eq base v0 h).trans hx)
/-! impl.AtomOk (gates 0) -/
noncomputable def B147_0 (base : Nat) : Body := fun l h => lay s147_0 l fun s => exCode (Et base) (run (Et base)) loopL a147_0 (subC [1, 0, 1, 0, 0] (bodyC Try.f147)) s h (keepK s147_0 e147_0)
theorem B147_0_eq (base : Nat) (v0 : ByteArray) (v3 : Int) (h : AH) : B147_0 base [some (.string v0), some (.int .i64 v3)] h =
((if (decide (v3 < (v0.size : Int))) = true then
((if 0 ≤ v3 ∧ v3 < (v0.size : Int) then
(run (Et base) 161 [(.int .u8 ((v0.data.toList.getD (Int.toNat v3) 0).toNat : Int))] h).bind fun r2 =>
((some r2.1).bind getB).bind fun b3 =>
(if (!b3) = true then
(if (v3 == (0 : Int)) = true then
some (.inl ([some (.string v0), some (.int .i64 v3), some (.bool true)], r2.2))
else
(if 0 ≤ v3 ∧ v3 < (v0.size : Int) then
(run (Et base) 162 [(.int .u8 ((v0.data.toList.getD (Int.toNat v3) 0).toNat : Int))] r2.2).bind fun r4 =>
((some r4.1).bind getB).bind fun b5 =>
some (.inl ([some (.string v0), some (.int .i64 v3), some (.bool (!b5))], r4.2))
else none))
else
some (.inl ([some (.string v0), some (.int .i64 v3), some (.bool false)], r2.2)))
else none)).bind fun j1 => joinK j1 fun j1 =>
((sget j1.1 0).bind getStr).bind fun s6 =>
((sget (j1.1.tail) 0).bind (getI .i64)).bind fun n7 =>
((sget (j1.1.tail.tail) 0).bind getB).bind fun b8 =>
(if b8 = true then
some (1, [some (.bool false)], j1.2)
else
some (0, [some (.string s6), some (.int .i64 (IntKind.wrap .i64 (n7 + (1 : Int))))], j1.2))
else
some (2, [some (.string v0)], h)) : Option (Nat × Slots × AH)) := by kernel_rfl
theorem f147_eq (base : Nat) (v0 : ByteArray) (h : AH) : exFun (Et base) (run (Et base)) loopL a147 Try.f147 [(.string v0)] h =
((loopL (B147_0 base) [some (.string v0), some (.int .i64 (0 : Int))] h).bind fun q1 =>
(if q1.1 = 1 then
((sget q1.2.1 0).bind getB).bind fun b2 =>
some ((.bool b2), q1.2.2)
else
(if q1.1 = 2 then
((sget q1.2.1 0).bind getStr).bind fun s3 =>
(run (Et base) 67 [(.int .i64 (s3.size : Int)), (.int .i64 (1 : Int)), (.int .i64 (12 : Int))] q1.2.2).bind fun r4 =>
((some r4.1).bind getB).bind fun b5 =>
some ((.bool b5), r4.2)
else
none)) : Option (Value × AH)) := by kernel_rfl
theorem r147 {base : Nat} {v0 : ByteArray} {h : AH} {r : Value × AH} (hx :
((loopL (B147_0 base) [some (.string v0), some (.int .i64 (0 : Int))] h).bind fun q1 =>
(if q1.1 = 1 then
((sget q1.2.1 0).bind getB).bind fun b2 =>
some ((.bool b2), q1.2.2)
else
(if q1.1 = 2 then
((sget q1.2.1 0).bind getStr).bind fun s3 =>
(run (Et base) 67 [(.int .i64 (s3.size : Int)), (.int .i64 (1 : Int)), (.int .i64 (12 : Int))] q1.2.2).bind fun r4 =>
((some r4.1).bind getB).bind fun b5 =>
some ((.bool b5), r4.2)
else
none))) = some r) : run (Et base) 147 [(.string v0)] h = some r := run_i Try.func147 (by kernel_rfl) ((f147_eq base v0 h).trans hx)
/-! spec.l8Split (gates 0) -/
noncomputable def B148_0 (base : Nat) : Body := fun l h => lay s148_0 l fun s => exCode (Et base) (run (Et base)) loopL a148_0 (subC [1, 1, 1, 0, 1, 0, 0] (bodyC Try.f148)) s h (keepK s148_0 e148_0)
theorem B148_0_eq (base : Nat) (v0 : ByteArray) (v1 : Int) (v5 : Option Addr) (v5n : Nat) (v6 : Int) (v7 : Int) (h : AH) : B148_0 base [some (.string v0), some (.int .u8 v1), some (.slice v5 v5n v5n), some (.int .i64 v6), some (.int .i64 v7)] h =
((if (decide (v7 ≤ (v0.size : Int))) = true then
(((if (v7 == (v0.size : Int)) = true then
some (.inl ([some (.string v0), some (.int .u8 v1), some (.slice v5 v5n v5n), some (.int .i64 v6), some (.int .i64 v7), some (.bool true)], h))
else
(if 0 ≤ v7 ∧ v7 < (v0.size : Int) then
some (.inl ([some (.string v0), some (.int .u8 v1), some (.slice v5 v5n v5n), some (.int .i64 v6), some (.int .i64 v7), some (.bool (((v0.data.toList.getD (Int.toNat v7) 0).toNat : Int) == v1))], h))
else none))).bind fun j2 => joinK j2 fun j2 =>
((sget j2.1 0).bind getStr).bind fun s3 =>
((sget (j2.1.tail) 0).bind (getI .u8)).bind fun n4 =>
((sget (j2.1.tail.tail) 0).bind getS).bind fun l5 =>
((sget (j2.1.tail.tail.tail) 0).bind (getI .i64)).bind fun n6 =>
((sget (j2.1.tail.tail.tail.tail) 0).bind (getI .i64)).bind fun n7 =>
((sget (j2.1.tail.tail.tail.tail.tail) 0).bind getB).bind fun b8 =>
(if b8 = true then
(if 0 ≤ n6 ∧ n6 ≤ n7 ∧ n7 ≤ (s3.size : Int) then
(some (j2.2 ++ [some ⟨[(.string (s3.extract (Int.toNat n6) (Int.toNat n7)))], 9⟩])).bind fun h9 =>
(app base h9 9 1 16 l5.1 l5.2 (rawAt h9 (some ⟨(List.length j2.2), 0, none⟩) (1 * 1)) 1).bind fun p10 =>
((some p10.1).bind getS).bind fun l11 =>
some (.inl ([some (.string s3), some (.int .u8 n4), some (.slice l11.1 l11.2 l11.2), some (.int .i64 (IntKind.wrap .i64 (n7 + (1 : Int)))), some (.int .i64 n7)], p10.2))
else none)
else
some (.inl ([some (.string s3), some (.int .u8 n4), some (.slice l5.1 l5.2 l5.2), some (.int .i64 n6), some (.int .i64 n7)], j2.2)))).bind fun j1 => joinK j1 fun j1 =>
((sget j1.1 0).bind getStr).bind fun s12 =>
((sget (j1.1.tail) 0).bind (getI .u8)).bind fun n13 =>
((sget (j1.1.tail.tail) 0).bind getS).bind fun l14 =>
((sget (j1.1.tail.tail.tail) 0).bind (getI .i64)).bind fun n15 =>
((sget (j1.1.tail.tail.tail.tail) 0).bind (getI .i64)).bind fun n16 =>
some (0, [some (.string s12), some (.int .u8 n13), some (.slice l14.1 l14.2 l14.2), some (.int .i64 n15), some (.int .i64 (IntKind.wrap .i64 (n16 + (1 : Int))))], j1.2)
else
some (2, [some (.slice v5 v5n v5n)], h)) : Option (Nat × Slots × AH)) := by kernel_rfl
theorem f148_eq (base : Nat) (v0 : ByteArray) (v1 : Int) (h : AH) : exFun (Et base) (run (Et base)) loopL a148 Try.f148 [(.string v0), (.int .u8 v1)] h =
((some (h ++ [some ⟨[], 9⟩])).bind fun h1 =>
(loopL (B148_0 base) [some (.string v0), some (.int .u8 v1), some (.slice (some ⟨(List.length h), 0, none⟩) 0 0), some (.int .i64 (0 : Int)), some (.int .i64 (0 : Int))] h1).bind fun q2 =>
(if q2.1 = 2 then
((sget q2.2.1 0).bind getS).bind fun l3 =>
some ((.slice l3.1 l3.2 l3.2), q2.2.2)
else
none) : Option (Value × AH)) := by kernel_rfl
theorem r148 {base : Nat} {v0 : ByteArray} {v1 : Int} {h : AH} {r : Value × AH} (hx :
((some (h ++ [some ⟨[], 9⟩])).bind fun h1 =>
(loopL (B148_0 base) [some (.string v0), some (.int .u8 v1), some (.slice (some ⟨(List.length h), 0, none⟩) 0 0), some (.int .i64 (0 : Int)), some (.int .i64 (0 : Int))] h1).bind fun q2 =>
(if q2.1 = 2 then
((sget q2.2.1 0).bind getS).bind fun l3 =>
some ((.slice l3.1 l3.2 l3.2), q2.2.2)
else
none)) = some r) : run (Et base) 148 [(.string v0), (.int .u8 v1)] h = some r := run_i Try.func148 (by kernel_rfl) ((f148_eq base v0 v1 h).trans hx)
/-! spec.l8Ins (gates 0) -/
noncomputable def B149_1 (base : Nat) : Body := fun l h => lay s149_1 l fun s => exCode (Et base) (run (Et base)) loopL a149_1 (subC [1, 1, 1, 0, 1, 0, 0, 1, 0, 0, 1, 1, 1, 1, 0, 1, 0, 0] (bodyC Try.f149)) s h (keepK s149_1 e149_1)
noncomputable def B149_0 (base : Nat) : Body := fun l h => lay s149_0 l fun s => exCode (Et base) (run (Et base)) loopL a149_0 (subC [1, 1, 1, 0, 1, 0, 0] (bodyC Try.f149)) s h (keepK s149_0 e149_0)
theorem B149_1_eq (base : Nat) (v2 : Addr) (v4 : Option Addr) (v4n : Nat) (v7 : ByteArray) (v8 : Addr) (v9 : Bool) (v10 : Int) (h : AH) : B149_1 base [some (.pointer (some v2)), some (.slice v4 v4n v4n), some (.string v7), some (.pointer (some v8)), some (.bool v9), some (.int .i64 v10)] h =
(((if (decide (v10 < (v7.size : Int))) = true then
some (.inl ([some (.pointer (some v2)), some (.slice v4 v4n v4n), some (.string v7), some (.pointer (some v8)), some (.bool v9), some (.int .i64 v10), some (.bool v9)], h))
else
some (.inl ([some (.pointer (some v2)), some (.slice v4 v4n v4n), some (.string v7), some (.pointer (some v8)), some (.bool v9), some (.int .i64 v10), some (.bool false)], h)))).bind fun j1 => joinK j1 fun j1 =>
((sget j1.1 0).bind getA).bind fun d2 =>
((sget (j1.1.tail) 0).bind getS).bind fun l3 =>
((sget (j1.1.tail.tail) 0).bind getStr).bind fun s4 =>
((sget (j1.1.tail.tail.tail) 0).bind getA).bind fun d5 =>
((sget (j1.1.tail.tail.tail.tail) 0).bind getB).bind fun b6 =>
((sget (j1.1.tail.tail.tail.tail.tail) 0).bind (getI .i64)).bind fun n7 =>
((sget (j1.1.tail.tail.tail.tail.tail.tail) 0).bind getB).bind fun b8 =>
(if b8 = true then
(if 0 ≤ n7 ∧ n7 < (s4.size : Int) then
(if 0 ≤ (IntKind.wrap .i64 (n7 + (1 : Int))) ∧ (IntKind.wrap .i64 (n7 + (1 : Int))) < ((l3.2 : Nat) : Int) then
((l3.1 : Option Addr)).bind fun a9 =>
((cell j1.2 a9.block (a9.off + Int.toNat (IntKind.wrap .i64 (n7 + (1 : Int))) * 1)).bind getStr).bind fun s10 =>
(run (Et base) 164 [(.pointer (some d5)), (.int .u8 ((s4.data.toList.getD (Int.toNat n7) 0).toNat : Int)), (.string s10)] j1.2).bind fun r11 =>
((some r11.1).bind getB).bind fun b12 =>
some (0, [some (.pointer (some d2)), some (.slice l3.1 l3.2 l3.2), some (.string s4), some (.pointer (some d5)), some (.bool b12), some (.int .i64 (IntKind.wrap .i64 (n7 + (1 : Int))))], r11.2)
else none)
else none)
else
some (4, [some (.pointer (some d2)), some (.pointer (some d5)), some (.bool b6)], j1.2)) : Option (Nat × Slots × AH)) := by kernel_rfl
theorem B149_0_eq (base : Nat) (v2 : Addr) (v4 : Option Addr) (v4n : Nat) (v5 : Option Addr) (v5n : Nat) (v6 : Int) (h : AH) : B149_0 base [some (.pointer (some v2)), some (.slice v4 v4n v4n), some (.slice v5 v5n v5n), some (.int .i64 v6)] h =
((if (decide (v6 < ((v5n : Nat) : Int))) = true then
(run (Et base) 141 [] h).bind fun r1 =>
((some r1.1).bind getS).bind fun l2 =>
(if 0 ≤ v6 ∧ v6 < ((l2.2 : Nat) : Int) then
((l2.1 : Option Addr)).bind fun a3 =>
((cell r1.2 a3.block (a3.off + Int.toNat v6 * 1)).bind getStr).bind fun s4 =>
(if 0 ≤ v6 ∧ v6 < ((v5n : Nat) : Int) then
((v5 : Option Addr)).bind fun a5 =>
((cell r1.2 a5.block (a5.off + Int.toNat v6 * 1)).bind getStr).bind fun s6 =>
(if 0 ≤ (0 : Int) ∧ (0 : Int) < ((v4n : Nat) : Int) then
((v4 : Option Addr)).bind fun a7 =>
((cell r1.2 a7.block (a7.off + Int.toNat (0 : Int) * 1)).bind getStr).bind fun s8 =>
(if (!(s6.toList == s8.toList)) = true then
some (0, [some (.pointer (some v2)), some (.slice v4 v4n v4n), some (.slice v5 v5n v5n), some (.int .i64 (IntKind.wrap .i64 (v6 + (1 : Int))))], r1.2)
else
(some (r1.2 ++ [some ⟨[(.int .i64 0), (.int .i64 0), (.int .i64 0), (.int .i64 0), (.int .i64 0), (.string ⟨#[]⟩)], 116⟩])).bind fun h9 =>
(wr base h9 (List.length r1.2) 0 [(.int .i64 (IntKind.wrap .i64 (v6 + (1 : Int)))), (.int .i64 (0 : Int)), (.int .i64 (0 : Int)), (.int .i64 (0 : Int)), (.int .i64 (0 : Int)), (.string (⟨#[]⟩ : ByteArray))]).bind fun h10 =>
(loopL (B149_1 base) [some (.pointer (some v2)), some (.slice v4 v4n v4n), some (.string s4), some (.pointer (some ⟨(List.length r1.2), 0, none⟩)), some (.bool (((v4n : Nat) : Int) == (IntKind.wrap .i64 ((s4.size : Int) + (1 : Int))))), some (.int .i64 (0 : Int))] h10).bind fun q11 =>
(if q11.1 = 4 then
((sget q11.2.1 0).bind getA).bind fun d12 =>
((sget (q11.2.1.tail) 0).bind getA).bind fun d13 =>
((sget (q11.2.1.tail.tail) 0).bind getB).bind fun b14 =>
((cell q11.2.2 d13.block d13.off).bind (getI .i64)).bind fun n15 =>
((cell q11.2.2 d13.block (d13.off + 1)).bind (getI .i64)).bind fun n16 =>
((cell q11.2.2 d13.block ((d13.off + 1) + 1)).bind (getI .i64)).bind fun n17 =>
((cell q11.2.2 d13.block (((d13.off + 1) + 1) + 1)).bind (getI .i64)).bind fun n18 =>
((cell q11.2.2 d13.block ((((d13.off + 1) + 1) + 1) + 1)).bind (getI .i64)).bind fun n19 =>
((cell q11.2.2 d13.block (((((d13.off + 1) + 1) + 1) + 1) + 1)).bind getStr).bind fun s20 =>
(wr base q11.2.2 d12.block d12.off [(.int .i64 n15), (.int .i64 n16), (.int .i64 n17), (.int .i64 n18), (.int .i64 n19), (.string s20)]).bind fun h21 =>
some (1, [some (.pointer (some d12)), some (.bool b14)], h21)
else
none))
else none)
else none)
else none)
else
some (2, [some (.pointer (some v2))], h)) : Option (Nat × Slots × AH)) := by kernel_rfl
theorem f149_eq (base : Nat) (v0 : ByteArray) (h : AH) : exFun (Et base) (run (Et base)) loopL a149 Try.f149 [(.string v0)] h =
((some (h ++ [some ⟨[(.int .i64 0), (.int .i64 0), (.int .i64 0), (.int .i64 0), (.int .i64 0), (.string ⟨#[]⟩)], 116⟩])).bind fun h1 =>
(run (Et base) 148 [(.string v0), (.int .u8 (32 : Int))] h1).bind fun r2 =>
((some r2.1).bind getS).bind fun l3 =>
(run (Et base) 163 [] r2.2).bind fun r4 =>
((some r4.1).bind getS).bind fun l5 =>
(loopL (B149_0 base) [some (.pointer (some ⟨(List.length h), 0, none⟩)), some (.slice l3.1 l3.2 l3.2), some (.slice l5.1 l5.2 l5.2), some (.int .i64 (0 : Int))] r4.2).bind fun q6 =>
(if q6.1 = 1 then
((sget q6.2.1 0).bind getA).bind fun d7 =>
((sget (q6.2.1.tail) 0).bind getB).bind fun b8 =>
((cell q6.2.2 d7.block d7.off).bind (getI .i64)).bind fun n9 =>
((cell q6.2.2 d7.block (d7.off + 1)).bind (getI .i64)).bind fun n10 =>
((cell q6.2.2 d7.block ((d7.off + 1) + 1)).bind (getI .i64)).bind fun n11 =>
((cell q6.2.2 d7.block (((d7.off + 1) + 1) + 1)).bind (getI .i64)).bind fun n12 =>
((cell q6.2.2 d7.block ((((d7.off + 1) + 1) + 1) + 1)).bind (getI .i64)).bind fun n13 =>
((cell q6.2.2 d7.block (((((d7.off + 1) + 1) + 1) + 1) + 1)).bind getStr).bind fun s14 =>
some ((.tuple #[(.agg #[(.int .i64 n9), (.int .i64 n10), (.int .i64 n11), (.int .i64 n12), (.int .i64 n13), (.string s14)]), (.bool b8)]), q6.2.2)
else
(if q6.1 = 2 then
((sget q6.2.1 0).bind getA).bind fun d15 =>
(wr base q6.2.2 d15.block d15.off [(.int .i64 (0 : Int)), (.int .i64 (0 : Int)), (.int .i64 (0 : Int)), (.int .i64 (0 : Int)), (.int .i64 (0 : Int)), (.string (⟨#[]⟩ : ByteArray))]).bind fun h16 =>
((cell h16 d15.block d15.off).bind (getI .i64)).bind fun n17 =>
((cell h16 d15.block (d15.off + 1)).bind (getI .i64)).bind fun n18 =>
((cell h16 d15.block ((d15.off + 1) + 1)).bind (getI .i64)).bind fun n19 =>
((cell h16 d15.block (((d15.off + 1) + 1) + 1)).bind (getI .i64)).bind fun n20 =>
((cell h16 d15.block ((((d15.off + 1) + 1) + 1) + 1)).bind (getI .i64)).bind fun n21 =>
((cell h16 d15.block (((((d15.off + 1) + 1) + 1) + 1) + 1)).bind getStr).bind fun s22 =>
some ((.tuple #[(.agg #[(.int .i64 n17), (.int .i64 n18), (.int .i64 n19), (.int .i64 n20), (.int .i64 n21), (.string s22)]), (.bool false)]), h16)
else
none)) : Option (Value × AH)) := by kernel_rfl
theorem r149 {base : Nat} {v0 : ByteArray} {h : AH} {r : Value × AH} (hx :
((some (h ++ [some ⟨[(.int .i64 0), (.int .i64 0), (.int .i64 0), (.int .i64 0), (.int .i64 0), (.string ⟨#[]⟩)], 116⟩])).bind fun h1 =>
(run (Et base) 148 [(.string v0), (.int .u8 (32 : Int))] h1).bind fun r2 =>
((some r2.1).bind getS).bind fun l3 =>
(run (Et base) 163 [] r2.2).bind fun r4 =>
((some r4.1).bind getS).bind fun l5 =>
(loopL (B149_0 base) [some (.pointer (some ⟨(List.length h), 0, none⟩)), some (.slice l3.1 l3.2 l3.2), some (.slice l5.1 l5.2 l5.2), some (.int .i64 (0 : Int))] r4.2).bind fun q6 =>
(if q6.1 = 1 then
((sget q6.2.1 0).bind getA).bind fun d7 =>
((sget (q6.2.1.tail) 0).bind getB).bind fun b8 =>
((cell q6.2.2 d7.block d7.off).bind (getI .i64)).bind fun n9 =>
((cell q6.2.2 d7.block (d7.off + 1)).bind (getI .i64)).bind fun n10 =>
((cell q6.2.2 d7.block ((d7.off + 1) + 1)).bind (getI .i64)).bind fun n11 =>
((cell q6.2.2 d7.block (((d7.off + 1) + 1) + 1)).bind (getI .i64)).bind fun n12 =>
((cell q6.2.2 d7.block ((((d7.off + 1) + 1) + 1) + 1)).bind (getI .i64)).bind fun n13 =>
((cell q6.2.2 d7.block (((((d7.off + 1) + 1) + 1) + 1) + 1)).bind getStr).bind fun s14 =>
some ((.tuple #[(.agg #[(.int .i64 n9), (.int .i64 n10), (.int .i64 n11), (.int .i64 n12), (.int .i64 n13), (.string s14)]), (.bool b8)]), q6.2.2)
else
(if q6.1 = 2 then
((sget q6.2.1 0).bind getA).bind fun d15 =>
(wr base q6.2.2 d15.block d15.off [(.int .i64 (0 : Int)), (.int .i64 (0 : Int)), (.int .i64 (0 : Int)), (.int .i64 (0 : Int)), (.int .i64 (0 : Int)), (.string (⟨#[]⟩ : ByteArray))]).bind fun h16 =>
((cell h16 d15.block d15.off).bind (getI .i64)).bind fun n17 =>
((cell h16 d15.block (d15.off + 1)).bind (getI .i64)).bind fun n18 =>
((cell h16 d15.block ((d15.off + 1) + 1)).bind (getI .i64)).bind fun n19 =>
((cell h16 d15.block (((d15.off + 1) + 1) + 1)).bind (getI .i64)).bind fun n20 =>
((cell h16 d15.block ((((d15.off + 1) + 1) + 1) + 1)).bind (getI .i64)).bind fun n21 =>
((cell h16 d15.block (((((d15.off + 1) + 1) + 1) + 1) + 1)).bind getStr).bind fun s22 =>
some ((.tuple #[(.agg #[(.int .i64 n17), (.int .i64 n18), (.int .i64 n19), (.int .i64 n20), (.int .i64 n21), (.string s22)]), (.bool false)]), h16)
else
none))) = some r) : run (Et base) 149 [(.string v0)] h = some r := run_i Try.func149 (by kernel_rfl) ((f149_eq base v0 h).trans hx)
/-! spec.l1Byte (gates 0) -/
theorem f150_eq (base : Nat) (v0 : Option Addr) (h : AH) : exFun (Et base) (run (Et base)) loopL a150 Try.f150 [(.pointer v0)] h =
((v0).bind fun a1 =>
((cell h a1.block (a1.off + 2)).bind (getI .i64)).bind fun n2 =>
(v0).bind fun a3 =>
(wr base h a3.block (a3.off + 2) [(.int .i64 (IntKind.wrap .i64 ((IntKind.wrap .i64 (n2 * (6364136223846793005 : Int))) + (1442695040888963407 : Int))))]).bind fun h4 =>
(v0).bind fun a5 =>
((cell h4 a5.block (a5.off + 2)).bind (getI .i64)).bind fun n6 =>
(v0).bind fun a7 =>
((cell h4 a7.block (a7.off + 2)).bind (getI .i64)).bind fun n8 =>
((v0).bind fun a10 =>
((cell h4 a10.block (a10.off + 1)).bind (getI .i64)).bind fun n11 =>
(v0).bind fun a12 =>
((cell h4 a12.block (a12.off + 0)).bind getS).bind fun l13 =>
(if (decide (n11 < ((l13.2 : Nat) : Int))) = true then
(v0).bind fun a14 =>
((cell h4 a14.block (a14.off + 0)).bind getS).bind fun l15 =>
(v0).bind fun a16 =>
((cell h4 a16.block (a16.off + 1)).bind (getI .i64)).bind fun n17 =>
(if 0 ≤ n17 ∧ n17 < ((l15.2 : Nat) : Int) then
((l15.1 : Option Addr)).bind fun a18 =>
((cell h4 a18.block (a18.off + Int.toNat n17 * 1)).bind (getI .u8)).bind fun n19 =>
(v0).bind fun a20 =>
((cell h4 a20.block (a20.off + 1)).bind (getI .i64)).bind fun n21 =>
(v0).bind fun a22 =>
(wr base h4 a22.block (a22.off + 1) [(.int .i64 (IntKind.wrap .i64 (n21 + (1 : Int))))]).bind fun h23 =>
some (.inl ([some (.int .i64 (Go.bits .and .i64 (IntKind.wrap .i64 ((Go.bits .and .i64 (Go.bits .xor .i64 (Int.fdiv n6 (2 ^ min ((33 : Int)).toNat 64)) (Int.fdiv n8 (2 ^ min ((47 : Int)).toNat 64))) (255 : Int)) + (IntKind.wrap .i64 n19))) (255 : Int)))], h23))
else none)
else
some (.inl ([some (.int .i64 (Go.bits .and .i64 (Go.bits .xor .i64 (Int.fdiv n6 (2 ^ min ((33 : Int)).toNat 64)) (Int.fdiv n8 (2 ^ min ((47 : Int)).toNat 64))) (255 : Int)))], h4)))).bind fun j9 => joinK j9 fun j9 =>
((sget j9.1 0).bind (getI .i64)).bind fun n24 =>
some ((.int .i64 n24), j9.2) : Option (Value × AH)) := by kernel_rfl
theorem r150 {base : Nat} {v0 : Option Addr} {h : AH} {r : Value × AH} (hx :
((v0).bind fun a1 =>
((cell h a1.block (a1.off + 2)).bind (getI .i64)).bind fun n2 =>
(v0).bind fun a3 =>
(wr base h a3.block (a3.off + 2) [(.int .i64 (IntKind.wrap .i64 ((IntKind.wrap .i64 (n2 * (6364136223846793005 : Int))) + (1442695040888963407 : Int))))]).bind fun h4 =>
(v0).bind fun a5 =>
((cell h4 a5.block (a5.off + 2)).bind (getI .i64)).bind fun n6 =>
(v0).bind fun a7 =>
((cell h4 a7.block (a7.off + 2)).bind (getI .i64)).bind fun n8 =>
((v0).bind fun a10 =>
((cell h4 a10.block (a10.off + 1)).bind (getI .i64)).bind fun n11 =>
(v0).bind fun a12 =>
((cell h4 a12.block (a12.off + 0)).bind getS).bind fun l13 =>
(if (decide (n11 < ((l13.2 : Nat) : Int))) = true then
(v0).bind fun a14 =>
((cell h4 a14.block (a14.off + 0)).bind getS).bind fun l15 =>
(v0).bind fun a16 =>
((cell h4 a16.block (a16.off + 1)).bind (getI .i64)).bind fun n17 =>
(if 0 ≤ n17 ∧ n17 < ((l15.2 : Nat) : Int) then
((l15.1 : Option Addr)).bind fun a18 =>
((cell h4 a18.block (a18.off + Int.toNat n17 * 1)).bind (getI .u8)).bind fun n19 =>
(v0).bind fun a20 =>
((cell h4 a20.block (a20.off + 1)).bind (getI .i64)).bind fun n21 =>
(v0).bind fun a22 =>
(wr base h4 a22.block (a22.off + 1) [(.int .i64 (IntKind.wrap .i64 (n21 + (1 : Int))))]).bind fun h23 =>
some (.inl ([some (.int .i64 (Go.bits .and .i64 (IntKind.wrap .i64 ((Go.bits .and .i64 (Go.bits .xor .i64 (Int.fdiv n6 (2 ^ min ((33 : Int)).toNat 64)) (Int.fdiv n8 (2 ^ min ((47 : Int)).toNat 64))) (255 : Int)) + (IntKind.wrap .i64 n19))) (255 : Int)))], h23))
else none)
else
some (.inl ([some (.int .i64 (Go.bits .and .i64 (Go.bits .xor .i64 (Int.fdiv n6 (2 ^ min ((33 : Int)).toNat 64)) (Int.fdiv n8 (2 ^ min ((47 : Int)).toNat 64))) (255 : Int)))], h4)))).bind fun j9 => joinK j9 fun j9 =>
((sget j9.1 0).bind (getI .i64)).bind fun n24 =>
some ((.int .i64 n24), j9.2)) = some r) : run (Et base) 150 [(.pointer v0)] h = some r := run_i Try.func150 (by kernel_rfl) ((f150_eq base v0 h).trans hx)
/-! spec.l8Letter (gates 0) -/
noncomputable def B151_0 (base : Nat) : Body := fun l h => lay s151_0 l fun s => exCode (Et base) (run (Et base)) loopL a151_0 (subC [1, 0, 1, 0, 0] (bodyC Try.f151)) s h (keepK s151_0 e151_0)
theorem B151_0_eq (base : Nat) (v0 : ByteArray) (v1 : Int) (v5 : Int) (h : AH) : B151_0 base [some (.string v0), some (.int .u8 v1), some (.int .i64 v5)] h =
((if (decide (v5 < (v0.size : Int))) = true then
(if 0 ≤ v5 ∧ v5 < (v0.size : Int) then
(if (((v0.data.toList.getD (Int.toNat v5) 0).toNat : Int) == v1) = true then
some (1, [some (.bool true)], h)
else
some (0, [some (.string v0), some (.int .u8 v1), some (.int .i64 (IntKind.wrap .i64 (v5 + (1 : Int))))], h))
else none)
else
some (2, [], h)) : Option (Nat × Slots × AH)) := by kernel_rfl
theorem f151_eq (base : Nat) (v0 : ByteArray) (v1 : Int) (h : AH) : exFun (Et base) (run (Et base)) loopL a151 Try.f151 [(.string v0), (.int .u8 v1)] h =
((loopL (B151_0 base) [some (.string v0), some (.int .u8 v1), some (.int .i64 (0 : Int))] h).bind fun q1 =>
(if q1.1 = 1 then
((sget q1.2.1 0).bind getB).bind fun b2 =>
some ((.bool b2), q1.2.2)
else
(if q1.1 = 2 then
some ((.bool false), q1.2.2)
else
none)) : Option (Value × AH)) := by kernel_rfl
theorem r151 {base : Nat} {v0 : ByteArray} {v1 : Int} {h : AH} {r : Value × AH} (hx :
((loopL (B151_0 base) [some (.string v0), some (.int .u8 v1), some (.int .i64 (0 : Int))] h).bind fun q1 =>
(if q1.1 = 1 then
((sget q1.2.1 0).bind getB).bind fun b2 =>
some ((.bool b2), q1.2.2)
else
(if q1.1 = 2 then
some ((.bool false), q1.2.2)
else
none))) = some r) : run (Et base) 151 [(.string v0), (.int .u8 v1)] h = some r := run_i Try.func151 (by kernel_rfl) ((f151_eq base v0 v1 h).trans hx)
/-! spec.l1Str (gates 0) -/
theorem f152_eq (base : Nat) (v0 : Option Addr) (v1 : Option Addr) (v1n : Nat) (h : AH) : exFun (Et base) (run (Et base)) loopL a152 Try.f152 [(.pointer v0), (.slice v1 v1n v1n)] h =
((run (Et base) 126 [(.pointer v0), (.int .i64 ((v1n : Nat) : Int))] h).bind fun r1 =>
((some r1.1).bind (getI .i64)).bind fun n2 =>
(if 0 ≤ n2 ∧ n2 < ((v1n : Nat) : Int) then
((v1 : Option Addr)).bind fun a3 =>
((cell r1.2 a3.block (a3.off + Int.toNat n2 * 1)).bind getStr).bind fun s4 =>
some ((.string s4), r1.2)
else none) : Option (Value × AH)) := by kernel_rfl
theorem r152 {base : Nat} {v0 : Option Addr} {v1 : Option Addr} {v1n : Nat} {h : AH} {r : Value × AH} (hx :
((run (Et base) 126 [(.pointer v0), (.int .i64 ((v1n : Nat) : Int))] h).bind fun r1 =>
((some r1.1).bind (getI .i64)).bind fun n2 =>
(if 0 ≤ n2 ∧ n2 < ((v1n : Nat) : Int) then
((v1 : Option Addr)).bind fun a3 =>
((cell r1.2 a3.block (a3.off + Int.toNat n2 * 1)).bind getStr).bind fun s4 =>
some ((.string s4), r1.2)
else none)) = some r) : run (Et base) 152 [(.pointer v0), (.slice v1 v1n v1n)] h = some r := run_i Try.func152 (by kernel_rfl) ((f152_eq base v0 v1 v1n h).trans hx)
/-! impl.shapeOf (gates 0) -/
theorem f158_eq (base : Nat) (v0 : Int) (h : AH) : exFun (Et base) (run (Et base)) loopL a158 Try.f158 [(.int .i64 v0)] h =
((if (v0 == (1 : Int)) = true then
some ((.string (⟨#[65, 78]⟩ : ByteArray)), h)
else
(if (v0 == (2 : Int)) = true then
some ((.string (⟨#[65, 83]⟩ : ByteArray)), h)
else
((if (v0 == (3 : Int)) = true then
some (.inl ([some (.int .i64 v0), some (.bool (v0 == (3 : Int)))], h))
else
(if (v0 == (7 : Int)) = true then
some (.inl ([some (.int .i64 v0), some (.bool (v0 == (7 : Int)))], h))
else
(if (v0 == (8 : Int)) = true then
some (.inl ([some (.int .i64 v0), some (.bool (v0 == (8 : Int)))], h))
else
some (.inl ([some (.int .i64 v0), some (.bool (v0 == (13 : Int)))], h)))))).bind fun j1 => joinK j1 fun j1 =>
((sget j1.1 0).bind (getI .i64)).bind fun n2 =>
((sget (j1.1.tail) 0).bind getB).bind fun b3 =>
(if b3 = true then
some ((.string (⟨#[65, 66]⟩ : ByteArray)), j1.2)
else
((if (n2 == (4 : Int)) = true then
some (.inl ([some (.int .i64 n2), some (.bool (n2 == (4 : Int)))], j1.2))
else
(if (n2 == (6 : Int)) = true then
some (.inl ([some (.int .i64 n2), some (.bool (n2 == (6 : Int)))], j1.2))
else
(if (n2 == (10 : Int)) = true then
some (.inl ([some (.int .i64 n2), some (.bool (n2 == (10 : Int)))], j1.2))
else
(if (n2 == (11 : Int)) = true then
some (.inl ([some (.int .i64 n2), some (.bool (n2 == (11 : Int)))], j1.2))
else
some (.inl ([some (.int .i64 n2), some (.bool (n2 == (16 : Int)))], j1.2))))))).bind fun j4 => joinK j4 fun j4 =>
((sget j4.1 0).bind (getI .i64)).bind fun n5 =>
((sget (j4.1.tail) 0).bind getB).bind fun b6 =>
(if b6 = true then
some ((.string (⟨#[65, 66, 78]⟩ : ByteArray)), j4.2)
else
((if (n5 == (5 : Int)) = true then
some (.inl ([some (.int .i64 n5), some (.bool (n5 == (5 : Int)))], j4.2))
else
some (.inl ([some (.int .i64 n5), some (.bool (n5 == (9 : Int)))], j4.2)))).bind fun j7 => joinK j7 fun j7 =>
((sget j7.1 0).bind (getI .i64)).bind fun n8 =>
((sget (j7.1.tail) 0).bind getB).bind fun b9 =>
(if b9 = true then
some ((.string (⟨#[65, 66, 67]⟩ : ByteArray)), j7.2)
else
(if (n8 == (12 : Int)) = true then
some ((.string (⟨#[78]⟩ : ByteArray)), j7.2)
else
((if (n8 == (14 : Int)) = true then
some (.inl ([some (.bool (n8 == (14 : Int)))], j7.2))
else
(if (n8 == (15 : Int)) = true then
some (.inl ([some (.bool (n8 == (15 : Int)))], j7.2))
else
(if (n8 == (17 : Int)) = true then
some (.inl ([some (.bool (n8 == (17 : Int)))], j7.2))
else
(if (n8 == (18 : Int)) = true then
some (.inl ([some (.bool (n8 == (18 : Int)))], j7.2))
else
(if (n8 == (19 : Int)) = true then
some (.inl ([some (.bool (n8 == (19 : Int)))], j7.2))
else
some (.inl ([some (.bool (n8 == (20 : Int)))], j7.2)))))))).bind fun j10 => joinK j10 fun j10 =>
((sget j10.1 0).bind getB).bind fun b11 =>
(if b11 = true then
some ((.string (⟨#[65]⟩ : ByteArray)), j10.2)
else
some ((.string (⟨#[]⟩ : ByteArray)), j10.2)))))))) : Option (Value × AH)) := by kernel_rfl
theorem r158 {base : Nat} {v0 : Int} {h : AH} {r : Value × AH} (hx :
((if (v0 == (1 : Int)) = true then
some ((.string (⟨#[65, 78]⟩ : ByteArray)), h)
else
(if (v0 == (2 : Int)) = true then
some ((.string (⟨#[65, 83]⟩ : ByteArray)), h)
else
((if (v0 == (3 : Int)) = true then
some (.inl ([some (.int .i64 v0), some (.bool (v0 == (3 : Int)))], h))
else
(if (v0 == (7 : Int)) = true then
some (.inl ([some (.int .i64 v0), some (.bool (v0 == (7 : Int)))], h))
else
(if (v0 == (8 : Int)) = true then
some (.inl ([some (.int .i64 v0), some (.bool (v0 == (8 : Int)))], h))
else
some (.inl ([some (.int .i64 v0), some (.bool (v0 == (13 : Int)))], h)))))).bind fun j1 => joinK j1 fun j1 =>
((sget j1.1 0).bind (getI .i64)).bind fun n2 =>
((sget (j1.1.tail) 0).bind getB).bind fun b3 =>
(if b3 = true then
some ((.string (⟨#[65, 66]⟩ : ByteArray)), j1.2)
else
((if (n2 == (4 : Int)) = true then
some (.inl ([some (.int .i64 n2), some (.bool (n2 == (4 : Int)))], j1.2))
else
(if (n2 == (6 : Int)) = true then
some (.inl ([some (.int .i64 n2), some (.bool (n2 == (6 : Int)))], j1.2))
else
(if (n2 == (10 : Int)) = true then
some (.inl ([some (.int .i64 n2), some (.bool (n2 == (10 : Int)))], j1.2))
else
(if (n2 == (11 : Int)) = true then
some (.inl ([some (.int .i64 n2), some (.bool (n2 == (11 : Int)))], j1.2))
else
some (.inl ([some (.int .i64 n2), some (.bool (n2 == (16 : Int)))], j1.2))))))).bind fun j4 => joinK j4 fun j4 =>
((sget j4.1 0).bind (getI .i64)).bind fun n5 =>
((sget (j4.1.tail) 0).bind getB).bind fun b6 =>
(if b6 = true then
some ((.string (⟨#[65, 66, 78]⟩ : ByteArray)), j4.2)
else
((if (n5 == (5 : Int)) = true then
some (.inl ([some (.int .i64 n5), some (.bool (n5 == (5 : Int)))], j4.2))
else
some (.inl ([some (.int .i64 n5), some (.bool (n5 == (9 : Int)))], j4.2)))).bind fun j7 => joinK j7 fun j7 =>
((sget j7.1 0).bind (getI .i64)).bind fun n8 =>
((sget (j7.1.tail) 0).bind getB).bind fun b9 =>
(if b9 = true then
some ((.string (⟨#[65, 66, 67]⟩ : ByteArray)), j7.2)
else
(if (n8 == (12 : Int)) = true then
some ((.string (⟨#[78]⟩ : ByteArray)), j7.2)
else
((if (n8 == (14 : Int)) = true then
some (.inl ([some (.bool (n8 == (14 : Int)))], j7.2))
else
(if (n8 == (15 : Int)) = true then
some (.inl ([some (.bool (n8 == (15 : Int)))], j7.2))
else
(if (n8 == (17 : Int)) = true then
some (.inl ([some (.bool (n8 == (17 : Int)))], j7.2))
else
(if (n8 == (18 : Int)) = true then
some (.inl ([some (.bool (n8 == (18 : Int)))], j7.2))
else
(if (n8 == (19 : Int)) = true then
some (.inl ([some (.bool (n8 == (19 : Int)))], j7.2))
else
some (.inl ([some (.bool (n8 == (20 : Int)))], j7.2)))))))).bind fun j10 => joinK j10 fun j10 =>
((sget j10.1 0).bind getB).bind fun b11 =>
(if b11 = true then
some ((.string (⟨#[65]⟩ : ByteArray)), j10.2)
else
some ((.string (⟨#[]⟩ : ByteArray)), j10.2))))))))) = some r) : run (Et base) 158 [(.int .i64 v0)] h = some r := run_i Try.func158 (by kernel_rfl) ((f158_eq base v0 h).trans hx)
/-! impl.onlyNamed$1 (gates 0) -/
theorem f159_eq (base : Nat) (v0 : Int) (w0 : Addr) (h : AH) : exFun (Et base) (run (Et base)) loopL a159 Try.f159 [(.int .u8 v0), (.pointer (some w0))] h =
(((cell h w0.block w0.off).bind getStr).bind fun s1 =>
(run (Et base) 160 [(.string s1), (.int .u8 v0)] h).bind fun r2 =>
((some r2.1).bind (getI .i64)).bind fun n3 =>
some ((.bool (decide (n3 ≥ (0 : Int)))), r2.2) : Option (Value × AH)) := by kernel_rfl
theorem r159 {base : Nat} {v0 : Int} {w0 : Addr} {h : AH} {r : Value × AH} (hx :
(((cell h w0.block w0.off).bind getStr).bind fun s1 =>
(run (Et base) 160 [(.string s1), (.int .u8 v0)] h).bind fun r2 =>
((some r2.1).bind (getI .i64)).bind fun n3 =>
some ((.bool (decide (n3 ≥ (0 : Int)))), r2.2)) = some r) : run (Et base) 159 [(.int .u8 v0), (.pointer (some w0))] h = some r := run_i Try.func159 (by kernel_rfl) ((f159_eq base v0 w0 h).trans hx)
end Go.Proofs.Ytnmjhhipbfngkaa.Am
