/- What each of these functions comes to on the abstract machine, one equation a function and one a loop.
Conditions: none. -/
import Derived.Test.YtkdenmdijdmnjaaTb
set_option linter.unusedVariables false
set_option maxRecDepth 100000
namespace Go.Proofs.Ytkdenmdijdmnjaa.Am
open Go Go.RowKit
theorem r125 {base : Nat} {v0_0 : Int} {v0_1 : Int} {v0_2 : ByteArray} {v0_3 : Option Addr} {v0_3n : Nat} {h : AH} {r : Value × AH} (hx : ((some (h++[some ⟨[(.int .i64 v0_0),(.int .i64 v0_1),(.string v0_2),(.slice v0_3 v0_3n v0_3n)],42⟩])).bind fun h1=>
(some (h1++[some ⟨[(.int .i64 0),(.int .i64 0),(.string ⟨#[]⟩),(.slice none 0 0)],42⟩])).bind fun h2=>
((cell h2 (List.length h) 3).bind getS).bind fun l3=>
(run (Et base) 165 [(.slice l3.1 l3.2 l3.2)] h2).bind fun r4=>
((some r4.1).bind getS).bind fun l5=>
(wr base r4.2 (List.length h) 3 [(.slice l5.1 l5.2 l5.2)]).bind fun h6=>
((cell h6 (List.length h) 0).bind (getI .i64)).bind fun n7=>
((cell h6 (List.length h) 1).bind (getI .i64)).bind fun n8=>
((cell h6 (List.length h) 2).bind getStr).bind fun s9=>
((cell h6 (List.length h) 3).bind getS).bind fun l10=>
(wr base h6 (List.length h1) 0 [(.int .i64 n7),(.int .i64 n8),(.string s9),(.slice l10.1 l10.2 l10.2)]).bind fun h11=>
((cell h11 (List.length h1) 0).bind (getI .i64)).bind fun n12=>
((cell h11 (List.length h1) 1).bind (getI .i64)).bind fun n13=>
((cell h11 (List.length h1) 2).bind getStr).bind fun s14=>
((cell h11 (List.length h1) 3).bind getS).bind fun l15=>
some ((.agg #[(.int .i64 n12),(.int .i64 n13),(.string s14),(.slice l15.1 l15.2 l15.2)]),h11)) = some r) : run (Et base) 125 [(.agg #[(vI v0_0),(vI v0_1),(vT v0_2),(vL v0_3 v0_3n)])] h = some r:=run_i (an:=a125) Try.func125 (by kernel_rfl) (.trans (by kernel_rfl) hx)
theorem r126 {base : Nat} {v0_0 : Int} {v0_1 : Int} {v0_2 : Int} {v0_3 : Int} {v0_4 : Int} {v0_5 : ByteArray} {v1_0 : Int} {v1_1 : Int} {v1_2 : Int} {v1_3 : Int} {v1_4 : Int} {v1_5 : ByteArray} {h : AH} {r : Value × AH} (hx : ((some (h++[some ⟨[(.int .i64 v0_0),(.int .i64 v0_1),(.int .i64 v0_2),(.int .i64 v0_3),(.int .i64 v0_4),(.string v0_5)],143⟩])).bind fun h1=>
(some (h1++[some ⟨[(.int .i64 v1_0),(.int .i64 v1_1),(.int .i64 v1_2),(.int .i64 v1_3),(.int .i64 v1_4),(.string v1_5)],143⟩])).bind fun h2=>
((cell h2 (List.length h) 0).bind (getI .i64)).bind fun n3=>
((cell h2 (List.length h1) 0).bind (getI .i64)).bind fun n4=>
(if (n3 != n4) = true then
some ((.bool false),h2)
else
((cell h2 (List.length h) 1).bind (getI .i64)).bind fun n5=>
((cell h2 (List.length h1) 1).bind (getI .i64)).bind fun n6=>
(if (n5 != n6) = true then
some ((.bool false),h2)
else
((cell h2 (List.length h) 2).bind (getI .i64)).bind fun n7=>
((cell h2 (List.length h1) 2).bind (getI .i64)).bind fun n8=>
(if (n7 != n8) = true then
some ((.bool false),h2)
else
((cell h2 (List.length h) 3).bind (getI .i64)).bind fun n9=>
((cell h2 (List.length h1) 3).bind (getI .i64)).bind fun n10=>
(if (n9 != n10) = true then
some ((.bool false),h2)
else
((cell h2 (List.length h) 4).bind (getI .i64)).bind fun n11=>
((cell h2 (List.length h1) 4).bind (getI .i64)).bind fun n12=>
(if (n11 != n12) = true then
some ((.bool false),h2)
else
((cell h2 (List.length h) 5).bind getStr).bind fun s13=>
((cell h2 (List.length h1) 5).bind getStr).bind fun s14=>
(if (!(s13.toList == s14.toList)) = true then
some ((.bool false),h2)
else
some ((.bool true),h2)))))))) = some r) : run (Et base) 126 [(.agg #[(vI v0_0),(vI v0_1),(vI v0_2),(vI v0_3),(vI v0_4),(vT v0_5)]),(.agg #[(vI v1_0),(vI v1_1),(vI v1_2),(vI v1_3),(vI v1_4),(vT v1_5)])] h = some r:=run_i (an:=a126) Try.func126 (by kernel_rfl) (.trans (by kernel_rfl) hx)
theorem r127 {base : Nat} {v0_0 : Int} {v0_1 : Int} {v0_2 : Option Addr} {v0_2n : Nat} {v0_3 : Option Addr} {v0_3n : Nat} {v0_4 : Option Addr} {v0_4n : Nat} {v1_0 : Int} {v1_1 : Int} {v1_2 : Option Addr} {v1_2n : Nat} {v1_3 : Option Addr} {v1_3n : Nat} {v1_4 : Option Addr} {v1_4n : Nat} {h : AH} {r : Value × AH} (hx : (nw1 h 54 [(vI v0_0),(vI v0_1),(vL v0_2 v0_2n),(vL v0_3 v0_3n),(vL v0_4 v0_4n)] fun h1=>
nw1 h1 54 [(vI v1_0),(vI v1_1),(vL v1_2 v1_2n),(vL v1_3 v1_3n),(vL v1_4 v1_4n)] fun h2=>
((cell h2 (List.length h) 0).bind (getI .i64)).bind fun n3=>
((cell h2 (List.length h1) 0).bind (getI .i64)).bind fun n4=>
(if (n3 != n4) = true then
some ((.bool false),h2)
else
((cell h2 (List.length h) 1).bind (getI .i64)).bind fun n5=>
((cell h2 (List.length h1) 1).bind (getI .i64)).bind fun n6=>
(if (n5 != n6) = true then
some ((.bool false),h2)
else
((cell h2 (List.length h) 2).bind getS).bind fun l7=>
((cell h2 (List.length h1) 2).bind getS).bind fun l8=>
(run (Et base) 70 [(vL l7.1 l7.2),(vL l8.1 l8.2)] h2).bind fun r9=>
((some r9.1).bind getB).bind fun b10=>
(if (!b10) = true then
some ((.bool false),r9.2)
else
((cell r9.2 (List.length h) 3).bind getS).bind fun l11=>
((cell r9.2 (List.length h1) 3).bind getS).bind fun l12=>
(run (Et base) 70 [(vL l11.1 l11.2),(vL l12.1 l12.2)] r9.2).bind fun r13=>
((some r13.1).bind getB).bind fun b14=>
(if (!b14) = true then
some ((.bool false),r13.2)
else
((cell r13.2 (List.length h) 4).bind getS).bind fun l15=>
((cell r13.2 (List.length h1) 4).bind getS).bind fun l16=>
(run (Et base) 37 [(vL l15.1 l15.2),(vL l16.1 l16.2)] r13.2).bind fun r17=>
((some r17.1).bind getB).bind fun b18=>
(if (!b18) = true then
some ((.bool false),r17.2)
else
some ((.bool true),r17.2))))))) = some r) : run (Et base) 127 [(.agg #[(vI v0_0),(vI v0_1),(vL v0_2 v0_2n),(vL v0_3 v0_3n),(vL v0_4 v0_4n)]),(.agg #[(vI v1_0),(vI v1_1),(vL v1_2 v1_2n),(vL v1_3 v1_3n),(vL v1_4 v1_4n)])] h = some r:=run_i (an:=a127) Try.func127 (by kernel_rfl) (.trans (by kernel_rfl) hx)
theorem r128 {base : Nat} {v0_0 : Int} {v0_1 : Int} {v0_2 : Int} {v0_3 : Int} {v0_4 : ByteArray} {v0_5 : Option Addr} {v0_5n : Nat} {v1_0 : Int} {v1_1 : Int} {v1_2 : Int} {v1_3 : Int} {v1_4 : ByteArray} {v1_5 : Option Addr} {v1_5n : Nat} {h : AH} {r : Value × AH} (hx : (nw1 h 140 [(vI v0_0),(vI v0_1),(vI v0_2),(vI v0_3),(vT v0_4),(vL v0_5 v0_5n)] fun h1=>
nw1 h1 140 [(vI v1_0),(vI v1_1),(vI v1_2),(vI v1_3),(vT v1_4),(vL v1_5 v1_5n)] fun h2=>
((cell h2 (List.length h) 0).bind (getI .i64)).bind fun n3=>
((cell h2 (List.length h1) 0).bind (getI .i64)).bind fun n4=>
(if (n3 != n4) = true then
some ((.bool false),h2)
else
((cell h2 (List.length h) 1).bind (getI .i64)).bind fun n5=>
((cell h2 (List.length h1) 1).bind (getI .i64)).bind fun n6=>
(if (n5 != n6) = true then
some ((.bool false),h2)
else
c_IITL h2 (List.length h) 2 fun n7 n8 s9 l10=>
c_IITL h2 (List.length h1) 2 fun n11 n12 s13 l14=>
(run (Et base) 18 [(.agg #[(vI n7),(vI n8),(vT s9),(vL l10.1 l10.2)]),(.agg #[(vI n11),(vI n12),(vT s13),(vL l14.1 l14.2)])] h2).bind fun r15=>
((some r15.1).bind getB).bind fun b16=>
(if (!b16) = true then
some ((.bool false),r15.2)
else
some ((.bool true),r15.2))))) = some r) : run (Et base) 128 [(.agg #[(vI v0_0),(vI v0_1),(vI v0_2),(vI v0_3),(vT v0_4),(vL v0_5 v0_5n)]),(.agg #[(vI v1_0),(vI v1_1),(vI v1_2),(vI v1_3),(vT v1_4),(vL v1_5 v1_5n)])] h = some r:=run_i (an:=a128) Try.func128 (by kernel_rfl) (.trans (by kernel_rfl) hx)
noncomputable def B129_0 (base : Nat) : Body:=fun l h=>lay s129_0 l fun s=>exCode (Et base) (run (Et base)) loopL a129_0 (subC [1,0,1,0,0] (bodyC Try.f129)) s h (keepK s129_0 e129_0)
theorem B129_0_eq (base : Nat) (v0 : Option Addr) (v0n : Nat) (v1 : Int) (v5 : Int) (h : AH) : B129_0 base [some (vL v0 v0n),some (vI v1),some (vI v5)] h =
((if (decide (v5 < ((v0n : Nat) : Int))) = true then
(if 0≤v5∧v5 < ((v0n : Nat) : Int) then
((v0 : Option Addr)).bind fun a1=>
((cell h a1.block ((a1.off + Int.toNat v5 * 4) + 0)).bind (getI .i64)).bind fun n2=>
(if (n2 != v1) = true then
some (1,[some (vI (-1 : Int))],h)
else
(if 0≤v5∧v5 < ((v0n : Nat) : Int) then
((v0 : Option Addr)).bind fun a3=>
((cell h a3.block ((a3.off + Int.toNat v5 * 4) + 1)).bind (getI .i64)).bind fun n4=>
(if (n4 != (IntKind.wrap .i64 (v1 + (1 : Int)))) = true then
some (1,[some (vI (-1 : Int))],h)
else
(if 0≤v5∧v5 < ((v0n : Nat) : Int) then
((v0 : Option Addr)).bind fun a5=>
((cell h a5.block ((a5.off + Int.toNat v5 * 4) + 2)).bind getStr).bind fun s6=>
(run (Et base) 100 [(vI (IntKind.wrap .i64 ((IntKind.wrap .i64 (v1 + (1 : Int))) + (1 : Int))))] h).bind fun r7=>
((some r7.1).bind getStr).bind fun s8=>
(gate (sameA h r7.2 (some ⟨a5.block,((a5.off + Int.toNat v5 * 4) + 2),none⟩) 1)
((if (!(s6.toList == s8.toList)) = true then
some (1,[some (vI (-1 : Int))],r7.2)
else
(if 0≤v5∧v5 < ((v0n : Nat) : Int) then
((v0 : Option Addr)).bind fun a9=>
((cell r7.2 a9.block ((a9.off + Int.toNat v5 * 4) + 3)).bind getS).bind fun l10=>
(run (Et base) 129 [(vL l10.1 l10.2),(vI (IntKind.wrap .i64 ((IntKind.wrap .i64 ((IntKind.wrap .i64 (v1 + (1 : Int))) + (1 : Int))) + (1 : Int))))] r7.2).bind fun r11=>
((some r11.1).bind (getI .i64)).bind fun n12=>
(if (decide (n12 < (0 : Int))) = true then
some (1,[some (vI (-1 : Int))],r11.2)
else
some (0,[some (vL v0 v0n),some (vI n12),some (vI (IntKind.wrap .i64 (v5 + (1 : Int))))],r11.2))
else none))))
else none))
else none))
else none)
else
some (2,[some (vI v1)],h)) : Option (Nat × Slots × AH)):=by kernel_rfl
theorem r129 {base : Nat} {v0 : Option Addr} {v0n : Nat} {v1 : Int} {h : AH} {r : Value × AH} (hx : ((loopL (B129_0 base) [some (.slice v0 v0n v0n),some (.int .i64 v1),some (.int .i64 (0 : Int))] h).bind fun q1=>
(if q1.1 = 1 then
((sget q1.2.1 0).bind (getI .i64)).bind fun n2=>
some ((.int .i64 n2),q1.2.2)
else
(if q1.1 = 2 then
((sget q1.2.1 0).bind (getI .i64)).bind fun n3=>
some ((.int .i64 n3),q1.2.2)
else
none))) = some r) : run (Et base) 129 [(vL v0 v0n),(vI v1)] h = some r:=run_i (an:=a129) Try.func129 (by kernel_rfl) (.trans (by kernel_rfl) hx)
noncomputable abbrev qf139 (base : Nat) (v0_0 : Int) (v0_1 : Int) (v0_2 : Int) (v0_3 : Int) (v0_4 : Int) (v0_5 : ByteArray) (v1 : Int) (h : AH) : Option (Value × AH):=
nw1 h 143 [(vI v0_0),(vI v0_1),(vI v0_2),(vI v0_3),(vI v0_4),(vT v0_5)] fun h1=>
((run (Et base) 83 [(vI v1),(vI (1 : Int)),(vI (200 : Int))] h1).bind fun r3=>
((some r3.1).bind getB).bind fun b4=>
(if (!b4) = true then
some (.inl ([some (vI v1),some (vP (List.length h)),some (.bool true)],r3.2))
else
c_IIIIIT r3.2 (List.length h) 0 fun n5 n6 n7 n8 n9 s10=>
(run (Et base) 179 [(.agg #[(vI n5),(vI n6),(vI n7),(vI n8),(vI n9),(vT s10)])] r3.2).bind fun r11=>
((some r11.1).bind getB).bind fun b12=>
(if (!b12) = true then
some (.inl ([some (vI v1),some (vP (List.length h)),some (.bool true)],r11.2))
else
((cell r11.2 (List.length h) 1).bind (getI .i64)).bind fun n13=>
(run (Et base) 180 [(vI n13)] r11.2).bind fun r14=>
((some r14.1).bind getB).bind fun b15=>
(if (!b15) = true then
some (.inl ([some (vI v1),some (vP (List.length h)),some (.bool true)],r14.2))
else
((cell r14.2 (List.length h) 2).bind (getI .i64)).bind fun n16=>
(run (Et base) 180 [(vI n16)] r14.2).bind fun r17=>
((some r17.1).bind getB).bind fun b18=>
(if (!b18) = true then
some (.inl ([some (vI v1),some (vP (List.length h)),some (.bool true)],r17.2))
else
((cell r17.2 (List.length h) 3).bind (getI .i64)).bind fun n19=>
(run (Et base) 180 [(vI n19)] r17.2).bind fun r20=>
((some r20.1).bind getB).bind fun b21=>
some (.inl ([some (vI v1),some (vP (List.length h)),some (.bool (!b21))],r20.2))))))).bind fun j2=>joinK j2 fun j2=>
j_IAB j2.1 fun n22 d23 b24=>
(if b24 = true then
some ((.bool false),j2.2)
else
((cell j2.2 d23.block (d23.off + 0)).bind (getI .i64)).bind fun n25=>
(if (n25 == (1 : Int)) = true then
((cell j2.2 d23.block (d23.off + 4)).bind (getI .i64)).bind fun n26=>
(run (Et base) 83 [(vI n26),(vI (-1000000 : Int)),(vI (1000000 : Int))] j2.2).bind fun r27=>
((some r27.1).bind getB).bind fun b28=>
some ((.bool b28),r27.2)
else
(if (n25 == (2 : Int)) = true then
((cell j2.2 d23.block (d23.off + 5)).bind getStr).bind fun s29=>
(run (Et base) 158 [(vT s29)] j2.2).bind fun r30=>
((some r30.1).bind getB).bind fun b31=>
some ((.bool b31),r30.2)
else
(if (n25 == (4 : Int)) = true then
((cell j2.2 d23.block (d23.off + 4)).bind (getI .i64)).bind fun n32=>
(run (Et base) 83 [(vI n32),(vI (0 : Int)),(vI (8 : Int))] j2.2).bind fun r33=>
((some r33.1).bind getB).bind fun b34=>
(if b34 = true then
((cell r33.2 d23.block (d23.off + 2)).bind (getI .i64)).bind fun n35=>
((cell r33.2 d23.block (d23.off + 4)).bind (getI .i64)).bind fun n36=>
some ((.bool (decide ((IntKind.wrap .i64 (n35 + n36))≤(8 : Int)))),r33.2)
else
some ((.bool false),r33.2))
else
(if (n25 == (6 : Int)) = true then
((cell j2.2 d23.block (d23.off + 4)).bind (getI .i64)).bind fun n37=>
(run (Et base) 83 [(vI n37),(vI (0 : Int)),(vI (7 : Int))] j2.2).bind fun r38=>
((some r38.1).bind getB).bind fun b39=>
some ((.bool b39),r38.2)
else
(if (n25 == (11 : Int)) = true then
((cell j2.2 d23.block (d23.off + 2)).bind (getI .i64)).bind fun n40=>
(run (Et base) 83 [(vI n40),(vI (1 : Int)),(vI (6 : Int))] j2.2).bind fun r41=>
((some r41.1).bind getB).bind fun b42=>
(if b42 = true then
((cell r41.2 d23.block (d23.off + 4)).bind (getI .i64)).bind fun n43=>
(run (Et base) 83 [(vI n43),(vI (0 : Int)),(vI (IntKind.wrap .i64 (n22 - (1 : Int))))] r41.2).bind fun r44=>
((some r44.1).bind getB).bind fun b45=>
some ((.bool b45),r44.2)
else
some ((.bool false),r41.2))
else
((if (n25 == (10 : Int)) = true then
some (.inl ([some (vI n22),some (vA d23),some (.bool (n25 == (10 : Int)))],j2.2))
else
(if (n25 == (12 : Int)) = true then
some (.inl ([some (vI n22),some (vA d23),some (.bool (n25 == (12 : Int)))],j2.2))
else
some (.inl ([some (vI n22),some (vA d23),some (.bool (n25 == (16 : Int)))],j2.2))))).bind fun j46=>joinK j46 fun j46=>
j_IAB j46.1 fun n47 d48 b49=>
(if b49 = true then
((cell j46.2 d48.block (d48.off + 4)).bind (getI .i64)).bind fun n50=>
(run (Et base) 83 [(vI n50),(vI (0 : Int)),(vI (IntKind.wrap .i64 (n47 - (1 : Int))))] j46.2).bind fun r51=>
((some r51.1).bind getB).bind fun b52=>
some ((.bool b52),r51.2)
else
some ((.bool true),j46.2))))))))
theorem r139 {base : Nat} {v0_0 : Int} {v0_1 : Int} {v0_2 : Int} {v0_3 : Int} {v0_4 : Int} {v0_5 : ByteArray} {v1 : Int} {h : AH} {r : Value × AH} (hx : qf139 base v0_0 v0_1 v0_2 v0_3 v0_4 v0_5 v1 h = some r) : run (Et base) 139 [(.agg #[(vI v0_0),(vI v0_1),(vI v0_2),(vI v0_3),(vI v0_4),(vT v0_5)]),(vI v1)] h = some r:=run_i (an:=a139) Try.func139 (by kernel_rfl) (.trans (by kernel_rfl) hx)
noncomputable abbrev qf140 (base : Nat) (v0_0 : Int) (v0_1 : Int) (v0_2 : Int) (v0_3 : Int) (v0_4 : Int) (v0_5 : ByteArray) (v1 : Int) (h : AH) : Option (Value × AH):=
nw1 h 143 [(vI v0_0),(vI v0_1),(vI v0_2),(vI v0_3),(vI v0_4),(vT v0_5)] fun h1=>
((run (Et base) 90 [(vI v1),(vI (1 : Int)),(vI (200 : Int))] h1).bind fun r3=>
((some r3.1).bind getB).bind fun b4=>
(if (!b4) = true then
some (.inl ([some (vI v1),some (vP (List.length h)),some (.bool true)],r3.2))
else
((cell r3.2 (List.length h) 0).bind (getI .i64)).bind fun n5=>
(run (Et base) 90 [(vI n5),(vI (1 : Int)),(vI (20 : Int))] r3.2).bind fun r6=>
((some r6.1).bind getB).bind fun b7=>
some (.inl ([some (vI v1),some (vP (List.length h)),some (.bool (!b7))],r6.2)))).bind fun j2=>joinK j2 fun j2=>
j_IAB j2.1 fun n8 d9 b10=>
(if b10 = true then
some ((.bool false),j2.2)
else
(run (Et base) 181 [] j2.2).bind fun r11=>
((some r11.1).bind getS).bind fun l12=>
(gate (sameA j2.2 r11.2 (some ⟨d9.block,(d9.off + 0),none⟩) 1)
(((cell r11.2 d9.block (d9.off + 0)).bind (getI .i64)).bind fun n13=>
(if 0≤(IntKind.wrap .i64 (n13 - (1 : Int)))∧(IntKind.wrap .i64 (n13 - (1 : Int))) < ((l12.2 : Nat) : Int) then
((l12.1 : Option Addr)).bind fun a14=>
((cell r11.2 a14.block (a14.off + Int.toNat (IntKind.wrap .i64 (n13 - (1 : Int))) * 1)).bind getStr).bind fun s15=>
(((cell r11.2 d9.block (d9.off + 1)).bind (getI .i64)).bind fun n17=>
(run (Et base) 182 [(vT s15),(.int .u8 (65 : Int)),(vI n17)] r11.2).bind fun r18=>
((some r18.1).bind getB).bind fun b19=>
(if (!b19) = true then
some (.inl ([some (vI n8),some (vA d9),some (.bool true)],r18.2))
else
((cell r18.2 d9.block (d9.off + 3)).bind (getI .i64)).bind fun n20=>
(run (Et base) 182 [(vT s15),(.int .u8 (67 : Int)),(vI n20)] r18.2).bind fun r21=>
((some r21.1).bind getB).bind fun b22=>
(if (!b22) = true then
some (.inl ([some (vI n8),some (vA d9),some (.bool true)],r21.2))
else
((cell r21.2 d9.block (d9.off + 0)).bind (getI .i64)).bind fun n23=>
(if (n23 != (11 : Int)) = true then
((cell r21.2 d9.block (d9.off + 2)).bind (getI .i64)).bind fun n24=>
(run (Et base) 182 [(vT s15),(.int .u8 (66 : Int)),(vI n24)] r21.2).bind fun r25=>
((some r25.1).bind getB).bind fun b26=>
(if (!b26) = true then
some (.inl ([some (vI n8),some (vA d9),some (.bool true)],r25.2))
else
((cell r25.2 d9.block (d9.off + 0)).bind (getI .i64)).bind fun n27=>
(if (n27 == (11 : Int)) = true then
((cell r25.2 d9.block (d9.off + 2)).bind (getI .i64)).bind fun n28=>
(run (Et base) 90 [(vI n28),(vI (1 : Int)),(vI (6 : Int))] r25.2).bind fun r29=>
((some r29.1).bind getB).bind fun b30=>
some (.inl ([some (vI n8),some (vA d9),some (.bool (!b30))],r29.2))
else
some (.inl ([some (vI n8),some (vA d9),some (.bool false)],r25.2))))
else
((cell r21.2 d9.block (d9.off + 0)).bind (getI .i64)).bind fun n31=>
(if (n31 == (11 : Int)) = true then
((cell r21.2 d9.block (d9.off + 2)).bind (getI .i64)).bind fun n32=>
(run (Et base) 90 [(vI n32),(vI (1 : Int)),(vI (6 : Int))] r21.2).bind fun r33=>
((some r33.1).bind getB).bind fun b34=>
some (.inl ([some (vI n8),some (vA d9),some (.bool (!b34))],r33.2))
else
some (.inl ([some (vI n8),some (vA d9),some (.bool false)],r21.2))))))).bind fun j16=>joinK j16 fun j16=>
j_IAB j16.1 fun n35 d36 b37=>
(if b37 = true then
some ((.bool false),j16.2)
else
(((cell j16.2 d36.block (d36.off + 0)).bind (getI .i64)).bind fun n39=>
(if (n39 == (2 : Int)) = true then
((cell j16.2 d36.block (d36.off + 5)).bind getStr).bind fun s40=>
(run (Et base) 183 [(vT s40)] j16.2).bind fun r41=>
((some r41.1).bind getB).bind fun b42=>
(if (!b42) = true then
some (.inl ([some (vI n35),some (vA d36),some (.bool true)],r41.2))
else
((cell r41.2 d36.block (d36.off + 0)).bind (getI .i64)).bind fun n43=>
(if (n43 != (2 : Int)) = true then
((cell r41.2 d36.block (d36.off + 5)).bind getStr).bind fun s44=>
some (.inl ([some (vI n35),some (vA d36),some (.bool (!(s44.toList == (⟨#[]⟩ : ByteArray).toList)))],r41.2))
else
some (.inl ([some (vI n35),some (vA d36),some (.bool false)],r41.2))))
else
((cell j16.2 d36.block (d36.off + 0)).bind (getI .i64)).bind fun n45=>
(if (n45 != (2 : Int)) = true then
((cell j16.2 d36.block (d36.off + 5)).bind getStr).bind fun s46=>
some (.inl ([some (vI n35),some (vA d36),some (.bool (!(s46.toList == (⟨#[]⟩ : ByteArray).toList)))],j16.2))
else
some (.inl ([some (vI n35),some (vA d36),some (.bool false)],j16.2))))).bind fun j38=>joinK j38 fun j38=>
j_IAB j38.1 fun n47 d48 b49=>
(if b49 = true then
some ((.bool false),j38.2)
else
c_IIIIIT j38.2 d48.block d48.off fun n50 n51 n52 n53 n54 s55=>
(run (Et base) 184 [(.agg #[(vI n50),(vI n51),(vI n52),(vI n53),(vI n54),(vT s55)]),(vI n47)] j38.2).bind fun r56=>
((some r56.1).bind getB).bind fun b57=>
some ((.bool b57),r56.2)))
else none))))
theorem r140 {base : Nat} {v0_0 : Int} {v0_1 : Int} {v0_2 : Int} {v0_3 : Int} {v0_4 : Int} {v0_5 : ByteArray} {v1 : Int} {h : AH} {r : Value × AH} (hx : qf140 base v0_0 v0_1 v0_2 v0_3 v0_4 v0_5 v1 h = some r) : run (Et base) 140 [(.agg #[(vI v0_0),(vI v0_1),(vI v0_2),(vI v0_3),(vI v0_4),(vT v0_5)]),(vI v1)] h = some r:=run_i (an:=a140) Try.func140 (by kernel_rfl) (.trans (by kernel_rfl) hx)
noncomputable def B141_0 (base : Nat) : Body:=fun l h=>lay s141_0 l fun s=>exCode (Et base) (run (Et base)) loopL a141_0 (subC [1,0,1,0,0] (bodyC Try.f141)) s h (keepK s141_0 e141_0)
theorem B141_0_eq (base : Nat) (v0 : Option Addr) (v0n : Nat) (v3 : Int) (h : AH) : B141_0 base [some (vL v0 v0n),some (vI v3)] h =
((if (decide (v3 < ((v0n : Nat) : Int))) = true then
(if 0≤v3∧v3 < ((v0n : Nat) : Int) then
((v0 : Option Addr)).bind fun a1=>
((cell h a1.block (a1.off + Int.toNat v3 * 4)).bind (getI .i64)).bind fun n2=>
((cell h a1.block ((a1.off + Int.toNat v3 * 4) + 1)).bind (getI .i64)).bind fun n3=>
((cell h a1.block (((a1.off + Int.toNat v3 * 4) + 1) + 1)).bind getStr).bind fun s4=>
((cell h a1.block ((((a1.off + Int.toNat v3 * 4) + 1) + 1) + 1)).bind getS).bind fun l5=>
(run (Et base) 58 [(.agg #[(.int .i64 n2),(.int .i64 n3),(.string s4),(.slice l5.1 l5.2 l5.2)])] h).bind fun r6=>
((some r6.1).bind getB).bind fun b7=>
(if (!b7) = true then
some (1,[some (.bool false)],r6.2)
else
some (0,[some (.slice v0 v0n v0n),some (.int .i64 (IntKind.wrap .i64 (v3 + (1 : Int))))],r6.2))
else none)
else
some (2,[],h)) : Option (Nat × Slots × AH)):=by kernel_rfl
theorem r141 {base : Nat} {v0 : Option Addr} {v0n : Nat} {h : AH} {r : Value × AH} (hx : ((loopL (B141_0 base) [some (.slice v0 v0n v0n),some (.int .i64 (0 : Int))] h).bind fun q1=>
(if q1.1 = 1 then
((sget q1.2.1 0).bind getB).bind fun b2=>
some ((.bool b2),q1.2.2)
else
(if q1.1 = 2 then
some ((.bool true),q1.2.2)
else
none))) = some r) : run (Et base) 141 [(vL v0 v0n)] h = some r:=run_i (an:=a141) Try.func141 (by kernel_rfl) (.trans (by kernel_rfl) hx)
noncomputable def B142_0 (base : Nat) : Body:=fun l h=>lay s142_0 l fun s=>exCode (Et base) (run (Et base)) loopL a142_0 (subC [1,0,1,0,0] (bodyC Try.f142)) s h (keepK s142_0 e142_0)
theorem B142_0_eq (base : Nat) (v0 : Option Addr) (v0n : Nat) (v1 : Int) (v5 : Int) (h : AH) : B142_0 base [some (vL v0 v0n),some (vI v1),some (vI v5)] h =
((if (decide (v5 < ((v0n : Nat) : Int))) = true then
((if 0≤v5∧v5 < ((v0n : Nat) : Int) then
((v0 : Option Addr)).bind fun a2=>
((cell h a2.block (a2.off + Int.toNat v5 * 1)).bind (getI .i64)).bind fun n3=>
(run (Et base) 90 [(vI n3),(vI (1 : Int)),(vI (99999 : Int))] h).bind fun r4=>
((some r4.1).bind getB).bind fun b5=>
(if (!b5) = true then
some (.inl ([some (vL v0 v0n),some (vI v1),some (vI v5),some (.bool true)],r4.2))
else
(if 0≤v5∧v5 < ((v0n : Nat) : Int) then
((v0 : Option Addr)).bind fun a6=>
((cell r4.2 a6.block (a6.off + Int.toNat v5 * 1)).bind (getI .i64)).bind fun n7=>
(if (n7 == v1) = true then
some (.inl ([some (vL v0 v0n),some (vI v1),some (vI v5),some (.bool true)],r4.2))
else
(if (decide (v5 > (0 : Int))) = true then
(if 0≤(IntKind.wrap .i64 (v5 - (1 : Int)))∧(IntKind.wrap .i64 (v5 - (1 : Int))) < ((v0n : Nat) : Int) then
((v0 : Option Addr)).bind fun a8=>
((cell r4.2 a8.block (a8.off + Int.toNat (IntKind.wrap .i64 (v5 - (1 : Int))) * 1)).bind (getI .i64)).bind fun n9=>
(if 0≤v5∧v5 < ((v0n : Nat) : Int) then
((v0 : Option Addr)).bind fun a10=>
((cell r4.2 a10.block (a10.off + Int.toNat v5 * 1)).bind (getI .i64)).bind fun n11=>
some (.inl ([some (vL v0 v0n),some (vI v1),some (vI v5),some (.bool (decide (n9 ≥ n11)))],r4.2))
else none)
else none)
else
some (.inl ([some (vL v0 v0n),some (vI v1),some (vI v5),some (.bool false)],r4.2))))
else none))
else none)).bind fun j1=>joinK j1 fun j1=>
j_LIIB j1.1 fun l12 n13 n14 b15=>
(if b15 = true then
some (1,[some (.bool false)],j1.2)
else
some (0,[some (vL l12.1 l12.2),some (vI n13),some (vI (IntKind.wrap .i64 (n14 + (1 : Int))))],j1.2))
else
some (2,[some (vL v0 v0n)],h)) : Option (Nat × Slots × AH)):=by kernel_rfl
theorem r142 {base : Nat} {v0 : Option Addr} {v0n : Nat} {v1 : Int} {h : AH} {r : Value × AH} (hx : ((loopL (B142_0 base) [some (.slice v0 v0n v0n),some (.int .i64 v1),some (.int .i64 (0 : Int))] h).bind fun q1=>
(if q1.1 = 1 then
((sget q1.2.1 0).bind getB).bind fun b2=>
some ((.bool b2),q1.2.2)
else
(if q1.1 = 2 then
((sget q1.2.1 0).bind getS).bind fun l3=>
some ((.bool (decide (((l3.2 : Nat) : Int)≤(50 : Int)))),q1.2.2)
else
none))) = some r) : run (Et base) 142 [(vL v0 v0n),(vI v1)] h = some r:=run_i (an:=a142) Try.func142 (by kernel_rfl) (.trans (by kernel_rfl) hx)
noncomputable def B143_0 (base : Nat) : Body:=fun l h=>lay s143_0 l fun s=>exCode (Et base) (run (Et base)) loopL a143_0 (subC [1,0,1,0,0] (bodyC Try.f143)) s h (keepK s143_0 e143_0)
theorem B143_0_eq (base : Nat) (v0 : Option Addr) (v0n : Nat) (v1 : Int) (v5 : Int) (h : AH) : B143_0 base [some (vL v0 v0n),some (vI v1),some (vI v5)] h =
((if (decide (v5 < ((v0n : Nat) : Int))) = true then
(if 0≤v5∧v5 < ((v0n : Nat) : Int) then
((v0 : Option Addr)).bind fun a1=>
((cell h a1.block (a1.off + Int.toNat v5 * 1)).bind (getI .i64)).bind fun n2=>
(if (n2 == v1) = true then
some (1,[some (.bool true)],h)
else
some (0,[some (.slice v0 v0n v0n),some (.int .i64 v1),some (.int .i64 (IntKind.wrap .i64 (v5 + (1 : Int))))],h))
else none)
else
some (2,[],h)) : Option (Nat × Slots × AH)):=by kernel_rfl
theorem r143 {base : Nat} {v0 : Option Addr} {v0n : Nat} {v1 : Int} {h : AH} {r : Value × AH} (hx : ((loopL (B143_0 base) [some (.slice v0 v0n v0n),some (.int .i64 v1),some (.int .i64 (0 : Int))] h).bind fun q1=>
(if q1.1 = 1 then
((sget q1.2.1 0).bind getB).bind fun b2=>
some ((.bool b2),q1.2.2)
else
(if q1.1 = 2 then
some ((.bool false),q1.2.2)
else
none))) = some r) : run (Et base) 143 [(vL v0 v0n),(vI v1)] h = some r:=run_i (an:=a143) Try.func143 (by kernel_rfl) (.trans (by kernel_rfl) hx)
noncomputable def B158_0 (base : Nat) : Body:=fun l h=>lay s158_0 l fun s=>exCode (Et base) (run (Et base)) loopL a158_0 (subC [1,0,1,0,0] (bodyC Try.f158)) s h (keepK s158_0 e158_0)
theorem B158_0_eq (base : Nat) (v0 : ByteArray) (v3 : Int) (h : AH) : B158_0 base [some (vT v0),some (vI v3)] h =
((if (decide (v3 < (v0.size : Int))) = true then
((if 0≤v3∧v3 < (v0.size : Int) then
(run (Et base) 194 [(.int .u8 ((v0.data.toList.getD (Int.toNat v3) 0).toNat : Int))] h).bind fun r2=>
((some r2.1).bind getB).bind fun b3=>
(if (!b3) = true then
(if (v3 == (0 : Int)) = true then
some (.inl ([some (.string v0),some (.int .i64 v3),some (.bool true)],r2.2))
else
(if 0≤v3∧v3 < (v0.size : Int) then
(run (Et base) 195 [(.int .u8 ((v0.data.toList.getD (Int.toNat v3) 0).toNat : Int))] r2.2).bind fun r4=>
((some r4.1).bind getB).bind fun b5=>
some (.inl ([some (.string v0),some (.int .i64 v3),some (.bool (!b5))],r4.2))
else none))
else
some (.inl ([some (.string v0),some (.int .i64 v3),some (.bool false)],r2.2)))
else none)).bind fun j1=>joinK j1 fun j1=>
((sget j1.1 0).bind getStr).bind fun s6=>
((sget (j1.1.tail) 0).bind (getI .i64)).bind fun n7=>
((sget (j1.1.tail.tail) 0).bind getB).bind fun b8=>
(if b8 = true then
some (1,[some (.bool false)],j1.2)
else
some (0,[some (.string s6),some (.int .i64 (IntKind.wrap .i64 (n7 + (1 : Int))))],j1.2))
else
some (2,[some (.string v0)],h)) : Option (Nat × Slots × AH)):=by kernel_rfl
theorem r158 {base : Nat} {v0 : ByteArray} {h : AH} {r : Value × AH} (hx : ((loopL (B158_0 base) [some (.string v0),some (.int .i64 (0 : Int))] h).bind fun q1=>
(if q1.1 = 1 then
((sget q1.2.1 0).bind getB).bind fun b2=>
some ((.bool b2),q1.2.2)
else
(if q1.1 = 2 then
((sget q1.2.1 0).bind getStr).bind fun s3=>
(run (Et base) 83 [(.int .i64 (s3.size : Int)),(.int .i64 (1 : Int)),(.int .i64 (12 : Int))] q1.2.2).bind fun r4=>
((some r4.1).bind getB).bind fun b5=>
some ((.bool b5),r4.2)
else
none))) = some r) : run (Et base) 158 [(vT v0)] h = some r:=run_i (an:=a158) Try.func158 (by kernel_rfl) (.trans (by kernel_rfl) hx)
noncomputable def B163_0 (base : Nat) : Body:=fun l h=>lay s163_0 l fun s=>exCode (Et base) (run (Et base)) loopL a163_0 (subC [1,1,0,1,0,0] (bodyC Try.f163)) s h (keepK s163_0 e163_0)
theorem B163_0_eq (base : Nat) (v0 : Option Addr) (v0n : Nat) (v3 : Option Addr) (v3n : Nat) (v4 : Int) (h : AH) : B163_0 base [some (vL v0 v0n),some (vL v3 v3n),some (vI v4)] h =
((if (decide (v4 < ((v0n : Nat) : Int))) = true then
(if 0≤v4∧v4 < ((v0n : Nat) : Int) then
((v0 : Option Addr)).bind fun a1=>
((cell h a1.block (a1.off + Int.toNat v4 * 4)).bind (getI .i64)).bind fun n2=>
((cell h a1.block ((a1.off + Int.toNat v4 * 4) + 1)).bind (getI .i64)).bind fun n3=>
((cell h a1.block (((a1.off + Int.toNat v4 * 4) + 1) + 1)).bind getStr).bind fun s4=>
((cell h a1.block ((((a1.off + Int.toNat v4 * 4) + 1) + 1) + 1)).bind getS).bind fun l5=>
(run (Et base) 116 [(.agg #[(.int .i64 n2),(.int .i64 n3),(.string s4),(.slice l5.1 l5.2 l5.2)])] h).bind fun r6=>
((some r6.1).bind (getAgg 4)).bind fun l7=>
((l7[0]?).bind (getI .i64)).bind fun n8=>
((l7[1]?).bind (getI .i64)).bind fun n9=>
((l7[2]?).bind getStr).bind fun s10=>
((l7[3]?).bind getS).bind fun l11=>
(some (r6.2++[some ⟨[(.int .i64 n8),(.int .i64 n9),(.string s10),(.slice l11.1 l11.2 l11.2)],42⟩])).bind fun h12=>
(app base h12 42 4 56 v3 v3n (rawAt h12 (some ⟨(List.length r6.2),0,none⟩) (1 * 4)) 1).bind fun p13=>
((some p13.1).bind getS).bind fun l14=>
some (0,[some (.slice v0 v0n v0n),some (.slice l14.1 l14.2 l14.2),some (.int .i64 (IntKind.wrap .i64 (v4 + (1 : Int))))],p13.2)
else none)
else
some (2,[some (.slice v3 v3n v3n)],h)) : Option (Nat × Slots × AH)):=by kernel_rfl
theorem r163 {base : Nat} {v0 : Option Addr} {v0n : Nat} {h : AH} {r : Value × AH} (hx : ((some (h++[some ⟨[],42⟩])).bind fun h1=>
(loopL (B163_0 base) [some (.slice v0 v0n v0n),some (.slice (some ⟨(List.length h),0,none⟩) 0 0),some (.int .i64 (0 : Int))] h1).bind fun q2=>
(if q2.1 = 2 then
((sget q2.2.1 0).bind getS).bind fun l3=>
some ((.slice l3.1 l3.2 l3.2),q2.2.2)
else
none)) = some r) : run (Et base) 163 [(vL v0 v0n)] h = some r:=run_i (an:=a163) Try.func163 (by kernel_rfl) (.trans (by kernel_rfl) hx)
noncomputable abbrev qf164 (base : Nat) (v0_0 : Int) (v0_1 : Int) (v0_2 : ByteArray) (v0_3 : Option Addr) (v0_3n : Nat) (h : AH) : Option (Value × AH):=
nw1 h 42 [(vI v0_0),(vI v0_1),(vT v0_2),(vL v0_3 v0_3n)] fun h1=>
((cell h1 (List.length h) 3).bind getS).bind fun l2=>
((cell h1 (List.length h) 0).bind (getI .i64)).bind fun n3=>
(if (n3 == (1 : Int)) = true then
((cell h1 (List.length h) 1).bind (getI .i64)).bind fun n4=>
(run (Et base) 90 [(vI n4),(vI (-1000000 : Int)),(vI (1000000 : Int))] h1).bind fun r5=>
((some r5.1).bind getB).bind fun b6=>
(if b6 = true then
((cell r5.2 (List.length h) 2).bind getStr).bind fun s7=>
(if (s7.toList == (⟨#[]⟩ : ByteArray).toList) = true then
some ((.bool (((l2.2 : Nat) : Int) == (0 : Int))),r5.2)
else
some ((.bool false),r5.2))
else
some ((.bool false),r5.2))
else
(if (n3 == (2 : Int)) = true then
((cell h1 (List.length h) 2).bind getStr).bind fun s8=>
(run (Et base) 183 [(vT s8)] h1).bind fun r9=>
((some r9.1).bind getB).bind fun b10=>
(if b10 = true then
((cell r9.2 (List.length h) 1).bind (getI .i64)).bind fun n11=>
(if (n11 == (0 : Int)) = true then
some ((.bool (((l2.2 : Nat) : Int) == (0 : Int))),r9.2)
else
some ((.bool false),r9.2))
else
some ((.bool false),r9.2))
else
(if (n3 == (3 : Int)) = true then
((cell h1 (List.length h) 1).bind (getI .i64)).bind fun n12=>
(run (Et base) 90 [(vI n12),(vI (0 : Int)),(vI (99999 : Int))] h1).bind fun r13=>
((some r13.1).bind getB).bind fun b14=>
(if b14 = true then
((cell r13.2 (List.length h) 2).bind getStr).bind fun s15=>
(if (s15.toList == (⟨#[]⟩ : ByteArray).toList) = true then
some ((.bool (((l2.2 : Nat) : Int) == (0 : Int))),r13.2)
else
some ((.bool false),r13.2))
else
some ((.bool false),r13.2))
else
(if (n3 == (4 : Int)) = true then
((cell h1 (List.length h) 1).bind (getI .i64)).bind fun n16=>
(if (n16 == (0 : Int)) = true then
((cell h1 (List.length h) 2).bind getStr).bind fun s17=>
(if (s17.toList == (⟨#[]⟩ : ByteArray).toList) = true then
some ((.bool (decide (((l2.2 : Nat) : Int)≤(8 : Int)))),h1)
else
some ((.bool false),h1))
else
some ((.bool false),h1))
else
(if (n3 == (5 : Int)) = true then
((cell h1 (List.length h) 1).bind (getI .i64)).bind fun n18=>
(if (n18 == (0 : Int)) = true then
((cell h1 (List.length h) 2).bind getStr).bind fun s19=>
(if (s19.toList == (⟨#[]⟩ : ByteArray).toList) = true then
some ((.bool (decide (((l2.2 : Nat) : Int)≤(20 : Int)))),h1)
else
some ((.bool false),h1))
else
some ((.bool false),h1))
else
(if (n3 == (6 : Int)) = true then
((cell h1 (List.length h) 1).bind (getI .i64)).bind fun n20=>
(if (n20 == (0 : Int)) = true then
((cell h1 (List.length h) 2).bind getStr).bind fun s21=>
(if (decide ((s21.size : Int)≤(40 : Int))) = true then
some ((.bool (((l2.2 : Nat) : Int) == (0 : Int))),h1)
else
some ((.bool false),h1))
else
some ((.bool false),h1))
else
some ((.bool false),h1)))))))
theorem r164 {base : Nat} {v0_0 : Int} {v0_1 : Int} {v0_2 : ByteArray} {v0_3 : Option Addr} {v0_3n : Nat} {h : AH} {r : Value × AH} (hx : qf164 base v0_0 v0_1 v0_2 v0_3 v0_3n h = some r) : run (Et base) 164 [(.agg #[(vI v0_0),(vI v0_1),(vT v0_2),(vL v0_3 v0_3n)])] h = some r:=run_i (an:=a164) Try.func164 (by kernel_rfl) (.trans (by kernel_rfl) hx)
noncomputable def B165_0 (base : Nat) : Body:=fun l h=>lay s165_0 l fun s=>exCode (Et base) (run (Et base)) loopL a165_0 (subC [1,1,0,1,0,0] (bodyC Try.f165)) s h (keepK s165_0 e165_0)
theorem B165_0_eq (base : Nat) (v3 : Option Addr) (v3n : Nat) (v6 : Option Addr) (v6n : Nat) (v7 : Int) (v8 : Int) (h : AH) : B165_0 base [some (vL v3 v3n),some (vL v6 v6n),some (vI v7),some (vI v8)] h =
((if (decide (v8 < v7)) = true then
(if 0≤v8∧v8 < ((v6n : Nat) : Int) then
((v6 : Option Addr)).bind fun a1=>
c_IITL h a1.block (a1.off + Int.toNat v8 * 4) fun n2 n3 s4 l5=>
nw1 h 42 [(vI 0),(vI 0),(vT ⟨#[]⟩),(vL none 0)] fun h6=>
(wr base h6 (List.length h) 0 [(vI n2),(vI n3),(vT s4),(vL l5.1 l5.2)]).bind fun h7=>
c_IITL h7 (List.length h) 0 fun n8 n9 s10 l11=>
(run (Et base) 125 [(.agg #[(vI n8),(vI n9),(vT s10),(vL l11.1 l11.2)])] h7).bind fun r12=>
gG (some r12.1) 4 fun l13=>
l_IITL l13 fun n14 n15 s16 l17=>
nw1 r12.2 42 [(vI n14),(vI n15),(vT s16),(vL l17.1 l17.2)] fun h18=>
(app base h18 42 4 56 v3 v3n (rawAt h18 (some ⟨(List.length r12.2),0,none⟩) (1 * 4)) 1).bind fun p19=>
((some p19.1).bind getS).bind fun l20=>
some (0,[some (vL l20.1 l20.2),some (vL v6 v6n),some (vI v7),some (vI (IntKind.wrap .i64 (v8 + (1 : Int))))],p19.2)
else none)
else
some (2,[some (vL v3 v3n)],h)) : Option (Nat × Slots × AH)):=by kernel_rfl
theorem r165 {base : Nat} {v0 : Option Addr} {v0n : Nat} {h : AH} {r : Value × AH} (hx : ((loopL (B165_0 base) [some (.slice none 0 0),some (.slice v0 v0n v0n),some (.int .i64 ((v0n : Nat) : Int)),some (.int .i64 (0 : Int))] h).bind fun q1=>
(if q1.1 = 2 then
((sget q1.2.1 0).bind getS).bind fun l2=>
some ((.slice l2.1 l2.2 l2.2),q1.2.2)
else
none)) = some r) : run (Et base) 165 [(vL v0 v0n)] h = some r:=run_i (an:=a165) Try.func165 (by kernel_rfl) (.trans (by kernel_rfl) hx)
noncomputable abbrev qf166 (base : Nat) (v0_0 : Int) (v0_1 : Int) (v0_2 : ByteArray) (v0_3 : Option Addr) (v0_3n : Nat) (h : AH) : Option (Value × AH):=
nw1 h 42 [(vI v0_0),(vI v0_1),(vT v0_2),(vL v0_3 v0_3n)] fun h1=>
((cell h1 (List.length h) 0).bind (getI .i64)).bind fun n2=>
(if (n2 == (1 : Int)) = true then
((cell h1 (List.length h) 1).bind (getI .i64)).bind fun n3=>
(run (Et base) 83 [(vI n3),(vI (-1000000 : Int)),(vI (1000000 : Int))] h1).bind fun r4=>
((some r4.1).bind getB).bind fun b5=>
(if b5 = true then
((cell r4.2 (List.length h) 2).bind getStr).bind fun s6=>
(if (s6.toList == (⟨#[]⟩ : ByteArray).toList) = true then
((cell r4.2 (List.length h) 3).bind getS).bind fun l7=>
some ((.bool (((l7.2 : Nat) : Int) == (0 : Int))),r4.2)
else
some ((.bool false),r4.2))
else
some ((.bool false),r4.2))
else
(if (n2 == (2 : Int)) = true then
((cell h1 (List.length h) 1).bind (getI .i64)).bind fun n8=>
(if (n8 == (0 : Int)) = true then
((cell h1 (List.length h) 2).bind getStr).bind fun s9=>
(run (Et base) 158 [(vT s9)] h1).bind fun r10=>
((some r10.1).bind getB).bind fun b11=>
(if b11 = true then
((cell r10.2 (List.length h) 3).bind getS).bind fun l12=>
some ((.bool (((l12.2 : Nat) : Int) == (0 : Int))),r10.2)
else
some ((.bool false),r10.2))
else
some ((.bool false),h1))
else
(if (n2 == (3 : Int)) = true then
((cell h1 (List.length h) 1).bind (getI .i64)).bind fun n13=>
(run (Et base) 83 [(vI n13),(vI (0 : Int)),(vI (99999 : Int))] h1).bind fun r14=>
((some r14.1).bind getB).bind fun b15=>
(if b15 = true then
((cell r14.2 (List.length h) 2).bind getStr).bind fun s16=>
(if (s16.toList == (⟨#[]⟩ : ByteArray).toList) = true then
((cell r14.2 (List.length h) 3).bind getS).bind fun l17=>
some ((.bool (((l17.2 : Nat) : Int) == (0 : Int))),r14.2)
else
some ((.bool false),r14.2))
else
some ((.bool false),r14.2))
else
(if (n2 == (4 : Int)) = true then
((cell h1 (List.length h) 1).bind (getI .i64)).bind fun n18=>
(if (n18 == (0 : Int)) = true then
((cell h1 (List.length h) 2).bind getStr).bind fun s19=>
(if (s19.toList == (⟨#[]⟩ : ByteArray).toList) = true then
((cell h1 (List.length h) 3).bind getS).bind fun l20=>
some ((.bool (decide (((l20.2 : Nat) : Int)≤(8 : Int)))),h1)
else
some ((.bool false),h1))
else
some ((.bool false),h1))
else
(if (n2 == (5 : Int)) = true then
((cell h1 (List.length h) 1).bind (getI .i64)).bind fun n21=>
(if (n21 == (0 : Int)) = true then
((cell h1 (List.length h) 2).bind getStr).bind fun s22=>
(if (s22.toList == (⟨#[]⟩ : ByteArray).toList) = true then
((cell h1 (List.length h) 3).bind getS).bind fun l23=>
some ((.bool (decide (((l23.2 : Nat) : Int)≤(20 : Int)))),h1)
else
some ((.bool false),h1))
else
some ((.bool false),h1))
else
(if (n2 == (6 : Int)) = true then
((cell h1 (List.length h) 1).bind (getI .i64)).bind fun n24=>
(if (n24 == (0 : Int)) = true then
((cell h1 (List.length h) 2).bind getStr).bind fun s25=>
(if (decide ((s25.size : Int)≤(40 : Int))) = true then
((cell h1 (List.length h) 3).bind getS).bind fun l26=>
some ((.bool (((l26.2 : Nat) : Int) == (0 : Int))),h1)
else
some ((.bool false),h1))
else
some ((.bool false),h1))
else
some ((.bool false),h1)))))))
theorem r166 {base : Nat} {v0_0 : Int} {v0_1 : Int} {v0_2 : ByteArray} {v0_3 : Option Addr} {v0_3n : Nat} {h : AH} {r : Value × AH} (hx : qf166 base v0_0 v0_1 v0_2 v0_3 v0_3n h = some r) : run (Et base) 166 [(.agg #[(vI v0_0),(vI v0_1),(vT v0_2),(vL v0_3 v0_3n)])] h = some r:=run_i (an:=a166) Try.func166 (by kernel_rfl) (.trans (by kernel_rfl) hx)
noncomputable abbrev qf179 (base : Nat) (v0_0 : Int) (v0_1 : Int) (v0_2 : Int) (v0_3 : Int) (v0_4 : Int) (v0_5 : ByteArray) (h : AH) : Option (Value × AH):=
nw1 h 143 [(vI v0_0),(vI v0_1),(vI v0_2),(vI v0_3),(vI v0_4),(vT v0_5)] fun h1=>
((cell h1 (List.length h) 0).bind (getI .i64)).bind fun n2=>
(run (Et base) 211 [(vI n2)] h1).bind fun r3=>
((some r3.1).bind getStr).bind fun s4=>
nw1 r3.2 9 [(vT ⟨#[]⟩)] fun h5=>
(wr base h5 (List.length r3.2) 0 [(vT s4)]).bind fun h6=>
((cell h6 (List.length r3.2) 0).bind getStr).bind fun s7=>
(if (!(s7.toList == (⟨#[]⟩ : ByteArray).toList)) = true then
((run (Et base) 212 [(.int .u8 (65 : Int)),(vP (List.length r3.2))] h6).bind fun r9=>
((some r9.1).bind getB).bind fun b10=>
some ((.bool b10),r9.2)).bind fun r8=>
((some r8.1).bind getB).bind fun b11=>
(if b11 = true then
((run (Et base) 212 [(.int .u8 (66 : Int)),(vP (List.length r3.2))] r8.2).bind fun r13=>
((some r13.1).bind getB).bind fun b14=>
some ((.bool b14),r13.2)).bind fun r12=>
((some r12.1).bind getB).bind fun b15=>
(if b15 = true then
((run (Et base) 212 [(.int .u8 (67 : Int)),(vP (List.length r3.2))] r12.2).bind fun r17=>
((some r17.1).bind getB).bind fun b18=>
some ((.bool b18),r17.2)).bind fun r16=>
((some r16.1).bind getB).bind fun b19=>
(if b19 = true then
((run (Et base) 212 [(.int .u8 (78 : Int)),(vP (List.length r3.2))] r16.2).bind fun r21=>
((some r21.1).bind getB).bind fun b22=>
some ((.bool b22),r21.2)).bind fun r20=>
((some r20.1).bind getB).bind fun b23=>
(if b23 = true then
((run (Et base) 212 [(.int .u8 (83 : Int)),(vP (List.length r3.2))] r20.2).bind fun r25=>
((some r25.1).bind getB).bind fun b26=>
some ((.bool b26),r25.2)).bind fun r24=>
((some r24.1).bind getB).bind fun b27=>
(if b27 = true then
some ((.bool true),r24.2)
else
((cell r24.2 (List.length h) 5).bind getStr).bind fun s28=>
some ((.bool (s28.toList == (⟨#[]⟩ : ByteArray).toList)),r24.2))
else
((cell r20.2 (List.length h) 4).bind (getI .i64)).bind fun n29=>
(if (n29 == (0 : Int)) = true then
((run (Et base) 212 [(.int .u8 (83 : Int)),(vP (List.length r3.2))] r20.2).bind fun r31=>
((some r31.1).bind getB).bind fun b32=>
some ((.bool b32),r31.2)).bind fun r30=>
((some r30.1).bind getB).bind fun b33=>
(if b33 = true then
some ((.bool true),r30.2)
else
((cell r30.2 (List.length h) 5).bind getStr).bind fun s34=>
some ((.bool (s34.toList == (⟨#[]⟩ : ByteArray).toList)),r30.2))
else
some ((.bool false),r20.2)))
else
((cell r16.2 (List.length h) 3).bind (getI .i64)).bind fun n35=>
(if (n35 == (0 : Int)) = true then
((run (Et base) 212 [(.int .u8 (78 : Int)),(vP (List.length r3.2))] r16.2).bind fun r37=>
((some r37.1).bind getB).bind fun b38=>
some ((.bool b38),r37.2)).bind fun r36=>
((some r36.1).bind getB).bind fun b39=>
(if b39 = true then
((run (Et base) 212 [(.int .u8 (83 : Int)),(vP (List.length r3.2))] r36.2).bind fun r41=>
((some r41.1).bind getB).bind fun b42=>
some ((.bool b42),r41.2)).bind fun r40=>
((some r40.1).bind getB).bind fun b43=>
(if b43 = true then
some ((.bool true),r40.2)
else
((cell r40.2 (List.length h) 5).bind getStr).bind fun s44=>
some ((.bool (s44.toList == (⟨#[]⟩ : ByteArray).toList)),r40.2))
else
((cell r36.2 (List.length h) 4).bind (getI .i64)).bind fun n45=>
(if (n45 == (0 : Int)) = true then
((run (Et base) 212 [(.int .u8 (83 : Int)),(vP (List.length r3.2))] r36.2).bind fun r47=>
((some r47.1).bind getB).bind fun b48=>
some ((.bool b48),r47.2)).bind fun r46=>
((some r46.1).bind getB).bind fun b49=>
(if b49 = true then
some ((.bool true),r46.2)
else
((cell r46.2 (List.length h) 5).bind getStr).bind fun s50=>
some ((.bool (s50.toList == (⟨#[]⟩ : ByteArray).toList)),r46.2))
else
some ((.bool false),r36.2)))
else
some ((.bool false),r16.2)))
else
((cell r12.2 (List.length h) 2).bind (getI .i64)).bind fun n51=>
(if (n51 == (0 : Int)) = true then
((run (Et base) 212 [(.int .u8 (67 : Int)),(vP (List.length r3.2))] r12.2).bind fun r53=>
((some r53.1).bind getB).bind fun b54=>
some ((.bool b54),r53.2)).bind fun r52=>
((some r52.1).bind getB).bind fun b55=>
(if b55 = true then
((run (Et base) 212 [(.int .u8 (78 : Int)),(vP (List.length r3.2))] r52.2).bind fun r57=>
((some r57.1).bind getB).bind fun b58=>
some ((.bool b58),r57.2)).bind fun r56=>
((some r56.1).bind getB).bind fun b59=>
(if b59 = true then
((run (Et base) 212 [(.int .u8 (83 : Int)),(vP (List.length r3.2))] r56.2).bind fun r61=>
((some r61.1).bind getB).bind fun b62=>
some ((.bool b62),r61.2)).bind fun r60=>
((some r60.1).bind getB).bind fun b63=>
(if b63 = true then
some ((.bool true),r60.2)
else
((cell r60.2 (List.length h) 5).bind getStr).bind fun s64=>
some ((.bool (s64.toList == (⟨#[]⟩ : ByteArray).toList)),r60.2))
else
((cell r56.2 (List.length h) 4).bind (getI .i64)).bind fun n65=>
(if (n65 == (0 : Int)) = true then
((run (Et base) 212 [(.int .u8 (83 : Int)),(vP (List.length r3.2))] r56.2).bind fun r67=>
((some r67.1).bind getB).bind fun b68=>
some ((.bool b68),r67.2)).bind fun r66=>
((some r66.1).bind getB).bind fun b69=>
(if b69 = true then
some ((.bool true),r66.2)
else
((cell r66.2 (List.length h) 5).bind getStr).bind fun s70=>
some ((.bool (s70.toList == (⟨#[]⟩ : ByteArray).toList)),r66.2))
else
some ((.bool false),r56.2)))
else
((cell r52.2 (List.length h) 3).bind (getI .i64)).bind fun n71=>
(if (n71 == (0 : Int)) = true then
((run (Et base) 212 [(.int .u8 (78 : Int)),(vP (List.length r3.2))] r52.2).bind fun r73=>
((some r73.1).bind getB).bind fun b74=>
some ((.bool b74),r73.2)).bind fun r72=>
((some r72.1).bind getB).bind fun b75=>
(if b75 = true then
((run (Et base) 212 [(.int .u8 (83 : Int)),(vP (List.length r3.2))] r72.2).bind fun r77=>
((some r77.1).bind getB).bind fun b78=>
some ((.bool b78),r77.2)).bind fun r76=>
((some r76.1).bind getB).bind fun b79=>
(if b79 = true then
some ((.bool true),r76.2)
else
((cell r76.2 (List.length h) 5).bind getStr).bind fun s80=>
some ((.bool (s80.toList == (⟨#[]⟩ : ByteArray).toList)),r76.2))
else
((cell r72.2 (List.length h) 4).bind (getI .i64)).bind fun n81=>
(if (n81 == (0 : Int)) = true then
((run (Et base) 212 [(.int .u8 (83 : Int)),(vP (List.length r3.2))] r72.2).bind fun r83=>
((some r83.1).bind getB).bind fun b84=>
some ((.bool b84),r83.2)).bind fun r82=>
((some r82.1).bind getB).bind fun b85=>
(if b85 = true then
some ((.bool true),r82.2)
else
((cell r82.2 (List.length h) 5).bind getStr).bind fun s86=>
some ((.bool (s86.toList == (⟨#[]⟩ : ByteArray).toList)),r82.2))
else
some ((.bool false),r72.2)))
else
some ((.bool false),r52.2)))
else
some ((.bool false),r12.2)))
else
((cell r8.2 (List.length h) 1).bind (getI .i64)).bind fun n87=>
(if (n87 == (0 : Int)) = true then
((run (Et base) 212 [(.int .u8 (66 : Int)),(vP (List.length r3.2))] r8.2).bind fun r89=>
((some r89.1).bind getB).bind fun b90=>
some ((.bool b90),r89.2)).bind fun r88=>
((some r88.1).bind getB).bind fun b91=>
(if b91 = true then
((run (Et base) 212 [(.int .u8 (67 : Int)),(vP (List.length r3.2))] r88.2).bind fun r93=>
((some r93.1).bind getB).bind fun b94=>
some ((.bool b94),r93.2)).bind fun r92=>
((some r92.1).bind getB).bind fun b95=>
(if b95 = true then
((run (Et base) 212 [(.int .u8 (78 : Int)),(vP (List.length r3.2))] r92.2).bind fun r97=>
((some r97.1).bind getB).bind fun b98=>
some ((.bool b98),r97.2)).bind fun r96=>
((some r96.1).bind getB).bind fun b99=>
(if b99 = true then
((run (Et base) 212 [(.int .u8 (83 : Int)),(vP (List.length r3.2))] r96.2).bind fun r101=>
((some r101.1).bind getB).bind fun b102=>
some ((.bool b102),r101.2)).bind fun r100=>
((some r100.1).bind getB).bind fun b103=>
(if b103 = true then
some ((.bool true),r100.2)
else
((cell r100.2 (List.length h) 5).bind getStr).bind fun s104=>
some ((.bool (s104.toList == (⟨#[]⟩ : ByteArray).toList)),r100.2))
else
((cell r96.2 (List.length h) 4).bind (getI .i64)).bind fun n105=>
(if (n105 == (0 : Int)) = true then
((run (Et base) 212 [(.int .u8 (83 : Int)),(vP (List.length r3.2))] r96.2).bind fun r107=>
((some r107.1).bind getB).bind fun b108=>
some ((.bool b108),r107.2)).bind fun r106=>
((some r106.1).bind getB).bind fun b109=>
(if b109 = true then
some ((.bool true),r106.2)
else
((cell r106.2 (List.length h) 5).bind getStr).bind fun s110=>
some ((.bool (s110.toList == (⟨#[]⟩ : ByteArray).toList)),r106.2))
else
some ((.bool false),r96.2)))
else
((cell r92.2 (List.length h) 3).bind (getI .i64)).bind fun n111=>
(if (n111 == (0 : Int)) = true then
((run (Et base) 212 [(.int .u8 (78 : Int)),(vP (List.length r3.2))] r92.2).bind fun r113=>
((some r113.1).bind getB).bind fun b114=>
some ((.bool b114),r113.2)).bind fun r112=>
((some r112.1).bind getB).bind fun b115=>
(if b115 = true then
((run (Et base) 212 [(.int .u8 (83 : Int)),(vP (List.length r3.2))] r112.2).bind fun r117=>
((some r117.1).bind getB).bind fun b118=>
some ((.bool b118),r117.2)).bind fun r116=>
((some r116.1).bind getB).bind fun b119=>
(if b119 = true then
some ((.bool true),r116.2)
else
((cell r116.2 (List.length h) 5).bind getStr).bind fun s120=>
some ((.bool (s120.toList == (⟨#[]⟩ : ByteArray).toList)),r116.2))
else
((cell r112.2 (List.length h) 4).bind (getI .i64)).bind fun n121=>
(if (n121 == (0 : Int)) = true then
((run (Et base) 212 [(.int .u8 (83 : Int)),(vP (List.length r3.2))] r112.2).bind fun r123=>
((some r123.1).bind getB).bind fun b124=>
some ((.bool b124),r123.2)).bind fun r122=>
((some r122.1).bind getB).bind fun b125=>
(if b125 = true then
some ((.bool true),r122.2)
else
((cell r122.2 (List.length h) 5).bind getStr).bind fun s126=>
some ((.bool (s126.toList == (⟨#[]⟩ : ByteArray).toList)),r122.2))
else
some ((.bool false),r112.2)))
else
some ((.bool false),r92.2)))
else
((cell r88.2 (List.length h) 2).bind (getI .i64)).bind fun n127=>
(if (n127 == (0 : Int)) = true then
((run (Et base) 212 [(.int .u8 (67 : Int)),(vP (List.length r3.2))] r88.2).bind fun r129=>
((some r129.1).bind getB).bind fun b130=>
some ((.bool b130),r129.2)).bind fun r128=>
((some r128.1).bind getB).bind fun b131=>
(if b131 = true then
((run (Et base) 212 [(.int .u8 (78 : Int)),(vP (List.length r3.2))] r128.2).bind fun r133=>
((some r133.1).bind getB).bind fun b134=>
some ((.bool b134),r133.2)).bind fun r132=>
((some r132.1).bind getB).bind fun b135=>
(if b135 = true then
((run (Et base) 212 [(.int .u8 (83 : Int)),(vP (List.length r3.2))] r132.2).bind fun r137=>
((some r137.1).bind getB).bind fun b138=>
some ((.bool b138),r137.2)).bind fun r136=>
((some r136.1).bind getB).bind fun b139=>
(if b139 = true then
some ((.bool true),r136.2)
else
((cell r136.2 (List.length h) 5).bind getStr).bind fun s140=>
some ((.bool (s140.toList == (⟨#[]⟩ : ByteArray).toList)),r136.2))
else
((cell r132.2 (List.length h) 4).bind (getI .i64)).bind fun n141=>
(if (n141 == (0 : Int)) = true then
((run (Et base) 212 [(.int .u8 (83 : Int)),(vP (List.length r3.2))] r132.2).bind fun r143=>
((some r143.1).bind getB).bind fun b144=>
some ((.bool b144),r143.2)).bind fun r142=>
((some r142.1).bind getB).bind fun b145=>
(if b145 = true then
some ((.bool true),r142.2)
else
((cell r142.2 (List.length h) 5).bind getStr).bind fun s146=>
some ((.bool (s146.toList == (⟨#[]⟩ : ByteArray).toList)),r142.2))
else
some ((.bool false),r132.2)))
else
((cell r128.2 (List.length h) 3).bind (getI .i64)).bind fun n147=>
(if (n147 == (0 : Int)) = true then
((run (Et base) 212 [(.int .u8 (78 : Int)),(vP (List.length r3.2))] r128.2).bind fun r149=>
((some r149.1).bind getB).bind fun b150=>
some ((.bool b150),r149.2)).bind fun r148=>
((some r148.1).bind getB).bind fun b151=>
(if b151 = true then
((run (Et base) 212 [(.int .u8 (83 : Int)),(vP (List.length r3.2))] r148.2).bind fun r153=>
((some r153.1).bind getB).bind fun b154=>
some ((.bool b154),r153.2)).bind fun r152=>
((some r152.1).bind getB).bind fun b155=>
(if b155 = true then
some ((.bool true),r152.2)
else
((cell r152.2 (List.length h) 5).bind getStr).bind fun s156=>
some ((.bool (s156.toList == (⟨#[]⟩ : ByteArray).toList)),r152.2))
else
((cell r148.2 (List.length h) 4).bind (getI .i64)).bind fun n157=>
(if (n157 == (0 : Int)) = true then
((run (Et base) 212 [(.int .u8 (83 : Int)),(vP (List.length r3.2))] r148.2).bind fun r159=>
((some r159.1).bind getB).bind fun b160=>
some ((.bool b160),r159.2)).bind fun r158=>
((some r158.1).bind getB).bind fun b161=>
(if b161 = true then
some ((.bool true),r158.2)
else
((cell r158.2 (List.length h) 5).bind getStr).bind fun s162=>
some ((.bool (s162.toList == (⟨#[]⟩ : ByteArray).toList)),r158.2))
else
some ((.bool false),r148.2)))
else
some ((.bool false),r128.2)))
else
some ((.bool false),r88.2)))
else
some ((.bool false),r8.2)))
else
some ((.bool false),h6))
theorem r179 {base : Nat} {v0_0 : Int} {v0_1 : Int} {v0_2 : Int} {v0_3 : Int} {v0_4 : Int} {v0_5 : ByteArray} {h : AH} {r : Value × AH} (hx : qf179 base v0_0 v0_1 v0_2 v0_3 v0_4 v0_5 h = some r) : run (Et base) 179 [(.agg #[(vI v0_0),(vI v0_1),(vI v0_2),(vI v0_3),(vI v0_4),(vT v0_5)])] h = some r:=run_i (an:=a179) Try.func179 (by kernel_rfl) (.trans (by kernel_rfl) hx)
theorem r180 {base : Nat} {v0 : Int} {h : AH} {r : Value × AH} (hx : ((run (Et base) 83 [(.int .i64 v0),(.int .i64 (0 : Int)),(.int .i64 (7 : Int))] h).bind fun r1=>
((some r1.1).bind getB).bind fun b2=>
some ((.bool b2),r1.2)) = some r) : run (Et base) 180 [(vI v0)] h = some r:=run_i (an:=a180) Try.func180 (by kernel_rfl) (.trans (by kernel_rfl) hx)
theorem r181 {base : Nat}  {h : AH} {r : Value × AH} (hx : ((some (h++[some ⟨[(.string (⟨#[65,78]⟩ : ByteArray)),(.string (⟨#[65,83]⟩ : ByteArray)),(.string (⟨#[65,66]⟩ : ByteArray)),(.string (⟨#[65,66,78]⟩ : ByteArray)),(.string (⟨#[65,66,67]⟩ : ByteArray)),(.string (⟨#[65,66,78]⟩ : ByteArray)),(.string (⟨#[65,66]⟩ : ByteArray)),(.string (⟨#[65,66]⟩ : ByteArray)),(.string (⟨#[65,66,67]⟩ : ByteArray)),(.string (⟨#[65,66,78]⟩ : ByteArray)),(.string (⟨#[65,66,78]⟩ : ByteArray)),(.string (⟨#[78]⟩ : ByteArray)),(.string (⟨#[65,66]⟩ : ByteArray)),(.string (⟨#[65]⟩ : ByteArray)),(.string (⟨#[65]⟩ : ByteArray)),(.string (⟨#[65,66,78]⟩ : ByteArray)),(.string (⟨#[65]⟩ : ByteArray)),(.string (⟨#[65]⟩ : ByteArray)),(.string (⟨#[65]⟩ : ByteArray)),(.string (⟨#[65]⟩ : ByteArray))],9⟩])).bind fun h1=>
some ((.slice (some ⟨(List.length h),0,none⟩) 20 20),h1)) = some r) : run (Et base) 181 [] h = some r:=run_i (an:=a181) Try.func181 (by kernel_rfl) (.trans (by kernel_rfl) hx)
theorem r182 {base : Nat} {v0 : ByteArray} {v1 : Int} {v2 : Int} {h : AH} {r : Value × AH} (hx : ((run (Et base) 204 [(.string v0),(.int .u8 v1)] h).bind fun r1=>
((some r1.1).bind getB).bind fun b2=>
(if (!b2) = true then
some ((.bool (v2 == (0 : Int))),r1.2)
else
(run (Et base) 90 [(.int .i64 v2),(.int .i64 (0 : Int)),(.int .i64 (7 : Int))] r1.2).bind fun r3=>
((some r3.1).bind getB).bind fun b4=>
some ((.bool b4),r3.2))) = some r) : run (Et base) 182 [(vT v0),(.int .u8 v1),(vI v2)] h = some r:=run_i (an:=a182) Try.func182 (by kernel_rfl) (.trans (by kernel_rfl) hx)
noncomputable def B183_0 (base : Nat) : Body:=fun l h=>lay s183_0 l fun s=>exCode (Et base) (run (Et base)) loopL a183_0 (subC [1,0,1,0,0] (bodyC Try.f183)) s h (keepK s183_0 e183_0)
theorem B183_0_eq (base : Nat) (v0 : ByteArray) (v3 : Int) (h : AH) : B183_0 base [some (vT v0),some (vI v3)] h =
((if (decide (v3 < (v0.size : Int))) = true then
(if 0≤v3∧v3 < (v0.size : Int) then
(run (Et base) 90 [(.int .i64 (IntKind.wrap .i64 ((v0.data.toList.getD (Int.toNat v3) 0).toNat : Int))),(.int .i64 (97 : Int)),(.int .i64 (122 : Int))] h).bind fun r1=>
((some r1.1).bind getB).bind fun b2=>
((if (!b2) = true then
(if (v3 == (0 : Int)) = true then
some (.inl ([some (.string v0),some (.int .i64 v3),some (.bool true)],r1.2))
else
(if 0≤v3∧v3 < (v0.size : Int) then
(run (Et base) 90 [(.int .i64 (IntKind.wrap .i64 ((v0.data.toList.getD (Int.toNat v3) 0).toNat : Int))),(.int .i64 (48 : Int)),(.int .i64 (57 : Int))] r1.2).bind fun r4=>
((some r4.1).bind getB).bind fun b5=>
some (.inl ([some (.string v0),some (.int .i64 v3),some (.bool (!b5))],r4.2))
else none))
else
some (.inl ([some (.string v0),some (.int .i64 v3),some (.bool false)],r1.2)))).bind fun j3=>joinK j3 fun j3=>
((sget j3.1 0).bind getStr).bind fun s6=>
((sget (j3.1.tail) 0).bind (getI .i64)).bind fun n7=>
((sget (j3.1.tail.tail) 0).bind getB).bind fun b8=>
(if b8 = true then
some (1,[some (.bool false)],j3.2)
else
some (0,[some (.string s6),some (.int .i64 (IntKind.wrap .i64 (n7 + (1 : Int))))],j3.2))
else none)
else
some (2,[some (.string v0)],h)) : Option (Nat × Slots × AH)):=by kernel_rfl
theorem r183 {base : Nat} {v0 : ByteArray} {h : AH} {r : Value × AH} (hx : ((loopL (B183_0 base) [some (.string v0),some (.int .i64 (0 : Int))] h).bind fun q1=>
(if q1.1 = 1 then
((sget q1.2.1 0).bind getB).bind fun b2=>
some ((.bool b2),q1.2.2)
else
(if q1.1 = 2 then
((sget q1.2.1 0).bind getStr).bind fun s3=>
(run (Et base) 90 [(.int .i64 (s3.size : Int)),(.int .i64 (1 : Int)),(.int .i64 (12 : Int))] q1.2.2).bind fun r4=>
((some r4.1).bind getB).bind fun b5=>
some ((.bool b5),r4.2)
else
none))) = some r) : run (Et base) 183 [(vT v0)] h = some r:=run_i (an:=a183) Try.func183 (by kernel_rfl) (.trans (by kernel_rfl) hx)
theorem r184 {base : Nat} {v0_0 : Int} {v0_1 : Int} {v0_2 : Int} {v0_3 : Int} {v0_4 : Int} {v0_5 : ByteArray} {v1 : Int} {h : AH} {r : Value × AH} (hx : (nw1 h 143 [(vI v0_0),(vI v0_1),(vI v0_2),(vI v0_3),(vI v0_4),(vT v0_5)] fun h1=>
((cell h1 (List.length h) 0).bind (getI .i64)).bind fun n2=>
(if (n2 == (1 : Int)) = true then
((cell h1 (List.length h) 4).bind (getI .i64)).bind fun n3=>
(run (Et base) 90 [(vI n3),(vI (-1000000 : Int)),(vI (1000000 : Int))] h1).bind fun r4=>
((some r4.1).bind getB).bind fun b5=>
some ((.bool b5),r4.2)
else
(if (n2 == (4 : Int)) = true then
((cell h1 (List.length h) 4).bind (getI .i64)).bind fun n6=>
(run (Et base) 90 [(vI n6),(vI (0 : Int)),(vI (8 : Int))] h1).bind fun r7=>
((some r7.1).bind getB).bind fun b8=>
(if b8 = true then
((cell r7.2 (List.length h) 2).bind (getI .i64)).bind fun n9=>
((cell r7.2 (List.length h) 4).bind (getI .i64)).bind fun n10=>
some ((.bool (decide ((IntKind.wrap .i64 (n9 + n10))≤(8 : Int)))),r7.2)
else
some ((.bool false),r7.2))
else
(if (n2 == (6 : Int)) = true then
((cell h1 (List.length h) 4).bind (getI .i64)).bind fun n11=>
(run (Et base) 90 [(vI n11),(vI (0 : Int)),(vI (7 : Int))] h1).bind fun r12=>
((some r12.1).bind getB).bind fun b13=>
some ((.bool b13),r12.2)
else
((if (n2 == (10 : Int)) = true then
some (.inl ([some (vI v1),some (vP (List.length h)),some (.bool (n2 == (10 : Int)))],h1))
else
(if (n2 == (11 : Int)) = true then
some (.inl ([some (vI v1),some (vP (List.length h)),some (.bool (n2 == (11 : Int)))],h1))
else
(if (n2 == (12 : Int)) = true then
some (.inl ([some (vI v1),some (vP (List.length h)),some (.bool (n2 == (12 : Int)))],h1))
else
some (.inl ([some (vI v1),some (vP (List.length h)),some (.bool (n2 == (16 : Int)))],h1)))))).bind fun j14=>joinK j14 fun j14=>
j_IAB j14.1 fun n15 d16 b17=>
(if b17 = true then
((cell j14.2 d16.block (d16.off + 4)).bind (getI .i64)).bind fun n18=>
(if (decide (n18 ≥ (0 : Int))) = true then
((cell j14.2 d16.block (d16.off + 4)).bind (getI .i64)).bind fun n19=>
some ((.bool (decide (n19 < n15))),j14.2)
else
some ((.bool false),j14.2))
else
((cell j14.2 d16.block (d16.off + 4)).bind (getI .i64)).bind fun n20=>
some ((.bool (n20 == (0 : Int))),j14.2)))))) = some r) : run (Et base) 184 [(.agg #[(vI v0_0),(vI v0_1),(vI v0_2),(vI v0_3),(vI v0_4),(vT v0_5)]),(vI v1)] h = some r:=run_i (an:=a184) Try.func184 (by kernel_rfl) (.trans (by kernel_rfl) hx)
theorem r194 {base : Nat} {v0 : Int} {h : AH} {r : Value × AH} (hx : ((if (decide (v0 ≥ (97 : Int))) = true then
some ((.bool (decide (v0≤(122 : Int)))),h)
else
some ((.bool false),h))) = some r) : run (Et base) 194 [(.int .u8 v0)] h = some r:=run_i (an:=a194) Try.func194 (by kernel_rfl) (.trans (by kernel_rfl) hx)
theorem r195 {base : Nat} {v0 : Int} {h : AH} {r : Value × AH} (hx : ((if (decide (v0 ≥ (48 : Int))) = true then
some ((.bool (decide (v0≤(57 : Int)))),h)
else
some ((.bool false),h))) = some r) : run (Et base) 195 [(.int .u8 v0)] h = some r:=run_i (an:=a195) Try.func195 (by kernel_rfl) (.trans (by kernel_rfl) hx)
noncomputable def B204_0 (base : Nat) : Body:=fun l h=>lay s204_0 l fun s=>exCode (Et base) (run (Et base)) loopL a204_0 (subC [1,0,1,0,0] (bodyC Try.f204)) s h (keepK s204_0 e204_0)
theorem B204_0_eq (base : Nat) (v0 : ByteArray) (v1 : Int) (v5 : Int) (h : AH) : B204_0 base [some (vT v0),some (.int .u8 v1),some (vI v5)] h =
((if (decide (v5 < (v0.size : Int))) = true then
(if 0≤v5∧v5 < (v0.size : Int) then
(if (((v0.data.toList.getD (Int.toNat v5) 0).toNat : Int) == v1) = true then
some (1,[some (.bool true)],h)
else
some (0,[some (.string v0),some (.int .u8 v1),some (.int .i64 (IntKind.wrap .i64 (v5 + (1 : Int))))],h))
else none)
else
some (2,[],h)) : Option (Nat × Slots × AH)):=by kernel_rfl
theorem r204 {base : Nat} {v0 : ByteArray} {v1 : Int} {h : AH} {r : Value × AH} (hx : ((loopL (B204_0 base) [some (.string v0),some (.int .u8 v1),some (.int .i64 (0 : Int))] h).bind fun q1=>
(if q1.1 = 1 then
((sget q1.2.1 0).bind getB).bind fun b2=>
some ((.bool b2),q1.2.2)
else
(if q1.1 = 2 then
some ((.bool false),q1.2.2)
else
none))) = some r) : run (Et base) 204 [(vT v0),(.int .u8 v1)] h = some r:=run_i (an:=a204) Try.func204 (by kernel_rfl) (.trans (by kernel_rfl) hx)
noncomputable abbrev qf211 (base : Nat) (v0 : Int) (h : AH) : Option (Value × AH):=
(if (v0 == (1 : Int)) = true then
some ((vT (⟨#[65,78]⟩ : ByteArray)),h)
else
(if (v0 == (2 : Int)) = true then
some ((vT (⟨#[65,83]⟩ : ByteArray)),h)
else
((if (v0 == (3 : Int)) = true then
some (.inl ([some (vI v0),some (.bool (v0 == (3 : Int)))],h))
else
(if (v0 == (7 : Int)) = true then
some (.inl ([some (vI v0),some (.bool (v0 == (7 : Int)))],h))
else
(if (v0 == (8 : Int)) = true then
some (.inl ([some (vI v0),some (.bool (v0 == (8 : Int)))],h))
else
some (.inl ([some (vI v0),some (.bool (v0 == (13 : Int)))],h)))))).bind fun j1=>joinK j1 fun j1=>
j_IB j1.1 fun n2 b3=>
(if b3 = true then
some ((vT (⟨#[65,66]⟩ : ByteArray)),j1.2)
else
((if (n2 == (4 : Int)) = true then
some (.inl ([some (vI n2),some (.bool (n2 == (4 : Int)))],j1.2))
else
(if (n2 == (6 : Int)) = true then
some (.inl ([some (vI n2),some (.bool (n2 == (6 : Int)))],j1.2))
else
(if (n2 == (10 : Int)) = true then
some (.inl ([some (vI n2),some (.bool (n2 == (10 : Int)))],j1.2))
else
(if (n2 == (11 : Int)) = true then
some (.inl ([some (vI n2),some (.bool (n2 == (11 : Int)))],j1.2))
else
some (.inl ([some (vI n2),some (.bool (n2 == (16 : Int)))],j1.2))))))).bind fun j4=>joinK j4 fun j4=>
j_IB j4.1 fun n5 b6=>
(if b6 = true then
some ((vT (⟨#[65,66,78]⟩ : ByteArray)),j4.2)
else
((if (n5 == (5 : Int)) = true then
some (.inl ([some (vI n5),some (.bool (n5 == (5 : Int)))],j4.2))
else
some (.inl ([some (vI n5),some (.bool (n5 == (9 : Int)))],j4.2)))).bind fun j7=>joinK j7 fun j7=>
j_IB j7.1 fun n8 b9=>
(if b9 = true then
some ((vT (⟨#[65,66,67]⟩ : ByteArray)),j7.2)
else
(if (n8 == (12 : Int)) = true then
some ((vT (⟨#[78]⟩ : ByteArray)),j7.2)
else
((if (n8 == (14 : Int)) = true then
some (.inl ([some (.bool (n8 == (14 : Int)))],j7.2))
else
(if (n8 == (15 : Int)) = true then
some (.inl ([some (.bool (n8 == (15 : Int)))],j7.2))
else
(if (n8 == (17 : Int)) = true then
some (.inl ([some (.bool (n8 == (17 : Int)))],j7.2))
else
(if (n8 == (18 : Int)) = true then
some (.inl ([some (.bool (n8 == (18 : Int)))],j7.2))
else
(if (n8 == (19 : Int)) = true then
some (.inl ([some (.bool (n8 == (19 : Int)))],j7.2))
else
some (.inl ([some (.bool (n8 == (20 : Int)))],j7.2)))))))).bind fun j10=>joinK j10 fun j10=>
((sget j10.1 0).bind getB).bind fun b11=>
(if b11 = true then
some ((vT (⟨#[65]⟩ : ByteArray)),j10.2)
else
some ((vT (⟨#[]⟩ : ByteArray)),j10.2))))))))
theorem r211 {base : Nat} {v0 : Int} {h : AH} {r : Value × AH} (hx : qf211 base v0 h = some r) : run (Et base) 211 [(vI v0)] h = some r:=run_i (an:=a211) Try.func211 (by kernel_rfl) (.trans (by kernel_rfl) hx)
theorem r212 {base : Nat} {v0 : Int} {w0 : Addr} {h : AH} {r : Value × AH} (hx : (((cell h w0.block w0.off).bind getStr).bind fun s1=>
(run (Et base) 213 [(.string s1),(.int .u8 v0)] h).bind fun r2=>
((some r2.1).bind (getI .i64)).bind fun n3=>
some ((.bool (decide (n3 ≥ (0 : Int)))),r2.2)) = some r) : run (Et base) 212 [(.int .u8 v0),(vA w0)] h = some r:=run_i (an:=a212) Try.func212 (by kernel_rfl) (.trans (by kernel_rfl) hx)
theorem r213 {base : Nat} {v0 : ByteArray} {v1 : Int} {h : AH} {r : Value × AH} (hx : ((run (Et base) 229 [(.string v0),(.int .u8 v1)] h).bind fun r1=>
((some r1.1).bind (getI .i64)).bind fun n2=>
some ((.int .i64 n2),r1.2)) = some r) : run (Et base) 213 [(vT v0),(.int .u8 v1)] h = some r:=run_i (an:=a213) Try.func213 (by kernel_rfl) (.trans (by kernel_rfl) hx)
theorem r229 {base : Nat} {v0 : ByteArray} {v1 : Int} {h : AH} {r : Value × AH} (hx : (some ((.int .i64 (firstIdx v0 (Nat.toUInt8 (Int.toNat v1)))),h)) = some r) : run (Et base) 229 [(vT v0),(.int .u8 v1)] h = some r:=run_i (an:=a229) Try.func229 (by kernel_rfl) (.trans (by kernel_rfl) hx)
end Go.Proofs.Ytkdenmdijdmnjaa.Am
