/- What each of these functions comes to on the abstract machine, one equation a function and one a loop.
Conditions: none. -/
import Derived.Test.YtkdenmdijdmnjaaTb
set_option linter.unusedVariables false
set_option maxRecDepth 100000
namespace Go.Proofs.Ytkdenmdijdmnjaa.Am
open Go Go.RowKit
noncomputable abbrev qf134 (base : Nat) (v0 : Option Addr) (v1 : Option Addr) (h : AH) : Option (Value × AH):=
(v1).bind fun a1=>
((cell h a1.block (a1.off + 2)).bind (getI .i64)).bind fun n2=>
(run (Et base) 133 [(.pointer v0),(vI n2)] h).bind fun r3=>
((some r3.1).bind (getI .i64)).bind fun n4=>
((v1).bind fun a6=>
((cell r3.2 a6.block (a6.off + 1)).bind getS).bind fun l7=>
(if (decide (((l7.2 : Nat) : Int) > (0 : Int))) = true then
(v1).bind fun a8=>
((cell r3.2 a8.block (a8.off + 1)).bind getS).bind fun l9=>
(v1).bind fun a10=>
((cell r3.2 a10.block (a10.off + 1)).bind getS).bind fun l11=>
(run (Et base) 133 [(.pointer v0),(vI ((l11.2 : Nat) : Int))] r3.2).bind fun r12=>
((some r12.1).bind (getI .i64)).bind fun n13=>
(gate (sameA r3.2 r12.2 (some ⟨a8.block,(a8.off + 1),none⟩) 1)
((if 0≤n13∧n13 < ((l9.2 : Nat) : Int) then
((l9.1 : Option Addr)).bind fun a14=>
((cell r12.2 a14.block ((a14.off + Int.toNat n13 * 5) + 0)).bind (getI .i64)).bind fun n15=>
some (.inl ([some (.pointer v0),some (.pointer v1),some (vI n15)],r12.2))
else none)))
else
some (.inl ([some (.pointer v0),some (.pointer v1),some (vI (IntKind.wrap .i64 ((1 : Int) + n4)))],r3.2)))).bind fun j5=>joinK j5 fun j5=>
j_PPI j5.1 fun p16 p17 n18=>
(run (Et base) 133 [(.pointer p16),(vI (8 : Int))] j5.2).bind fun r19=>
((some r19.1).bind (getI .i64)).bind fun n20=>
((if (n20 == (0 : Int)) = true then
some (.inl ([some (.pointer p16),some (.pointer p17),some (vI n18),some (vI n20),some (.bool (n20 == (0 : Int)))],r19.2))
else
(if (n20 == (1 : Int)) = true then
some (.inl ([some (.pointer p16),some (.pointer p17),some (vI n18),some (vI n20),some (.bool (n20 == (1 : Int)))],r19.2))
else
some (.inl ([some (.pointer p16),some (.pointer p17),some (vI n18),some (vI n20),some (.bool (n20 == (2 : Int)))],r19.2))))).bind fun j21=>joinK j21 fun j21=>
j_PPIIB j21.1 fun p22 p23 n24 n25 b26=>
(if b26 = true then
(run (Et base) 174 [(.pointer p22)] j21.2).bind fun r27=>
gG (some r27.1) 4 fun l28=>
l_IITL l28 fun n29 n30 s31 l32=>
(run (Et base) 59 [(.pointer p23),(vI n24),(.agg #[(vI n29),(vI n30),(vT s31),(vL l32.1 l32.2)])] r27.2).bind fun r33=>
((some r33.1).bind getB).bind fun b34=>
some ((.tuple #[]),r33.2)
else
(if (n25 == (3 : Int)) = true then
(run (Et base) 156 [(.pointer p22),(vI (4 : Int))] j21.2).bind fun r35=>
((some r35.1).bind getB).bind fun b36=>
(if b36 = true then
(run (Et base) 132 [(.pointer p22),(vI (0 : Int))] r35.2).bind fun r37=>
gG (some r37.1) 4 fun l38=>
l_IITL l38 fun n39 n40 s41 l42=>
(run (Et base) 175 [(.pointer p23),(vI n24),(.agg #[(vI n39),(vI n40),(vT s41),(vL l42.1 l42.2)])] r37.2).bind fun r43=>
(getTup 0 r43.1).bind fun _=>
some ((.tuple #[]),r43.2)
else
some ((.tuple #[]),r35.2))
else
(p23).bind fun a44=>
((cell j21.2 a44.block (a44.off + 1)).bind getS).bind fun l45=>
(if (decide (((l45.2 : Nat) : Int) > (0 : Int))) = true then
(run (Et base) 133 [(.pointer p22),(vI (20 : Int))] j21.2).bind fun r46=>
((some r46.1).bind (getI .i64)).bind fun n47=>
(run (Et base) 133 [(.pointer p22),(vI (20 : Int))] r46.2).bind fun r48=>
((some r48.1).bind (getI .i64)).bind fun n49=>
(run (Et base) 176 [(.pointer p23),(vI n47),(vI (IntKind.wrap .i64 ((1 : Int) + n49)))] r48.2).bind fun r50=>
(getTup 0 r50.1).bind fun _=>
some ((.tuple #[]),r50.2)
else
some ((.tuple #[]),j21.2))))
theorem r134 {base : Nat} {v0 : Option Addr} {v1 : Option Addr} {h : AH} {r : Value × AH} (hx : qf134 base v0 v1 h = some r) : run (Et base) 134 [(.pointer v0),(.pointer v1)] h = some r:=run_i (an:=a134) Try.func134 (by kernel_rfl) (.trans (by kernel_rfl) hx)
theorem r135 {base : Nat} {v0 : Option Addr} {v1 : Option Addr} {v1n : Nat} {h : AH} {r : Value × AH} (hx : ((run (Et base) 133 [(.pointer v0),(.int .i64 ((v1n : Nat) : Int))] h).bind fun r1=>
((some r1.1).bind (getI .i64)).bind fun n2=>
(if 0≤n2∧n2 < ((v1n : Nat) : Int) then
((v1 : Option Addr)).bind fun a3=>
((cell r1.2 a3.block (a3.off + Int.toNat n2 * 1)).bind (getI .i64)).bind fun n4=>
some ((.int .i64 n4),r1.2)
else none)) = some r) : run (Et base) 135 [(.pointer v0),(vL v1 v1n)] h = some r:=run_i (an:=a135) Try.func135 (by kernel_rfl) (.trans (by kernel_rfl) hx)
noncomputable abbrev qf136 (base : Nat) (v0 : Option Addr) (h : AH) : Option (Value × AH):=
(run (Et base) 131 [(.pointer v0)] h).bind fun r1=>
((some r1.1).bind getS).bind fun l2=>
(run (Et base) 133 [(.pointer v0),(vI ((l2.2 : Nat) : Int))] r1.2).bind fun r3=>
((some r3.1).bind (getI .i64)).bind fun n4=>
((run (Et base) 133 [(.pointer v0),(vI (12 : Int))] r3.2).bind fun r6=>
((some r6.1).bind (getI .i64)).bind fun n7=>
(if (n7 == (0 : Int)) = true then
(run (Et base) 133 [(.pointer v0),(vI (23 : Int))] r6.2).bind fun r8=>
((some r8.1).bind (getI .i64)).bind fun n9=>
(if 0≤n4∧n4 < ((l2.2 : Nat) : Int) then
((l2.1 : Option Addr)).bind fun a10=>
(wr base r8.2 a10.block ((a10.off + Int.toNat n4 * 6) + 0) [(vI n9)]).bind fun h11=>
some (.inl ([some (vL l2.1 l2.2)],h11))
else none)
else
(if (n7 == (1 : Int)) = true then
nw1 r6.2 3 [(vI (-1 : Int)),(vI (7 : Int)),(vI (8 : Int))] fun h12=>
(run (Et base) 135 [(.pointer v0),(vL (some ⟨(List.length r6.2),0,none⟩) 3)] h12).bind fun r13=>
((some r13.1).bind (getI .i64)).bind fun n14=>
(if 0≤n4∧n4 < ((l2.2 : Nat) : Int) then
((l2.1 : Option Addr)).bind fun a15=>
(wr base r13.2 a15.block ((a15.off + Int.toNat n4 * 6) + 1) [(vI n14)]).bind fun h16=>
some (.inl ([some (vL l2.1 l2.2)],h16))
else none)
else
(if (n7 == (2 : Int)) = true then
nw1 r6.2 3 [(vI (-1 : Int)),(vI (200 : Int)),(vI (8 : Int))] fun h17=>
(run (Et base) 135 [(.pointer v0),(vL (some ⟨(List.length r6.2),0,none⟩) 3)] h17).bind fun r18=>
((some r18.1).bind (getI .i64)).bind fun n19=>
(if 0≤n4∧n4 < ((l2.2 : Nat) : Int) then
((l2.1 : Option Addr)).bind fun a20=>
(wr base r18.2 a20.block ((a20.off + Int.toNat n4 * 6) + 4) [(vI n19)]).bind fun h21=>
some (.inl ([some (vL l2.1 l2.2)],h21))
else none)
else
(if (n7 == (3 : Int)) = true then
nw1 r6.2 9 [(vT (⟨#[]⟩ : ByteArray)),(vT (⟨#[65]⟩ : ByteArray)),(vT (⟨#[120]⟩ : ByteArray))] fun h22=>
(run (Et base) 172 [(.pointer v0),(vL (some ⟨(List.length r6.2),0,none⟩) 3)] h22).bind fun r23=>
((some r23.1).bind getStr).bind fun s24=>
(if 0≤n4∧n4 < ((l2.2 : Nat) : Int) then
((l2.1 : Option Addr)).bind fun a25=>
(wr base r23.2 a25.block ((a25.off + Int.toNat n4 * 6) + 5) [(vT s24)]).bind fun h26=>
some (.inl ([some (vL l2.1 l2.2)],h26))
else none)
else
(if (n7 == (4 : Int)) = true then
(if 0≤(0 : Int)∧(0 : Int)≤n4∧n4≤((l2.2 : Nat) : Int)∧okTy base r6.2 l2.1 143 (Int.toNat (0 : Int)) = true then
some (.inl ([some (.slice (shiftA l2.1 (Int.toNat (0 : Int) * 6)) (Int.toNat n4 - Int.toNat (0 : Int)) (Int.toNat n4 - Int.toNat (0 : Int)))],r6.2))
else none)
else
some (.inl ([some (vL l2.1 l2.2)],r6.2)))))))).bind fun j5=>joinK j5 fun j5=>
((sget j5.1 0).bind getS).bind fun l27=>
some ((vL l27.1 l27.2),j5.2)
theorem r136 {base : Nat} {v0 : Option Addr} {h : AH} {r : Value × AH} (hx : qf136 base v0 h = some r) : run (Et base) 136 [(.pointer v0)] h = some r:=run_i (an:=a136) Try.func136 (by kernel_rfl) (.trans (by kernel_rfl) hx)
noncomputable abbrev qf137 (base : Nat) (v0 : Option Addr) (v1 : Option Addr) (v1n : Nat) (h : AH) : Option (Value × AH):=
nw1 h 54 [(vI 0),(vI 0),(vL none 0),(vL none 0),(vL none 0)] fun h1=>
(if (((v1n : Nat) : Int) == (0 : Int)) = true then
(wr base h1 (List.length h) 0 [(vI (0 : Int)),(vI (0 : Int)),(vL none 0),(vL none 0),(vL none 0)]).bind fun h2=>
c_IILLL h2 (List.length h) 0 fun n3 n4 l5 l6 l7=>
some ((.agg #[(vI n3),(vI n4),(vL l5.1 l5.2),(vL l6.1 l6.2),(vL l7.1 l7.2)]),h2)
else
(run (Et base) 177 [(.pointer v0),(vL v1 v1n)] h1).bind fun r8=>
gG (some r8.1) 5 fun l9=>
l_IILLL l9 fun n10 n11 l12 l13 l14=>
nw1 r8.2 54 [(vI 0),(vI 0),(vL none 0),(vL none 0),(vL none 0)] fun h15=>
(wr base h15 (List.length r8.2) 0 [(vI n10),(vI n11),(vL l12.1 l12.2),(vL l13.1 l13.2),(vL l14.1 l14.2)]).bind fun h16=>
((run (Et base) 133 [(.pointer v0),(vI (12 : Int))] h16).bind fun r18=>
((some r18.1).bind (getI .i64)).bind fun n19=>
(if (n19 == (0 : Int)) = true then
nw1 r18.2 3 [(vI (0 : Int)),(vI (99999 : Int)),(vI (100000 : Int))] fun h20=>
(run (Et base) 135 [(.pointer v0),(vL (some ⟨(List.length r18.2),0,none⟩) 3)] h20).bind fun r21=>
((some r21.1).bind (getI .i64)).bind fun n22=>
(wr base r21.2 (List.length r8.2) 0 [(vI n22)]).bind fun h23=>
some (.inl ([some (vP (List.length h)),some (vP (List.length r8.2))],h23))
else
(if (n19 == (1 : Int)) = true then
nw1 r18.2 3 [(vI (-1 : Int)),(vI (200 : Int)),(vI ((v1n : Nat) : Int))] fun h24=>
(run (Et base) 135 [(.pointer v0),(vL (some ⟨(List.length r18.2),0,none⟩) 3)] h24).bind fun r25=>
((some r25.1).bind (getI .i64)).bind fun n26=>
(wr base r25.2 (List.length r8.2) 1 [(vI n26)]).bind fun h27=>
some (.inl ([some (vP (List.length h)),some (vP (List.length r8.2))],h27))
else
(if (n19 == (2 : Int)) = true then
((cell r18.2 (List.length r8.2) 2).bind getS).bind fun l28=>
(run (Et base) 138 [(.pointer v0)] r18.2).bind fun r29=>
gG (some r29.1) 4 fun l30=>
l_IITL l30 fun n31 n32 s33 l34=>
(gate (sameA r18.2 r29.2 (some ⟨(List.length r8.2),2,none⟩) 1)
((if 0≤(0 : Int)∧(0 : Int) < ((l28.2 : Nat) : Int) then
((l28.1 : Option Addr)).bind fun a35=>
(wr base r29.2 a35.block (a35.off + Int.toNat (0 : Int) * 4) [(vI n31),(vI n32),(vT s33),(vL l34.1 l34.2)]).bind fun h36=>
some (.inl ([some (vP (List.length h)),some (vP (List.length r8.2))],h36))
else none)))
else
(if (n19 == (3 : Int)) = true then
((cell r18.2 (List.length r8.2) 2).bind getS).bind fun l37=>
(if 0≤(1 : Int)∧(1 : Int)≤((l37.2 : Nat) : Int)∧((l37.2 : Nat) : Int)≤((l37.2 : Nat) : Int)∧okTy base r18.2 l37.1 42 (Int.toNat (1 : Int)) = true then
(wr base r18.2 (List.length r8.2) 2 [(.slice (shiftA l37.1 (Int.toNat (1 : Int) * 4)) (Int.toNat ((l37.2 : Nat) : Int) - Int.toNat (1 : Int)) (Int.toNat ((l37.2 : Nat) : Int) - Int.toNat (1 : Int)))]).bind fun h38=>
some (.inl ([some (vP (List.length h)),some (vP (List.length r8.2))],h38))
else none)
else
(if (n19 == (4 : Int)) = true then
((cell r18.2 (List.length r8.2) 0).bind (getI .i64)).bind fun n39=>
nw1 r18.2 3 [(vI (2 : Int)),(vI (3 : Int)),(vI (4 : Int)),(vI n39)] fun h40=>
(run (Et base) 135 [(.pointer v0),(vL (some ⟨(List.length r18.2),0,none⟩) 4)] h40).bind fun r41=>
((some r41.1).bind (getI .i64)).bind fun n42=>
nw1 r41.2 3 [(vI (3 : Int)),(vI n42)] fun h43=>
(wr base h43 (List.length r8.2) 4 [(vL (some ⟨(List.length r41.2),0,none⟩) 2)]).bind fun h44=>
some (.inl ([some (vP (List.length h)),some (vP (List.length r8.2))],h44))
else
some (.inl ([some (vP (List.length h)),some (vP (List.length r8.2))],r18.2)))))))).bind fun j17=>joinK j17 fun j17=>
j_AA j17.1 fun d45 d46=>
c_IILLL j17.2 d46.block d46.off fun n47 n48 l49 l50 l51=>
(wr base j17.2 d45.block d45.off [(vI n47),(vI n48),(vL l49.1 l49.2),(vL l50.1 l50.2),(vL l51.1 l51.2)]).bind fun h52=>
c_IILLL h52 d45.block d45.off fun n53 n54 l55 l56 l57=>
some ((.agg #[(vI n53),(vI n54),(vL l55.1 l55.2),(vL l56.1 l56.2),(vL l57.1 l57.2)]),h52))
theorem r137 {base : Nat} {v0 : Option Addr} {v1 : Option Addr} {v1n : Nat} {h : AH} {r : Value × AH} (hx : qf137 base v0 v1 v1n h = some r) : run (Et base) 137 [(.pointer v0),(vL v1 v1n)] h = some r:=run_i (an:=a137) Try.func137 (by kernel_rfl) (.trans (by kernel_rfl) hx)
theorem r138 {base : Nat} {v0 : Option Addr} {h : AH} {r : Value × AH} (hx : (nw1 h 42 [(vI 0),(vI 0),(vT ⟨#[]⟩),(vL none 0)] fun h1=>
(run (Et base) 132 [(.pointer v0),(vI (3 : Int))] h1).bind fun r2=>
gG (some r2.1) 4 fun l3=>
l_IITL l3 fun n4 n5 s6 l7=>
nw1 r2.2 42 [(vI 0),(vI 0),(vT ⟨#[]⟩),(vL none 0)] fun h8=>
(wr base h8 (List.length r2.2) 0 [(vI n4),(vI n5),(vT s6),(vL l7.1 l7.2)]).bind fun h9=>
((run (Et base) 156 [(.pointer v0),(vI (5 : Int))] h9).bind fun r11=>
((some r11.1).bind getB).bind fun b12=>
(if b12 = true then
c_IITL r11.2 (List.length r2.2) 0 fun n13 n14 s15 l16=>
(run (Et base) 178 [(.pointer v0),(.agg #[(vI n13),(vI n14),(vT s15),(vL l16.1 l16.2)])] r11.2).bind fun r17=>
gG (some r17.1) 4 fun l18=>
l_IITL l18 fun n19 n20 s21 l22=>
(wr base r17.2 (List.length r2.2) 0 [(vI n19),(vI n20),(vT s21),(vL l22.1 l22.2)]).bind fun h23=>
some (.inl ([some (vP (List.length h)),some (vP (List.length r2.2))],h23))
else
some (.inl ([some (vP (List.length h)),some (vP (List.length r2.2))],r11.2)))).bind fun j10=>joinK j10 fun j10=>
j_AA j10.1 fun d24 d25=>
c_IITL j10.2 d25.block d25.off fun n26 n27 s28 l29=>
(wr base j10.2 d24.block d24.off [(vI n26),(vI n27),(vT s28),(vL l29.1 l29.2)]).bind fun h30=>
c_IITL h30 d24.block d24.off fun n31 n32 s33 l34=>
some ((.agg #[(vI n31),(vI n32),(vT s33),(vL l34.1 l34.2)]),h30)) = some r) : run (Et base) 138 [(.pointer v0)] h = some r:=run_i (an:=a138) Try.func138 (by kernel_rfl) (.trans (by kernel_rfl) hx)
noncomputable abbrev qf139 (base : Nat) (v0_0 : Int) (v0_1 : Int) (v0_2 : Int) (v0_3 : Int) (v0_4 : Int) (v0_5 : ByteArray) (v1 : Int) (h : AH) : Option (Value × AH):=
nw1 h 143 [(vI v0_0),(vI v0_1),(vI v0_2),(vI v0_3),(vI v0_4),(vT v0_5)] fun h1=>
((run (Et base) 83 [(vI v1),(vI (1 : Int)),(vI (200 : Int))] h1).bind fun r3=>
((some r3.1).bind getB).bind fun b4=>
(if (!b4) = true then
some (.inl ([some (vI v1),some (vP (List.length h)),some (.bool true)],r3.2))
else
c_IIIIIT r3.2 (List.length h) 0 fun n5 n6 n7 n8 n9 s10=>
(run (Et base) 179 [(.agg #[(vI n5),(vI n6),(vI n7),(vI n8),(vI n9),(vT s10)])] r3.2).bind fun r11=>
((some r11.1).bind getB).bind fun b12=>
(if (!b12) = true then
some (.inl ([some (vI v1),some (vP (List.length h)),some (.bool true)],r11.2))
else
((cell r11.2 (List.length h) 1).bind (getI .i64)).bind fun n13=>
(run (Et base) 180 [(vI n13)] r11.2).bind fun r14=>
((some r14.1).bind getB).bind fun b15=>
(if (!b15) = true then
some (.inl ([some (vI v1),some (vP (List.length h)),some (.bool true)],r14.2))
else
((cell r14.2 (List.length h) 2).bind (getI .i64)).bind fun n16=>
(run (Et base) 180 [(vI n16)] r14.2).bind fun r17=>
((some r17.1).bind getB).bind fun b18=>
(if (!b18) = true then
some (.inl ([some (vI v1),some (vP (List.length h)),some (.bool true)],r17.2))
else
((cell r17.2 (List.length h) 3).bind (getI .i64)).bind fun n19=>
(run (Et base) 180 [(vI n19)] r17.2).bind fun r20=>
((some r20.1).bind getB).bind fun b21=>
some (.inl ([some (vI v1),some (vP (List.length h)),some (.bool (!b21))],r20.2))))))).bind fun j2=>joinK j2 fun j2=>
j_IAB j2.1 fun n22 d23 b24=>
(if b24 = true then
some ((.bool false),j2.2)
else
((cell j2.2 d23.block (d23.off + 0)).bind (getI .i64)).bind fun n25=>
(if (n25 == (1 : Int)) = true then
((cell j2.2 d23.block (d23.off + 4)).bind (getI .i64)).bind fun n26=>
(run (Et base) 83 [(vI n26),(vI (-1000000 : Int)),(vI (1000000 : Int))] j2.2).bind fun r27=>
((some r27.1).bind getB).bind fun b28=>
some ((.bool b28),r27.2)
else
(if (n25 == (2 : Int)) = true then
((cell j2.2 d23.block (d23.off + 5)).bind getStr).bind fun s29=>
(run (Et base) 158 [(vT s29)] j2.2).bind fun r30=>
((some r30.1).bind getB).bind fun b31=>
some ((.bool b31),r30.2)
else
(if (n25 == (4 : Int)) = true then
((cell j2.2 d23.block (d23.off + 4)).bind (getI .i64)).bind fun n32=>
(run (Et base) 83 [(vI n32),(vI (0 : Int)),(vI (8 : Int))] j2.2).bind fun r33=>
((some r33.1).bind getB).bind fun b34=>
(if b34 = true then
((cell r33.2 d23.block (d23.off + 2)).bind (getI .i64)).bind fun n35=>
((cell r33.2 d23.block (d23.off + 4)).bind (getI .i64)).bind fun n36=>
some ((.bool (decide ((IntKind.wrap .i64 (n35 + n36))≤(8 : Int)))),r33.2)
else
some ((.bool false),r33.2))
else
(if (n25 == (6 : Int)) = true then
((cell j2.2 d23.block (d23.off + 4)).bind (getI .i64)).bind fun n37=>
(run (Et base) 83 [(vI n37),(vI (0 : Int)),(vI (7 : Int))] j2.2).bind fun r38=>
((some r38.1).bind getB).bind fun b39=>
some ((.bool b39),r38.2)
else
(if (n25 == (11 : Int)) = true then
((cell j2.2 d23.block (d23.off + 2)).bind (getI .i64)).bind fun n40=>
(run (Et base) 83 [(vI n40),(vI (1 : Int)),(vI (6 : Int))] j2.2).bind fun r41=>
((some r41.1).bind getB).bind fun b42=>
(if b42 = true then
((cell r41.2 d23.block (d23.off + 4)).bind (getI .i64)).bind fun n43=>
(run (Et base) 83 [(vI n43),(vI (0 : Int)),(vI (IntKind.wrap .i64 (n22 - (1 : Int))))] r41.2).bind fun r44=>
((some r44.1).bind getB).bind fun b45=>
some ((.bool b45),r44.2)
else
some ((.bool false),r41.2))
else
((if (n25 == (10 : Int)) = true then
some (.inl ([some (vI n22),some (vA d23),some (.bool (n25 == (10 : Int)))],j2.2))
else
(if (n25 == (12 : Int)) = true then
some (.inl ([some (vI n22),some (vA d23),some (.bool (n25 == (12 : Int)))],j2.2))
else
some (.inl ([some (vI n22),some (vA d23),some (.bool (n25 == (16 : Int)))],j2.2))))).bind fun j46=>joinK j46 fun j46=>
j_IAB j46.1 fun n47 d48 b49=>
(if b49 = true then
((cell j46.2 d48.block (d48.off + 4)).bind (getI .i64)).bind fun n50=>
(run (Et base) 83 [(vI n50),(vI (0 : Int)),(vI (IntKind.wrap .i64 (n47 - (1 : Int))))] j46.2).bind fun r51=>
((some r51.1).bind getB).bind fun b52=>
some ((.bool b52),r51.2)
else
some ((.bool true),j46.2))))))))
theorem r139 {base : Nat} {v0_0 : Int} {v0_1 : Int} {v0_2 : Int} {v0_3 : Int} {v0_4 : Int} {v0_5 : ByteArray} {v1 : Int} {h : AH} {r : Value × AH} (hx : qf139 base v0_0 v0_1 v0_2 v0_3 v0_4 v0_5 v1 h = some r) : run (Et base) 139 [(.agg #[(vI v0_0),(vI v0_1),(vI v0_2),(vI v0_3),(vI v0_4),(vT v0_5)]),(vI v1)] h = some r:=run_i (an:=a139) Try.func139 (by kernel_rfl) (.trans (by kernel_rfl) hx)
noncomputable abbrev qf140 (base : Nat) (v0_0 : Int) (v0_1 : Int) (v0_2 : Int) (v0_3 : Int) (v0_4 : Int) (v0_5 : ByteArray) (v1 : Int) (h : AH) : Option (Value × AH):=
nw1 h 143 [(vI v0_0),(vI v0_1),(vI v0_2),(vI v0_3),(vI v0_4),(vT v0_5)] fun h1=>
((run (Et base) 90 [(vI v1),(vI (1 : Int)),(vI (200 : Int))] h1).bind fun r3=>
((some r3.1).bind getB).bind fun b4=>
(if (!b4) = true then
some (.inl ([some (vI v1),some (vP (List.length h)),some (.bool true)],r3.2))
else
((cell r3.2 (List.length h) 0).bind (getI .i64)).bind fun n5=>
(run (Et base) 90 [(vI n5),(vI (1 : Int)),(vI (20 : Int))] r3.2).bind fun r6=>
((some r6.1).bind getB).bind fun b7=>
some (.inl ([some (vI v1),some (vP (List.length h)),some (.bool (!b7))],r6.2)))).bind fun j2=>joinK j2 fun j2=>
j_IAB j2.1 fun n8 d9 b10=>
(if b10 = true then
some ((.bool false),j2.2)
else
(run (Et base) 181 [] j2.2).bind fun r11=>
((some r11.1).bind getS).bind fun l12=>
(gate (sameA j2.2 r11.2 (some ⟨d9.block,(d9.off + 0),none⟩) 1)
(((cell r11.2 d9.block (d9.off + 0)).bind (getI .i64)).bind fun n13=>
(if 0≤(IntKind.wrap .i64 (n13 - (1 : Int)))∧(IntKind.wrap .i64 (n13 - (1 : Int))) < ((l12.2 : Nat) : Int) then
((l12.1 : Option Addr)).bind fun a14=>
((cell r11.2 a14.block (a14.off + Int.toNat (IntKind.wrap .i64 (n13 - (1 : Int))) * 1)).bind getStr).bind fun s15=>
(((cell r11.2 d9.block (d9.off + 1)).bind (getI .i64)).bind fun n17=>
(run (Et base) 182 [(vT s15),(.int .u8 (65 : Int)),(vI n17)] r11.2).bind fun r18=>
((some r18.1).bind getB).bind fun b19=>
(if (!b19) = true then
some (.inl ([some (vI n8),some (vA d9),some (.bool true)],r18.2))
else
((cell r18.2 d9.block (d9.off + 3)).bind (getI .i64)).bind fun n20=>
(run (Et base) 182 [(vT s15),(.int .u8 (67 : Int)),(vI n20)] r18.2).bind fun r21=>
((some r21.1).bind getB).bind fun b22=>
(if (!b22) = true then
some (.inl ([some (vI n8),some (vA d9),some (.bool true)],r21.2))
else
((cell r21.2 d9.block (d9.off + 0)).bind (getI .i64)).bind fun n23=>
(if (n23 != (11 : Int)) = true then
((cell r21.2 d9.block (d9.off + 2)).bind (getI .i64)).bind fun n24=>
(run (Et base) 182 [(vT s15),(.int .u8 (66 : Int)),(vI n24)] r21.2).bind fun r25=>
((some r25.1).bind getB).bind fun b26=>
(if (!b26) = true then
some (.inl ([some (vI n8),some (vA d9),some (.bool true)],r25.2))
else
((cell r25.2 d9.block (d9.off + 0)).bind (getI .i64)).bind fun n27=>
(if (n27 == (11 : Int)) = true then
((cell r25.2 d9.block (d9.off + 2)).bind (getI .i64)).bind fun n28=>
(run (Et base) 90 [(vI n28),(vI (1 : Int)),(vI (6 : Int))] r25.2).bind fun r29=>
((some r29.1).bind getB).bind fun b30=>
some (.inl ([some (vI n8),some (vA d9),some (.bool (!b30))],r29.2))
else
some (.inl ([some (vI n8),some (vA d9),some (.bool false)],r25.2))))
else
((cell r21.2 d9.block (d9.off + 0)).bind (getI .i64)).bind fun n31=>
(if (n31 == (11 : Int)) = true then
((cell r21.2 d9.block (d9.off + 2)).bind (getI .i64)).bind fun n32=>
(run (Et base) 90 [(vI n32),(vI (1 : Int)),(vI (6 : Int))] r21.2).bind fun r33=>
((some r33.1).bind getB).bind fun b34=>
some (.inl ([some (vI n8),some (vA d9),some (.bool (!b34))],r33.2))
else
some (.inl ([some (vI n8),some (vA d9),some (.bool false)],r21.2))))))).bind fun j16=>joinK j16 fun j16=>
j_IAB j16.1 fun n35 d36 b37=>
(if b37 = true then
some ((.bool false),j16.2)
else
(((cell j16.2 d36.block (d36.off + 0)).bind (getI .i64)).bind fun n39=>
(if (n39 == (2 : Int)) = true then
((cell j16.2 d36.block (d36.off + 5)).bind getStr).bind fun s40=>
(run (Et base) 183 [(vT s40)] j16.2).bind fun r41=>
((some r41.1).bind getB).bind fun b42=>
(if (!b42) = true then
some (.inl ([some (vI n35),some (vA d36),some (.bool true)],r41.2))
else
((cell r41.2 d36.block (d36.off + 0)).bind (getI .i64)).bind fun n43=>
(if (n43 != (2 : Int)) = true then
((cell r41.2 d36.block (d36.off + 5)).bind getStr).bind fun s44=>
some (.inl ([some (vI n35),some (vA d36),some (.bool (!(s44.toList == (⟨#[]⟩ : ByteArray).toList)))],r41.2))
else
some (.inl ([some (vI n35),some (vA d36),some (.bool false)],r41.2))))
else
((cell j16.2 d36.block (d36.off + 0)).bind (getI .i64)).bind fun n45=>
(if (n45 != (2 : Int)) = true then
((cell j16.2 d36.block (d36.off + 5)).bind getStr).bind fun s46=>
some (.inl ([some (vI n35),some (vA d36),some (.bool (!(s46.toList == (⟨#[]⟩ : ByteArray).toList)))],j16.2))
else
some (.inl ([some (vI n35),some (vA d36),some (.bool false)],j16.2))))).bind fun j38=>joinK j38 fun j38=>
j_IAB j38.1 fun n47 d48 b49=>
(if b49 = true then
some ((.bool false),j38.2)
else
c_IIIIIT j38.2 d48.block d48.off fun n50 n51 n52 n53 n54 s55=>
(run (Et base) 184 [(.agg #[(vI n50),(vI n51),(vI n52),(vI n53),(vI n54),(vT s55)]),(vI n47)] j38.2).bind fun r56=>
((some r56.1).bind getB).bind fun b57=>
some ((.bool b57),r56.2)))
else none))))
theorem r140 {base : Nat} {v0_0 : Int} {v0_1 : Int} {v0_2 : Int} {v0_3 : Int} {v0_4 : Int} {v0_5 : ByteArray} {v1 : Int} {h : AH} {r : Value × AH} (hx : qf140 base v0_0 v0_1 v0_2 v0_3 v0_4 v0_5 v1 h = some r) : run (Et base) 140 [(.agg #[(vI v0_0),(vI v0_1),(vI v0_2),(vI v0_3),(vI v0_4),(vT v0_5)]),(vI v1)] h = some r:=run_i (an:=a140) Try.func140 (by kernel_rfl) (.trans (by kernel_rfl) hx)
noncomputable def B141_0 (base : Nat) : Body:=fun l h=>lay s141_0 l fun s=>exCode (Et base) (run (Et base)) loopL a141_0 (subC [1,0,1,0,0] (bodyC Try.f141)) s h (keepK s141_0 e141_0)
theorem B141_0_eq (base : Nat) (v0 : Option Addr) (v0n : Nat) (v3 : Int) (h : AH) : B141_0 base [some (vL v0 v0n),some (vI v3)] h =
((if (decide (v3 < ((v0n : Nat) : Int))) = true then
(if 0≤v3∧v3 < ((v0n : Nat) : Int) then
((v0 : Option Addr)).bind fun a1=>
((cell h a1.block (a1.off + Int.toNat v3 * 4)).bind (getI .i64)).bind fun n2=>
((cell h a1.block ((a1.off + Int.toNat v3 * 4) + 1)).bind (getI .i64)).bind fun n3=>
((cell h a1.block (((a1.off + Int.toNat v3 * 4) + 1) + 1)).bind getStr).bind fun s4=>
((cell h a1.block ((((a1.off + Int.toNat v3 * 4) + 1) + 1) + 1)).bind getS).bind fun l5=>
(run (Et base) 58 [(.agg #[(.int .i64 n2),(.int .i64 n3),(.string s4),(.slice l5.1 l5.2 l5.2)])] h).bind fun r6=>
((some r6.1).bind getB).bind fun b7=>
(if (!b7) = true then
some (1,[some (.bool false)],r6.2)
else
some (0,[some (.slice v0 v0n v0n),some (.int .i64 (IntKind.wrap .i64 (v3 + (1 : Int))))],r6.2))
else none)
else
some (2,[],h)) : Option (Nat × Slots × AH)):=by kernel_rfl
theorem r141 {base : Nat} {v0 : Option Addr} {v0n : Nat} {h : AH} {r : Value × AH} (hx : ((loopL (B141_0 base) [some (.slice v0 v0n v0n),some (.int .i64 (0 : Int))] h).bind fun q1=>
(if q1.1 = 1 then
((sget q1.2.1 0).bind getB).bind fun b2=>
some ((.bool b2),q1.2.2)
else
(if q1.1 = 2 then
some ((.bool true),q1.2.2)
else
none))) = some r) : run (Et base) 141 [(vL v0 v0n)] h = some r:=run_i (an:=a141) Try.func141 (by kernel_rfl) (.trans (by kernel_rfl) hx)
noncomputable def B142_0 (base : Nat) : Body:=fun l h=>lay s142_0 l fun s=>exCode (Et base) (run (Et base)) loopL a142_0 (subC [1,0,1,0,0] (bodyC Try.f142)) s h (keepK s142_0 e142_0)
theorem B142_0_eq (base : Nat) (v0 : Option Addr) (v0n : Nat) (v1 : Int) (v5 : Int) (h : AH) : B142_0 base [some (vL v0 v0n),some (vI v1),some (vI v5)] h =
((if (decide (v5 < ((v0n : Nat) : Int))) = true then
((if 0≤v5∧v5 < ((v0n : Nat) : Int) then
((v0 : Option Addr)).bind fun a2=>
((cell h a2.block (a2.off + Int.toNat v5 * 1)).bind (getI .i64)).bind fun n3=>
(run (Et base) 90 [(vI n3),(vI (1 : Int)),(vI (99999 : Int))] h).bind fun r4=>
((some r4.1).bind getB).bind fun b5=>
(if (!b5) = true then
some (.inl ([some (vL v0 v0n),some (vI v1),some (vI v5),some (.bool true)],r4.2))
else
(if 0≤v5∧v5 < ((v0n : Nat) : Int) then
((v0 : Option Addr)).bind fun a6=>
((cell r4.2 a6.block (a6.off + Int.toNat v5 * 1)).bind (getI .i64)).bind fun n7=>
(if (n7 == v1) = true then
some (.inl ([some (vL v0 v0n),some (vI v1),some (vI v5),some (.bool true)],r4.2))
else
(if (decide (v5 > (0 : Int))) = true then
(if 0≤(IntKind.wrap .i64 (v5 - (1 : Int)))∧(IntKind.wrap .i64 (v5 - (1 : Int))) < ((v0n : Nat) : Int) then
((v0 : Option Addr)).bind fun a8=>
((cell r4.2 a8.block (a8.off + Int.toNat (IntKind.wrap .i64 (v5 - (1 : Int))) * 1)).bind (getI .i64)).bind fun n9=>
(if 0≤v5∧v5 < ((v0n : Nat) : Int) then
((v0 : Option Addr)).bind fun a10=>
((cell r4.2 a10.block (a10.off + Int.toNat v5 * 1)).bind (getI .i64)).bind fun n11=>
some (.inl ([some (vL v0 v0n),some (vI v1),some (vI v5),some (.bool (decide (n9 ≥ n11)))],r4.2))
else none)
else none)
else
some (.inl ([some (vL v0 v0n),some (vI v1),some (vI v5),some (.bool false)],r4.2))))
else none))
else none)).bind fun j1=>joinK j1 fun j1=>
j_LIIB j1.1 fun l12 n13 n14 b15=>
(if b15 = true then
some (1,[some (.bool false)],j1.2)
else
some (0,[some (vL l12.1 l12.2),some (vI n13),some (vI (IntKind.wrap .i64 (n14 + (1 : Int))))],j1.2))
else
some (2,[some (vL v0 v0n)],h)) : Option (Nat × Slots × AH)):=by kernel_rfl
theorem r142 {base : Nat} {v0 : Option Addr} {v0n : Nat} {v1 : Int} {h : AH} {r : Value × AH} (hx : ((loopL (B142_0 base) [some (.slice v0 v0n v0n),some (.int .i64 v1),some (.int .i64 (0 : Int))] h).bind fun q1=>
(if q1.1 = 1 then
((sget q1.2.1 0).bind getB).bind fun b2=>
some ((.bool b2),q1.2.2)
else
(if q1.1 = 2 then
((sget q1.2.1 0).bind getS).bind fun l3=>
some ((.bool (decide (((l3.2 : Nat) : Int)≤(50 : Int)))),q1.2.2)
else
none))) = some r) : run (Et base) 142 [(vL v0 v0n),(vI v1)] h = some r:=run_i (an:=a142) Try.func142 (by kernel_rfl) (.trans (by kernel_rfl) hx)
noncomputable def B143_0 (base : Nat) : Body:=fun l h=>lay s143_0 l fun s=>exCode (Et base) (run (Et base)) loopL a143_0 (subC [1,0,1,0,0] (bodyC Try.f143)) s h (keepK s143_0 e143_0)
theorem B143_0_eq (base : Nat) (v0 : Option Addr) (v0n : Nat) (v1 : Int) (v5 : Int) (h : AH) : B143_0 base [some (vL v0 v0n),some (vI v1),some (vI v5)] h =
((if (decide (v5 < ((v0n : Nat) : Int))) = true then
(if 0≤v5∧v5 < ((v0n : Nat) : Int) then
((v0 : Option Addr)).bind fun a1=>
((cell h a1.block (a1.off + Int.toNat v5 * 1)).bind (getI .i64)).bind fun n2=>
(if (n2 == v1) = true then
some (1,[some (.bool true)],h)
else
some (0,[some (.slice v0 v0n v0n),some (.int .i64 v1),some (.int .i64 (IntKind.wrap .i64 (v5 + (1 : Int))))],h))
else none)
else
some (2,[],h)) : Option (Nat × Slots × AH)):=by kernel_rfl
theorem r143 {base : Nat} {v0 : Option Addr} {v0n : Nat} {v1 : Int} {h : AH} {r : Value × AH} (hx : ((loopL (B143_0 base) [some (.slice v0 v0n v0n),some (.int .i64 v1),some (.int .i64 (0 : Int))] h).bind fun q1=>
(if q1.1 = 1 then
((sget q1.2.1 0).bind getB).bind fun b2=>
some ((.bool b2),q1.2.2)
else
(if q1.1 = 2 then
some ((.bool false),q1.2.2)
else
none))) = some r) : run (Et base) 143 [(vL v0 v0n),(vI v1)] h = some r:=run_i (an:=a143) Try.func143 (by kernel_rfl) (.trans (by kernel_rfl) hx)
theorem r156 {base : Nat} {v0 : Option Addr} {v1 : Int} {h : AH} {r : Value × AH} (hx : ((run (Et base) 133 [(.pointer v0),(.int .i64 v1)] h).bind fun r1=>
((some r1.1).bind (getI .i64)).bind fun n2=>
some ((.bool (n2 == (0 : Int))),r1.2)) = some r) : run (Et base) 156 [(.pointer v0),(vI v1)] h = some r:=run_i (an:=a156) Try.func156 (by kernel_rfl) (.trans (by kernel_rfl) hx)
noncomputable def B158_0 (base : Nat) : Body:=fun l h=>lay s158_0 l fun s=>exCode (Et base) (run (Et base)) loopL a158_0 (subC [1,0,1,0,0] (bodyC Try.f158)) s h (keepK s158_0 e158_0)
theorem B158_0_eq (base : Nat) (v0 : ByteArray) (v3 : Int) (h : AH) : B158_0 base [some (vT v0),some (vI v3)] h =
((if (decide (v3 < (v0.size : Int))) = true then
((if 0≤v3∧v3 < (v0.size : Int) then
(run (Et base) 194 [(.int .u8 ((v0.data.toList.getD (Int.toNat v3) 0).toNat : Int))] h).bind fun r2=>
((some r2.1).bind getB).bind fun b3=>
(if (!b3) = true then
(if (v3 == (0 : Int)) = true then
some (.inl ([some (.string v0),some (.int .i64 v3),some (.bool true)],r2.2))
else
(if 0≤v3∧v3 < (v0.size : Int) then
(run (Et base) 195 [(.int .u8 ((v0.data.toList.getD (Int.toNat v3) 0).toNat : Int))] r2.2).bind fun r4=>
((some r4.1).bind getB).bind fun b5=>
some (.inl ([some (.string v0),some (.int .i64 v3),some (.bool (!b5))],r4.2))
else none))
else
some (.inl ([some (.string v0),some (.int .i64 v3),some (.bool false)],r2.2)))
else none)).bind fun j1=>joinK j1 fun j1=>
((sget j1.1 0).bind getStr).bind fun s6=>
((sget (j1.1.tail) 0).bind (getI .i64)).bind fun n7=>
((sget (j1.1.tail.tail) 0).bind getB).bind fun b8=>
(if b8 = true then
some (1,[some (.bool false)],j1.2)
else
some (0,[some (.string s6),some (.int .i64 (IntKind.wrap .i64 (n7 + (1 : Int))))],j1.2))
else
some (2,[some (.string v0)],h)) : Option (Nat × Slots × AH)):=by kernel_rfl
theorem r158 {base : Nat} {v0 : ByteArray} {h : AH} {r : Value × AH} (hx : ((loopL (B158_0 base) [some (.string v0),some (.int .i64 (0 : Int))] h).bind fun q1=>
(if q1.1 = 1 then
((sget q1.2.1 0).bind getB).bind fun b2=>
some ((.bool b2),q1.2.2)
else
(if q1.1 = 2 then
((sget q1.2.1 0).bind getStr).bind fun s3=>
(run (Et base) 83 [(.int .i64 (s3.size : Int)),(.int .i64 (1 : Int)),(.int .i64 (12 : Int))] q1.2.2).bind fun r4=>
((some r4.1).bind getB).bind fun b5=>
some ((.bool b5),r4.2)
else
none))) = some r) : run (Et base) 158 [(vT v0)] h = some r:=run_i (an:=a158) Try.func158 (by kernel_rfl) (.trans (by kernel_rfl) hx)
noncomputable def B163_0 (base : Nat) : Body:=fun l h=>lay s163_0 l fun s=>exCode (Et base) (run (Et base)) loopL a163_0 (subC [1,1,0,1,0,0] (bodyC Try.f163)) s h (keepK s163_0 e163_0)
theorem B163_0_eq (base : Nat) (v0 : Option Addr) (v0n : Nat) (v3 : Option Addr) (v3n : Nat) (v4 : Int) (h : AH) : B163_0 base [some (vL v0 v0n),some (vL v3 v3n),some (vI v4)] h =
((if (decide (v4 < ((v0n : Nat) : Int))) = true then
(if 0≤v4∧v4 < ((v0n : Nat) : Int) then
((v0 : Option Addr)).bind fun a1=>
((cell h a1.block (a1.off + Int.toNat v4 * 4)).bind (getI .i64)).bind fun n2=>
((cell h a1.block ((a1.off + Int.toNat v4 * 4) + 1)).bind (getI .i64)).bind fun n3=>
((cell h a1.block (((a1.off + Int.toNat v4 * 4) + 1) + 1)).bind getStr).bind fun s4=>
((cell h a1.block ((((a1.off + Int.toNat v4 * 4) + 1) + 1) + 1)).bind getS).bind fun l5=>
(run (Et base) 116 [(.agg #[(.int .i64 n2),(.int .i64 n3),(.string s4),(.slice l5.1 l5.2 l5.2)])] h).bind fun r6=>
((some r6.1).bind (getAgg 4)).bind fun l7=>
((l7[0]?).bind (getI .i64)).bind fun n8=>
((l7[1]?).bind (getI .i64)).bind fun n9=>
((l7[2]?).bind getStr).bind fun s10=>
((l7[3]?).bind getS).bind fun l11=>
(some (r6.2++[some ⟨[(.int .i64 n8),(.int .i64 n9),(.string s10),(.slice l11.1 l11.2 l11.2)],42⟩])).bind fun h12=>
(app base h12 42 4 56 v3 v3n (rawAt h12 (some ⟨(List.length r6.2),0,none⟩) (1 * 4)) 1).bind fun p13=>
((some p13.1).bind getS).bind fun l14=>
some (0,[some (.slice v0 v0n v0n),some (.slice l14.1 l14.2 l14.2),some (.int .i64 (IntKind.wrap .i64 (v4 + (1 : Int))))],p13.2)
else none)
else
some (2,[some (.slice v3 v3n v3n)],h)) : Option (Nat × Slots × AH)):=by kernel_rfl
theorem r163 {base : Nat} {v0 : Option Addr} {v0n : Nat} {h : AH} {r : Value × AH} (hx : ((some (h++[some ⟨[],42⟩])).bind fun h1=>
(loopL (B163_0 base) [some (.slice v0 v0n v0n),some (.slice (some ⟨(List.length h),0,none⟩) 0 0),some (.int .i64 (0 : Int))] h1).bind fun q2=>
(if q2.1 = 2 then
((sget q2.2.1 0).bind getS).bind fun l3=>
some ((.slice l3.1 l3.2 l3.2),q2.2.2)
else
none)) = some r) : run (Et base) 163 [(vL v0 v0n)] h = some r:=run_i (an:=a163) Try.func163 (by kernel_rfl) (.trans (by kernel_rfl) hx)
noncomputable abbrev qf164 (base : Nat) (v0_0 : Int) (v0_1 : Int) (v0_2 : ByteArray) (v0_3 : Option Addr) (v0_3n : Nat) (h : AH) : Option (Value × AH):=
nw1 h 42 [(vI v0_0),(vI v0_1),(vT v0_2),(vL v0_3 v0_3n)] fun h1=>
((cell h1 (List.length h) 3).bind getS).bind fun l2=>
((cell h1 (List.length h) 0).bind (getI .i64)).bind fun n3=>
(if (n3 == (1 : Int)) = true then
((cell h1 (List.length h) 1).bind (getI .i64)).bind fun n4=>
(run (Et base) 90 [(vI n4),(vI (-1000000 : Int)),(vI (1000000 : Int))] h1).bind fun r5=>
((some r5.1).bind getB).bind fun b6=>
(if b6 = true then
((cell r5.2 (List.length h) 2).bind getStr).bind fun s7=>
(if (s7.toList == (⟨#[]⟩ : ByteArray).toList) = true then
some ((.bool (((l2.2 : Nat) : Int) == (0 : Int))),r5.2)
else
some ((.bool false),r5.2))
else
some ((.bool false),r5.2))
else
(if (n3 == (2 : Int)) = true then
((cell h1 (List.length h) 2).bind getStr).bind fun s8=>
(run (Et base) 183 [(vT s8)] h1).bind fun r9=>
((some r9.1).bind getB).bind fun b10=>
(if b10 = true then
((cell r9.2 (List.length h) 1).bind (getI .i64)).bind fun n11=>
(if (n11 == (0 : Int)) = true then
some ((.bool (((l2.2 : Nat) : Int) == (0 : Int))),r9.2)
else
some ((.bool false),r9.2))
else
some ((.bool false),r9.2))
else
(if (n3 == (3 : Int)) = true then
((cell h1 (List.length h) 1).bind (getI .i64)).bind fun n12=>
(run (Et base) 90 [(vI n12),(vI (0 : Int)),(vI (99999 : Int))] h1).bind fun r13=>
((some r13.1).bind getB).bind fun b14=>
(if b14 = true then
((cell r13.2 (List.length h) 2).bind getStr).bind fun s15=>
(if (s15.toList == (⟨#[]⟩ : ByteArray).toList) = true then
some ((.bool (((l2.2 : Nat) : Int) == (0 : Int))),r13.2)
else
some ((.bool false),r13.2))
else
some ((.bool false),r13.2))
else
(if (n3 == (4 : Int)) = true then
((cell h1 (List.length h) 1).bind (getI .i64)).bind fun n16=>
(if (n16 == (0 : Int)) = true then
((cell h1 (List.length h) 2).bind getStr).bind fun s17=>
(if (s17.toList == (⟨#[]⟩ : ByteArray).toList) = true then
some ((.bool (decide (((l2.2 : Nat) : Int)≤(8 : Int)))),h1)
else
some ((.bool false),h1))
else
some ((.bool false),h1))
else
(if (n3 == (5 : Int)) = true then
((cell h1 (List.length h) 1).bind (getI .i64)).bind fun n18=>
(if (n18 == (0 : Int)) = true then
((cell h1 (List.length h) 2).bind getStr).bind fun s19=>
(if (s19.toList == (⟨#[]⟩ : ByteArray).toList) = true then
some ((.bool (decide (((l2.2 : Nat) : Int)≤(20 : Int)))),h1)
else
some ((.bool false),h1))
else
some ((.bool false),h1))
else
(if (n3 == (6 : Int)) = true then
((cell h1 (List.length h) 1).bind (getI .i64)).bind fun n20=>
(if (n20 == (0 : Int)) = true then
((cell h1 (List.length h) 2).bind getStr).bind fun s21=>
(if (decide ((s21.size : Int)≤(40 : Int))) = true then
some ((.bool (((l2.2 : Nat) : Int) == (0 : Int))),h1)
else
some ((.bool false),h1))
else
some ((.bool false),h1))
else
some ((.bool false),h1)))))))
theorem r164 {base : Nat} {v0_0 : Int} {v0_1 : Int} {v0_2 : ByteArray} {v0_3 : Option Addr} {v0_3n : Nat} {h : AH} {r : Value × AH} (hx : qf164 base v0_0 v0_1 v0_2 v0_3 v0_3n h = some r) : run (Et base) 164 [(.agg #[(vI v0_0),(vI v0_1),(vT v0_2),(vL v0_3 v0_3n)])] h = some r:=run_i (an:=a164) Try.func164 (by kernel_rfl) (.trans (by kernel_rfl) hx)
noncomputable abbrev qf166 (base : Nat) (v0_0 : Int) (v0_1 : Int) (v0_2 : ByteArray) (v0_3 : Option Addr) (v0_3n : Nat) (h : AH) : Option (Value × AH):=
nw1 h 42 [(vI v0_0),(vI v0_1),(vT v0_2),(vL v0_3 v0_3n)] fun h1=>
((cell h1 (List.length h) 0).bind (getI .i64)).bind fun n2=>
(if (n2 == (1 : Int)) = true then
((cell h1 (List.length h) 1).bind (getI .i64)).bind fun n3=>
(run (Et base) 83 [(vI n3),(vI (-1000000 : Int)),(vI (1000000 : Int))] h1).bind fun r4=>
((some r4.1).bind getB).bind fun b5=>
(if b5 = true then
((cell r4.2 (List.length h) 2).bind getStr).bind fun s6=>
(if (s6.toList == (⟨#[]⟩ : ByteArray).toList) = true then
((cell r4.2 (List.length h) 3).bind getS).bind fun l7=>
some ((.bool (((l7.2 : Nat) : Int) == (0 : Int))),r4.2)
else
some ((.bool false),r4.2))
else
some ((.bool false),r4.2))
else
(if (n2 == (2 : Int)) = true then
((cell h1 (List.length h) 1).bind (getI .i64)).bind fun n8=>
(if (n8 == (0 : Int)) = true then
((cell h1 (List.length h) 2).bind getStr).bind fun s9=>
(run (Et base) 158 [(vT s9)] h1).bind fun r10=>
((some r10.1).bind getB).bind fun b11=>
(if b11 = true then
((cell r10.2 (List.length h) 3).bind getS).bind fun l12=>
some ((.bool (((l12.2 : Nat) : Int) == (0 : Int))),r10.2)
else
some ((.bool false),r10.2))
else
some ((.bool false),h1))
else
(if (n2 == (3 : Int)) = true then
((cell h1 (List.length h) 1).bind (getI .i64)).bind fun n13=>
(run (Et base) 83 [(vI n13),(vI (0 : Int)),(vI (99999 : Int))] h1).bind fun r14=>
((some r14.1).bind getB).bind fun b15=>
(if b15 = true then
((cell r14.2 (List.length h) 2).bind getStr).bind fun s16=>
(if (s16.toList == (⟨#[]⟩ : ByteArray).toList) = true then
((cell r14.2 (List.length h) 3).bind getS).bind fun l17=>
some ((.bool (((l17.2 : Nat) : Int) == (0 : Int))),r14.2)
else
some ((.bool false),r14.2))
else
some ((.bool false),r14.2))
else
(if (n2 == (4 : Int)) = true then
((cell h1 (List.length h) 1).bind (getI .i64)).bind fun n18=>
(if (n18 == (0 : Int)) = true then
((cell h1 (List.length h) 2).bind getStr).bind fun s19=>
(if (s19.toList == (⟨#[]⟩ : ByteArray).toList) = true then
((cell h1 (List.length h) 3).bind getS).bind fun l20=>
some ((.bool (decide (((l20.2 : Nat) : Int)≤(8 : Int)))),h1)
else
some ((.bool false),h1))
else
some ((.bool false),h1))
else
(if (n2 == (5 : Int)) = true then
((cell h1 (List.length h) 1).bind (getI .i64)).bind fun n21=>
(if (n21 == (0 : Int)) = true then
((cell h1 (List.length h) 2).bind getStr).bind fun s22=>
(if (s22.toList == (⟨#[]⟩ : ByteArray).toList) = true then
((cell h1 (List.length h) 3).bind getS).bind fun l23=>
some ((.bool (decide (((l23.2 : Nat) : Int)≤(20 : Int)))),h1)
else
some ((.bool false),h1))
else
some ((.bool false),h1))
else
(if (n2 == (6 : Int)) = true then
((cell h1 (List.length h) 1).bind (getI .i64)).bind fun n24=>
(if (n24 == (0 : Int)) = true then
((cell h1 (List.length h) 2).bind getStr).bind fun s25=>
(if (decide ((s25.size : Int)≤(40 : Int))) = true then
((cell h1 (List.length h) 3).bind getS).bind fun l26=>
some ((.bool (((l26.2 : Nat) : Int) == (0 : Int))),h1)
else
some ((.bool false),h1))
else
some ((.bool false),h1))
else
some ((.bool false),h1)))))))
theorem r166 {base : Nat} {v0_0 : Int} {v0_1 : Int} {v0_2 : ByteArray} {v0_3 : Option Addr} {v0_3n : Nat} {h : AH} {r : Value × AH} (hx : qf166 base v0_0 v0_1 v0_2 v0_3 v0_3n h = some r) : run (Et base) 166 [(.agg #[(vI v0_0),(vI v0_1),(vT v0_2),(vL v0_3 v0_3n)])] h = some r:=run_i (an:=a166) Try.func166 (by kernel_rfl) (.trans (by kernel_rfl) hx)
noncomputable def B167_0 (base : Nat) : Body:=fun l h=>lay s167_0 l fun s=>exCode (Et base) (run (Et base)) loopL a167_0 (subC [1,1,1,0,1,0,0] (bodyC Try.f167)) s h (keepK s167_0 e167_0)
theorem B167_0_eq (base : Nat) (v6 : Addr) (v7 : Addr) (v8 : Int) (h : AH) : B167_0 base [some (vA v6),some (vA v7),some (vI v8)] h =
((if (decide (v8 < (8 : Int))) = true then
((cell h v7.block (v7.off + 2)).bind getS).bind fun l1=>
(run (Et base) 201 [(.int .i64 (0 : Int))] h).bind fun r2=>
((some r2.1).bind (getAgg 4)).bind fun l3=>
((l3[0]?).bind (getI .i64)).bind fun n4=>
((l3[1]?).bind (getI .i64)).bind fun n5=>
((l3[2]?).bind getStr).bind fun s6=>
((l3[3]?).bind getS).bind fun l7=>
(gate (sameA h r2.2 (some ⟨v7.block,(v7.off + 2),none⟩) 1)
((gate (neA (some ⟨v7.block,(v7.off + 2),none⟩) (List.length r2.2))
((some (r2.2++[some ⟨[(.int .i64 n4),(.int .i64 n5),(.string s6),(.slice l7.1 l7.2 l7.2)],42⟩])).bind fun h8=>
(app base h8 42 4 56 l1.1 l1.2 (rawAt h8 (some ⟨(List.length r2.2),0,none⟩) (1 * 4)) 1).bind fun p9=>
((some p9.1).bind getS).bind fun l10=>
(wr base p9.2 v7.block (v7.off + 2) [(.slice l10.1 l10.2 l10.2)]).bind fun h11=>
some (0,[some (.pointer (some v6)),some (.pointer (some v7)),some (.int .i64 (IntKind.wrap .i64 (v8 + (1 : Int))))],h11)))))
else
some (2,[some (.pointer (some v6)),some (.pointer (some v7))],h)) : Option (Nat × Slots × AH)):=by kernel_rfl
noncomputable abbrev qf167 (base : Nat) (v0 : Int) (v1 : Int) (v2_0 : Int) (v2_1 : Int) (v2_2 : ByteArray) (v2_3 : Option Addr) (v2_3n : Nat) (h : AH) : Option (Value × AH):=
nw1 h 42 [(vI v2_0),(vI v2_1),(vT v2_2),(vL v2_3 v2_3n)] fun h1=>
nw1 h1 54 [(vI 0),(vI 0),(vL none 0),(vL none 0),(vL none 0)] fun h2=>
((run (Et base) 90 [(vI v0),(vI (1 : Int)),(vI (99999 : Int))] h2).bind fun r4=>
((some r4.1).bind getB).bind fun b5=>
(if (!b5) = true then
some (.inl ([some (vI v0),some (vI v1),some (vP (List.length h)),some (vP (List.length h1)),some (.bool true)],r4.2))
else
(if (decide (v1 < (0 : Int))) = true then
some (.inl ([some (vI v0),some (vI v1),some (vP (List.length h)),some (vP (List.length h1)),some (.bool true)],r4.2))
else
c_IITL r4.2 (List.length h) 0 fun n6 n7 s8 l9=>
(run (Et base) 58 [(.agg #[(vI n6),(vI n7),(vT s8),(vL l9.1 l9.2)])] r4.2).bind fun r10=>
((some r10.1).bind getB).bind fun b11=>
some (.inl ([some (vI v0),some (vI v1),some (vP (List.length h)),some (vP (List.length h1)),some (.bool (!b11))],r10.2))))).bind fun j3=>joinK j3 fun j3=>
j_IIAAB j3.1 fun n12 n13 d14 d15 b16=>
(if b16 = true then
(wr base j3.2 d15.block d15.off [(vI (0 : Int)),(vI (0 : Int)),(vL none 0),(vL none 0),(vL none 0)]).bind fun h17=>
c_IILLL h17 d15.block d15.off fun n18 n19 l20 l21 l22=>
some ((.agg #[(vI n18),(vI n19),(vL l20.1 l20.2),(vL l21.1 l21.2),(vL l22.1 l22.2)]),h17)
else
c_IITL j3.2 d14.block d14.off fun n23 n24 s25 l26=>
(run (Et base) 116 [(.agg #[(vI n23),(vI n24),(vT s25),(vL l26.1 l26.2)])] j3.2).bind fun r27=>
gG (some r27.1) 4 fun l28=>
l_IITL l28 fun n29 n30 s31 l32=>
nw1 r27.2 42 [(vI n29),(vI n30),(vT s31),(vL l32.1 l32.2)] fun h33=>
nw1 h33 54 [(vI 0),(vI 0),(vL none 0),(vL none 0),(vL none 0)] fun h34=>
(wr base h34 (List.length h33) 0 [(vI n12),(vI n13),(vL (some ⟨(List.length r27.2),0,none⟩) 1),(vL none 0),(vL none 0)]).bind fun h35=>
(loopL (B167_0 base) [some (vA d15),some (vP (List.length h33)),some (vI (1 : Int))] h35).bind fun q36=>
(if q36.1 = 2 then
j_AA q36.2.1 fun d37 d38=>
c_IILLL q36.2.2 d38.block d38.off fun n39 n40 l41 l42 l43=>
(wr base q36.2.2 d37.block d37.off [(vI n39),(vI n40),(vL l41.1 l41.2),(vL l42.1 l42.2),(vL l43.1 l43.2)]).bind fun h44=>
c_IILLL h44 d37.block d37.off fun n45 n46 l47 l48 l49=>
some ((.agg #[(vI n45),(vI n46),(vL l47.1 l47.2),(vL l48.1 l48.2),(vL l49.1 l49.2)]),h44)
else
none))
theorem r167 {base : Nat} {v0 : Int} {v1 : Int} {v2_0 : Int} {v2_1 : Int} {v2_2 : ByteArray} {v2_3 : Option Addr} {v2_3n : Nat} {h : AH} {r : Value × AH} (hx : qf167 base v0 v1 v2_0 v2_1 v2_2 v2_3 v2_3n h = some r) : run (Et base) 167 [(vI v0),(vI v1),(.agg #[(vI v2_0),(vI v2_1),(vT v2_2),(vL v2_3 v2_3n)])] h = some r:=run_i (an:=a167) Try.func167 (by kernel_rfl) (.trans (by kernel_rfl) hx)
theorem r168 {base : Nat} {v0 : Option Addr} {v0n : Nat} {v1 : Int} {v2 : Int} {v3_0 : Int} {v3_1 : Int} {v3_2 : ByteArray} {v3_3 : Option Addr} {v3_3n : Nat} {h : AH} {r : Value × AH} (hx : ((some (h++[some ⟨[(.int .i64 v3_0),(.int .i64 v3_1),(.string v3_2),(.slice v3_3 v3_3n v3_3n)],42⟩])).bind fun h1=>
(if (decide (((v0n : Nat) : Int) ≥ (500 : Int))) = true then
some ((.slice v0 v0n v0n),h1)
else
((cell h1 (List.length h) 0).bind (getI .i64)).bind fun n2=>
((cell h1 (List.length h) 1).bind (getI .i64)).bind fun n3=>
((cell h1 (List.length h) 2).bind getStr).bind fun s4=>
((cell h1 (List.length h) 3).bind getS).bind fun l5=>
(run (Et base) 116 [(.agg #[(.int .i64 n2),(.int .i64 n3),(.string s4),(.slice l5.1 l5.2 l5.2)])] h1).bind fun r6=>
((some r6.1).bind (getAgg 4)).bind fun l7=>
((l7[0]?).bind (getI .i64)).bind fun n8=>
((l7[1]?).bind (getI .i64)).bind fun n9=>
((l7[2]?).bind getStr).bind fun s10=>
((l7[3]?).bind getS).bind fun l11=>
(some (r6.2++[some ⟨[(.int .i64 v1),(.int .i64 v2),(.int .i64 n8),(.int .i64 n9),(.string s10),(.slice l11.1 l11.2 l11.2)],140⟩])).bind fun h12=>
(app base h12 140 6 72 v0 v0n (rawAt h12 (some ⟨(List.length r6.2),0,none⟩) (1 * 6)) 1).bind fun p13=>
((some p13.1).bind getS).bind fun l14=>
some ((.slice l14.1 l14.2 l14.2),p13.2))) = some r) : run (Et base) 168 [(vL v0 v0n),(vI v1),(vI v2),(.agg #[(vI v3_0),(vI v3_1),(vT v3_2),(vL v3_3 v3_3n)])] h = some r:=run_i (an:=a168) Try.func168 (by kernel_rfl) (.trans (by kernel_rfl) hx)
noncomputable def B169_0 (base : Nat) : Body:=fun l h=>lay s169_0 l fun s=>exCode (Et base) (run (Et base)) loopL a169_0 (subC [1,1,1,1,1,1,0,1,0,0] (bodyC Try.f169)) s h (keepK s169_0 e169_0)
theorem B169_0_eq (base : Nat) (v4 : Option Addr) (v4n : Nat) (v5 : Option Addr) (v5n : Nat) (v6 : Int) (v7 : Option Addr) (v7n : Nat) (v8 : Int) (h : AH) : B169_0 base [some (vL v4 v4n),some (vL v5 v5n),some (vI v6),some (vL v7 v7n),some (vI v8)] h =
((if (decide (v8 < v6)) = true then
(if 0≤v8∧v8 < ((v5n : Nat) : Int) then
((v5 : Option Addr)).bind fun a1=>
((cell h a1.block (a1.off + Int.toNat v8 * 1)).bind getStr).bind fun s2=>
(run (Et base) 203 [(vT s2)] h).bind fun r3=>
(getTup 2 r3.1).bind fun l4=>
gG (l4[0]?) 6 fun l5=>
l_IIIIIT l5 fun n6 n7 n8 n9 n10 s11=>
((l4[1]?).bind getB).bind fun b12=>
nw1 r3.2 143 [(vI 0),(vI 0),(vI 0),(vI 0),(vI 0),(vT ⟨#[]⟩)] fun h13=>
(wr base h13 (List.length r3.2) 0 [(vI n6),(vI n7),(vI n8),(vI n9),(vI n10),(vT s11)]).bind fun h14=>
(if (!b12) = true then
some (1,[some (vL v4 v4n),some (.bool false)],h14)
else
c_IIIIIT h14 (List.length r3.2) 0 fun n15 n16 n17 n18 n19 s20=>
nw1 h14 143 [(vI n15),(vI n16),(vI n17),(vI n18),(vI n19),(vT s20)] fun h21=>
(app base h21 143 6 56 v7 v7n (rawAt h21 (some ⟨(List.length h14),0,none⟩) (1 * 6)) 1).bind fun p22=>
((some p22.1).bind getS).bind fun l23=>
some (0,[some (vL v4 v4n),some (vL v5 v5n),some (vI v6),some (vL l23.1 l23.2),some (vI (IntKind.wrap .i64 (v8 + (1 : Int))))],p22.2))
else none)
else
some (2,[some (vL v4 v4n),some (vL v7 v7n)],h)) : Option (Nat × Slots × AH)):=by kernel_rfl
theorem r169 {base : Nat} {v0 : ByteArray} {h : AH} {r : Value × AH} (hx : (nw1 h 143 [] fun h1=>
(run (Et base) 202 [(vT v0),(.int .u8 (10 : Int))] h1).bind fun r2=>
((some r2.1).bind getS).bind fun l3=>
(if 0≤(IntKind.wrap .i64 (((l3.2 : Nat) : Int) - (1 : Int)))∧(IntKind.wrap .i64 (((l3.2 : Nat) : Int) - (1 : Int))) < ((l3.2 : Nat) : Int) then
((l3.1 : Option Addr)).bind fun a4=>
((cell r2.2 a4.block (a4.off + Int.toNat (IntKind.wrap .i64 (((l3.2 : Nat) : Int) - (1 : Int))) * 1)).bind getStr).bind fun s5=>
(if (!(s5.toList == (⟨#[]⟩ : ByteArray).toList)) = true then
some ((.tuple #[(vL (some ⟨(List.length h),0,none⟩) 0),(.bool false)]),r2.2)
else
nw1 r2.2 143 [] fun h6=>
(loopL (B169_0 base) [some (vL (some ⟨(List.length h),0,none⟩) 0),some (vL l3.1 l3.2),some (vI (IntKind.wrap .i64 (((l3.2 : Nat) : Int) - (1 : Int)))),some (vL (some ⟨(List.length r2.2),0,none⟩) 0),some (vI (0 : Int))] h6).bind fun q7=>
(if q7.1 = 1 then
j_LB q7.2.1 fun l8 b9=>
some ((.tuple #[(vL l8.1 l8.2),(.bool b9)]),q7.2.2)
else
(if q7.1 = 2 then
j_LL q7.2.1 fun l10 l11=>
(run (Et base) 89 [(vL l11.1 l11.2)] q7.2.2).bind fun r12=>
((some r12.1).bind getB).bind fun b13=>
(if (!b13) = true then
some ((.tuple #[(vL l10.1 l10.2),(.bool false)]),r12.2)
else
some ((.tuple #[(vL l11.1 l11.2),(.bool true)]),r12.2))
else
none)))
else none)) = some r) : run (Et base) 169 [(vT v0)] h = some r:=run_i (an:=a169) Try.func169 (by kernel_rfl) (.trans (by kernel_rfl) hx)
theorem r170 {base : Nat}  {h : AH} {r : Value × AH} (hx : (nw1 h 9 [(vT (⟨#[116,97,107,101,32,48,10,107,105,110,100,32,48,32,50,32,53,10,115,97,121,32,48,10,106,117,109,112,32,48,10,110,105,108,32,49,10,104,101,97,100,32,49,32,48,10,116,97,105,108,32,50,32,48,10,115,97,121,32,49,10,106,117,109,112,32,48,10]⟩ : ByteArray)),(vT (⟨#[116,97,107,101,32,48,10,115,101,108,102,32,49,10,105,110,116,32,50,32,49,10,116,117,112,108,101,32,51,32,48,32,51,10,101,108,101,109,32,52,32,51,32,50,10,97,100,100,32,53,32,52,32,50,10,115,97,121,32,51,10,115,97,109,101,32,48,32,49,32,49,48,10,115,101,110,100,32,49,32,53,10,106,117,109,112,32,48,10,115,101,110,100,32,48,32,51,10,106,117,109,112,32,48,10]⟩ : ByteArray)),(vT (⟨#[105,110,116,32,49,32,48,10,116,97,107,101,32,48,10,107,105,110,100,32,48,32,49,32,53,10,97,100,100,32,49,32,49,32,48,10,106,117,109,112,32,49,10,115,97,121,32,49,10,101,110,100,32,48,10]⟩ : ByteArray)),(vT (⟨#[116,97,107,101,32,48,10,109,97,107,101,32,49,32,48,32,52,10,108,105,110,107,32,49,10,106,117,109,112,32,48,10,115,101,108,102,32,50,10,115,97,121,32,48,10,116,97,107,101,32,51,10,101,110,100,32,51,10]⟩ : ByteArray)),(vT (⟨#[110,105,108,32,49,10,116,97,107,101,32,48,10,99,111,110,115,32,49,32,48,32,49,10,115,97,121,32,49,10,106,117,109,112,32,49,10]⟩ : ByteArray)),(vT (⟨#[116,97,107,101,32,48,10,101,110,100,32,48,10]⟩ : ByteArray))] fun h1=>
some ((vL (some ⟨(List.length h),0,none⟩) 6),h1)) = some r) : run (Et base) 170 [] h = some r:=run_i (an:=a170) Try.func170 (by kernel_rfl) (.trans (by kernel_rfl) hx)
noncomputable abbrev qf171 (base : Nat) (v0 : Option Addr) (v1 : Int) (h : AH) : Option (Value × AH):=
nw1 h 143 [(vI 0),(vI 0),(vI 0),(vI 0),(vI 0),(vT ⟨#[]⟩)] fun h1=>
(run (Et base) 133 [(.pointer v0),(vI (20 : Int))] h1).bind fun r2=>
((some r2.1).bind (getI .i64)).bind fun n3=>
nw1 r2.2 143 [(vI 0),(vI 0),(vI 0),(vI 0),(vI 0),(vT ⟨#[]⟩)] fun h4=>
(wr base h4 (List.length r2.2) 0 [(vI (IntKind.wrap .i64 ((1 : Int) + n3))),(vI (0 : Int)),(vI (0 : Int)),(vI (0 : Int)),(vI (0 : Int)),(vT (⟨#[]⟩ : ByteArray))]).bind fun h5=>
(run (Et base) 181 [] h5).bind fun r6=>
((some r6.1).bind getS).bind fun l7=>
(gate (sameA h5 r6.2 (some ⟨(List.length r2.2),0,none⟩) 1)
(((cell r6.2 (List.length r2.2) 0).bind (getI .i64)).bind fun n8=>
(if 0≤(IntKind.wrap .i64 (n8 - (1 : Int)))∧(IntKind.wrap .i64 (n8 - (1 : Int))) < ((l7.2 : Nat) : Int) then
((l7.1 : Option Addr)).bind fun a9=>
((cell r6.2 a9.block (a9.off + Int.toNat (IntKind.wrap .i64 (n8 - (1 : Int))) * 1)).bind getStr).bind fun s10=>
((run (Et base) 204 [(vT s10),(.int .u8 (65 : Int))] r6.2).bind fun r12=>
((some r12.1).bind getB).bind fun b13=>
(if b13 = true then
(run (Et base) 133 [(.pointer v0),(vI (4 : Int))] r12.2).bind fun r14=>
((some r14.1).bind (getI .i64)).bind fun n15=>
(wr base r14.2 (List.length r2.2) 1 [(vI n15)]).bind fun h16=>
some (.inl ([some (.pointer v0),some (vI v1),some (vP (List.length h)),some (vP (List.length r2.2)),some (vT s10)],h16))
else
some (.inl ([some (.pointer v0),some (vI v1),some (vP (List.length h)),some (vP (List.length r2.2)),some (vT s10)],r12.2)))).bind fun j11=>joinK j11 fun j11=>
j_PIAAT j11.1 fun p17 n18 d19 d20 s21=>
((run (Et base) 204 [(vT s21),(.int .u8 (66 : Int))] j11.2).bind fun r23=>
((some r23.1).bind getB).bind fun b24=>
(if b24 = true then
(run (Et base) 133 [(.pointer p17),(vI (4 : Int))] r23.2).bind fun r25=>
((some r25.1).bind (getI .i64)).bind fun n26=>
(wr base r25.2 d20.block (d20.off + 2) [(vI n26)]).bind fun h27=>
some (.inl ([some (.pointer p17),some (vI n18),some (vA d19),some (vA d20),some (vT s21)],h27))
else
some (.inl ([some (.pointer p17),some (vI n18),some (vA d19),some (vA d20),some (vT s21)],r23.2)))).bind fun j22=>joinK j22 fun j22=>
j_PIAAT j22.1 fun p28 n29 d30 d31 s32=>
((run (Et base) 204 [(vT s32),(.int .u8 (67 : Int))] j22.2).bind fun r34=>
((some r34.1).bind getB).bind fun b35=>
(if b35 = true then
(run (Et base) 133 [(.pointer p28),(vI (4 : Int))] r34.2).bind fun r36=>
((some r36.1).bind (getI .i64)).bind fun n37=>
(wr base r36.2 d31.block (d31.off + 3) [(vI n37)]).bind fun h38=>
some (.inl ([some (.pointer p28),some (vI n29),some (vA d30),some (vA d31)],h38))
else
some (.inl ([some (.pointer p28),some (vI n29),some (vA d30),some (vA d31)],r34.2)))).bind fun j33=>joinK j33 fun j33=>
j_PIAA j33.1 fun p39 n40 d41 d42=>
(((cell j33.2 d42.block (d42.off + 0)).bind (getI .i64)).bind fun n44=>
(if (n44 == (1 : Int)) = true then
nw1 j33.2 3 [(vI (0 : Int)),(vI (1 : Int)),(vI (-1 : Int)),(vI (1000000 : Int))] fun h45=>
(run (Et base) 135 [(.pointer p39),(vL (some ⟨(List.length j33.2),0,none⟩) 4)] h45).bind fun r46=>
((some r46.1).bind (getI .i64)).bind fun n47=>
(wr base r46.2 d42.block (d42.off + 4) [(vI n47)]).bind fun h48=>
some (.inl ([some (vA d41),some (vA d42)],h48))
else
(if (n44 == (2 : Int)) = true then
nw1 j33.2 9 [(vT (⟨#[111,107]⟩ : ByteArray)),(vT (⟨#[97]⟩ : ByteArray)),(vT (⟨#[98,97,100]⟩ : ByteArray))] fun h49=>
(run (Et base) 172 [(.pointer p39),(vL (some ⟨(List.length j33.2),0,none⟩) 3)] h49).bind fun r50=>
((some r50.1).bind getStr).bind fun s51=>
(wr base r50.2 d42.block (d42.off + 5) [(vT s51)]).bind fun h52=>
some (.inl ([some (vA d41),some (vA d42)],h52))
else
((if (n44 == (4 : Int)) = true then
some (.inl ([some (.pointer p39),some (vI n40),some (vA d41),some (vA d42),some (vI n44),some (.bool (n44 == (4 : Int)))],j33.2))
else
some (.inl ([some (.pointer p39),some (vI n40),some (vA d41),some (vA d42),some (vI n44),some (.bool (n44 == (6 : Int)))],j33.2)))).bind fun j53=>joinK j53 fun j53=>
j_PIAAIB j53.1 fun p54 n55 d56 d57 n58 b59=>
(if b59 = true then
(run (Et base) 133 [(.pointer p54),(vI (4 : Int))] j53.2).bind fun r60=>
((some r60.1).bind (getI .i64)).bind fun n61=>
(wr base r60.2 d57.block (d57.off + 4) [(vI n61)]).bind fun h62=>
some (.inl ([some (vA d56),some (vA d57)],h62))
else
(if (n58 == (11 : Int)) = true then
(run (Et base) 133 [(.pointer p54),(vI (6 : Int))] j53.2).bind fun r63=>
((some r63.1).bind (getI .i64)).bind fun n64=>
(wr base r63.2 d57.block (d57.off + 2) [(vI (IntKind.wrap .i64 ((1 : Int) + n64)))]).bind fun h65=>
(run (Et base) 133 [(.pointer p54),(vI n55)] h65).bind fun r66=>
((some r66.1).bind (getI .i64)).bind fun n67=>
(wr base r66.2 d57.block (d57.off + 4) [(vI n67)]).bind fun h68=>
some (.inl ([some (vA d56),some (vA d57)],h68))
else
((if (n58 == (10 : Int)) = true then
some (.inl ([some (.pointer p54),some (vI n55),some (vA d56),some (vA d57),some (.bool (n58 == (10 : Int)))],j53.2))
else
(if (n58 == (12 : Int)) = true then
some (.inl ([some (.pointer p54),some (vI n55),some (vA d56),some (vA d57),some (.bool (n58 == (12 : Int)))],j53.2))
else
some (.inl ([some (.pointer p54),some (vI n55),some (vA d56),some (vA d57),some (.bool (n58 == (16 : Int)))],j53.2))))).bind fun j69=>joinK j69 fun j69=>
j_PIAAB j69.1 fun p70 n71 d72 d73 b74=>
(if b74 = true then
(run (Et base) 133 [(.pointer p70),(vI n71)] j69.2).bind fun r75=>
((some r75.1).bind (getI .i64)).bind fun n76=>
(wr base r75.2 d73.block (d73.off + 4) [(vI n76)]).bind fun h77=>
some (.inl ([some (vA d72),some (vA d73)],h77))
else
some (.inl ([some (vA d72),some (vA d73)],j69.2)))))))).bind fun j43=>joinK j43 fun j43=>
j_AA j43.1 fun d78 d79=>
c_IIIIIT j43.2 d79.block d79.off fun n80 n81 n82 n83 n84 s85=>
(wr base j43.2 d78.block d78.off [(vI n80),(vI n81),(vI n82),(vI n83),(vI n84),(vT s85)]).bind fun h86=>
c_IIIIIT h86 d78.block d78.off fun n87 n88 n89 n90 n91 s92=>
some ((.agg #[(vI n87),(vI n88),(vI n89),(vI n90),(vI n91),(vT s92)]),h86)
else none)))
theorem r171 {base : Nat} {v0 : Option Addr} {v1 : Int} {h : AH} {r : Value × AH} (hx : qf171 base v0 v1 h = some r) : run (Et base) 171 [(.pointer v0),(vI v1)] h = some r:=run_i (an:=a171) Try.func171 (by kernel_rfl) (.trans (by kernel_rfl) hx)
theorem r172 {base : Nat} {v0 : Option Addr} {v1 : Option Addr} {v1n : Nat} {h : AH} {r : Value × AH} (hx : ((run (Et base) 133 [(.pointer v0),(.int .i64 ((v1n : Nat) : Int))] h).bind fun r1=>
((some r1.1).bind (getI .i64)).bind fun n2=>
(if 0≤n2∧n2 < ((v1n : Nat) : Int) then
((v1 : Option Addr)).bind fun a3=>
((cell r1.2 a3.block (a3.off + Int.toNat n2 * 1)).bind getStr).bind fun s4=>
some ((.string s4),r1.2)
else none)) = some r) : run (Et base) 172 [(.pointer v0),(vL v1 v1n)] h = some r:=run_i (an:=a172) Try.func172 (by kernel_rfl) (.trans (by kernel_rfl) hx)
theorem r173 {base : Nat} {v0 : Option Addr} {h : AH} {r : Value × AH} (hx : ((v0).bind fun a1=>
((cell h a1.block (a1.off + 2)).bind (getI .i64)).bind fun n2=>
(v0).bind fun a3=>
(wr base h a3.block (a3.off + 2) [(vI (IntKind.wrap .i64 ((IntKind.wrap .i64 (n2 * (6364136223846793005 : Int))) + (1442695040888963407 : Int))))]).bind fun h4=>
(v0).bind fun a5=>
((cell h4 a5.block (a5.off + 2)).bind (getI .i64)).bind fun n6=>
(v0).bind fun a7=>
((cell h4 a7.block (a7.off + 2)).bind (getI .i64)).bind fun n8=>
((v0).bind fun a10=>
((cell h4 a10.block (a10.off + 1)).bind (getI .i64)).bind fun n11=>
(v0).bind fun a12=>
((cell h4 a12.block (a12.off + 0)).bind getS).bind fun l13=>
(if (decide (n11 < ((l13.2 : Nat) : Int))) = true then
(v0).bind fun a14=>
((cell h4 a14.block (a14.off + 0)).bind getS).bind fun l15=>
(v0).bind fun a16=>
((cell h4 a16.block (a16.off + 1)).bind (getI .i64)).bind fun n17=>
(if 0≤n17∧n17 < ((l15.2 : Nat) : Int) then
((l15.1 : Option Addr)).bind fun a18=>
((cell h4 a18.block (a18.off + Int.toNat n17 * 1)).bind (getI .u8)).bind fun n19=>
(v0).bind fun a20=>
((cell h4 a20.block (a20.off + 1)).bind (getI .i64)).bind fun n21=>
(v0).bind fun a22=>
(wr base h4 a22.block (a22.off + 1) [(vI (IntKind.wrap .i64 (n21 + (1 : Int))))]).bind fun h23=>
some (.inl ([some (vI (Go.bits .and .i64 (IntKind.wrap .i64 ((Go.bits .and .i64 (Go.bits .xor .i64 (Int.fdiv n6 (2 ^ min ((33 : Int)).toNat 64)) (Int.fdiv n8 (2 ^ min ((47 : Int)).toNat 64))) (255 : Int)) + (IntKind.wrap .i64 n19))) (255 : Int)))],h23))
else none)
else
some (.inl ([some (vI (Go.bits .and .i64 (Go.bits .xor .i64 (Int.fdiv n6 (2 ^ min ((33 : Int)).toNat 64)) (Int.fdiv n8 (2 ^ min ((47 : Int)).toNat 64))) (255 : Int)))],h4)))).bind fun j9=>joinK j9 fun j9=>
((sget j9.1 0).bind (getI .i64)).bind fun n24=>
some ((vI n24),j9.2)) = some r) : run (Et base) 173 [(.pointer v0)] h = some r:=run_i (an:=a173) Try.func173 (by kernel_rfl) (.trans (by kernel_rfl) hx)
theorem r174 {base : Nat} {v0 : Option Addr} {h : AH} {r : Value × AH} (hx : (nw1 h 42 [(vI 0),(vI 0),(vT ⟨#[]⟩),(vL none 0)] fun h1=>
(run (Et base) 156 [(.pointer v0),(vI (2 : Int))] h1).bind fun r2=>
((some r2.1).bind getB).bind fun b3=>
(if b3 = true then
(run (Et base) 132 [(.pointer v0),(vI (2 : Int))] r2.2).bind fun r4=>
gG (some r4.1) 4 fun l5=>
l_IITL l5 fun n6 n7 s8 l9=>
(wr base r4.2 (List.length h) 0 [(vI n6),(vI n7),(vT s8),(vL l9.1 l9.2)]).bind fun h10=>
c_IITL h10 (List.length h) 0 fun n11 n12 s13 l14=>
some ((.agg #[(vI n11),(vI n12),(vT s13),(vL l14.1 l14.2)]),h10)
else
(run (Et base) 205 [(.pointer v0)] r2.2).bind fun r15=>
gG (some r15.1) 4 fun l16=>
l_IITL l16 fun n17 n18 s19 l20=>
(wr base r15.2 (List.length h) 0 [(vI n17),(vI n18),(vT s19),(vL l20.1 l20.2)]).bind fun h21=>
c_IITL h21 (List.length h) 0 fun n22 n23 s24 l25=>
some ((.agg #[(vI n22),(vI n23),(vT s24),(vL l25.1 l25.2)]),h21))) = some r) : run (Et base) 174 [(.pointer v0)] h = some r:=run_i (an:=a174) Try.func174 (by kernel_rfl) (.trans (by kernel_rfl) hx)
noncomputable def B175_1 (base : Nat) : Body:=fun l h=>lay s175_1 l fun s=>exCode (Et base) (run (Et base)) loopL a175_1 (subC [1,1,1,1,1,1,1,1,0,0] (bodyC Try.f175)) s h (keepK s175_1 e175_1)
noncomputable def B175_0 (base : Nat) : Body:=fun l h=>lay s175_0 l fun s=>exCode (Et base) (run (Et base)) loopL a175_0 (subC [1,1,1,1,1,0,1,0,0] (bodyC Try.f175)) s h (keepK s175_0 e175_0)
theorem B175_1_eq (base : Nat) (v0 : Option Addr) (v5 : Addr) (v7 : Option Addr) (v7n : Nat) (v9 : Int) (h : AH) : B175_1 base [some (.pointer v0),some (vA v5),some (vL v7 v7n),some (vI v9)] h =
(((if (decide (v9 < ((v7n : Nat) : Int))) = true then
c_IITL h v5.block v5.off fun n2 n3 s4 l5=>
(run (Et base) 208 [(vT (⟨#[111,107]⟩ : ByteArray))] h).bind fun r6=>
gG (some r6.1) 4 fun l7=>
l_IITL l7 fun n8 n9 s10 l11=>
(gate (sameA h r6.2 (some v5) 4)
((run (Et base) 207 [(.agg #[(vI n2),(vI n3),(vT s4),(vL l5.1 l5.2)]),(.agg #[(vI n8),(vI n9),(vT s10),(vL l11.1 l11.2)])] r6.2).bind fun r12=>
((some r12.1).bind getB).bind fun b13=>
some (.inl ([some (.pointer v0),some (vA v5),some (vL v7 v7n),some (vI v9),some (.bool (!b13))],r12.2))))
else
some (.inl ([some (.pointer v0),some (vA v5),some (vL v7 v7n),some (vI v9),some (.bool false)],h)))).bind fun j1=>joinK j1 fun j1=>
j_PALIB j1.1 fun p14 d15 l16 n17 b18=>
(if b18 = true then
(if 0≤n17∧n17 < ((l16.2 : Nat) : Int) then
((l16.1 : Option Addr)).bind fun a19=>
((cell j1.2 a19.block (a19.off + Int.toNat n17 * 1)).bind (getI .i64)).bind fun n20=>
c_IITL j1.2 d15.block d15.off fun n21 n22 s23 l24=>
(run (Et base) 175 [(.pointer p14),(vI n20),(.agg #[(vI n21),(vI n22),(vT s23),(vL l24.1 l24.2)])] j1.2).bind fun r25=>
(getTup 0 r25.1).bind fun _=>
some (0,[some (.pointer p14),some (vA d15),some (vL l16.1 l16.2),some (vI (IntKind.wrap .i64 (n17 + (1 : Int))))],r25.2)
else none)
else
some (4,[],j1.2)) : Option (Nat × Slots × AH)):=by kernel_rfl
theorem B175_0_eq (base : Nat) (v0 : Option Addr) (v1 : Int) (v5 : Addr) (v7 : Option Addr) (v7n : Nat) (v8 : Int) (h : AH) : B175_0 base [some (.pointer v0),some (vI v1),some (vA v5),some (vL v7 v7n),some (vI v8)] h =
((v0).bind fun a1=>
((cell h a1.block (a1.off + 1)).bind getS).bind fun l2=>
(if (decide (v8 < ((l2.2 : Nat) : Int))) = true then
(v0).bind fun a3=>
((cell h a3.block (a3.off + 1)).bind getS).bind fun l4=>
(v0).bind fun a5=>
((cell h a5.block (a5.off + 1)).bind getS).bind fun l6=>
(if 0≤v8∧v8 < ((l6.2 : Nat) : Int) then
((l6.1 : Option Addr)).bind fun a7=>
((cell h a7.block ((a7.off + Int.toNat v8 * 5) + 4)).bind getS).bind fun l8=>
(run (Et base) 206 [(.slice l8.1 l8.2 l8.2),(.int .i64 v1)] h).bind fun r9=>
((some r9.1).bind getS).bind fun l10=>
(gate (sameA h r9.2 (some ⟨a3.block,(a3.off + 1),none⟩) 1)
((if 0≤v8∧v8 < ((l4.2 : Nat) : Int) then
((l4.1 : Option Addr)).bind fun a11=>
(wr base r9.2 a11.block ((a11.off + Int.toNat v8 * 5) + 4) [(.slice l10.1 l10.2 l10.2)]).bind fun h12=>
some (0,[some (.pointer v0),some (.int .i64 v1),some (.pointer (some v5)),some (.slice v7 v7n v7n),some (.int .i64 (IntKind.wrap .i64 (v8 + (1 : Int))))],h12)
else none)))
else none)
else
some (2,[some (.pointer v0),some (.int .i64 v1),some (.pointer (some v5)),some (.slice v7 v7n v7n)],h)) : Option (Nat × Slots × AH)):=by kernel_rfl
noncomputable abbrev qf175 (base : Nat) (v0 : Option Addr) (v1 : Int) (v2_0 : Int) (v2_1 : Int) (v2_2 : ByteArray) (v2_3 : Option Addr) (v2_3n : Nat) (h : AH) : Option (Value × AH):=
nw1 h 42 [(vI v2_0),(vI v2_1),(vT v2_2),(vL v2_3 v2_3n)] fun h1=>
(v0).bind fun a2=>
c_LLIL h1 a2.block a2.off fun l3 l4 n5 l6=>
(run (Et base) 118 [(.agg #[(vL l3.1 l3.2),(vL l4.1 l4.2),(vI n5),(vL l6.1 l6.2)]),(vI v1)] h1).bind fun r7=>
((some r7.1).bind (getI .i64)).bind fun n8=>
(if (decide (n8 < (0 : Int))) = true then
some ((.tuple #[]),r7.2)
else
(v0).bind fun a9=>
((cell r7.2 a9.block (a9.off + 1)).bind getS).bind fun l10=>
(if 0≤n8∧n8 < ((l10.2 : Nat) : Int) then
((l10.1 : Option Addr)).bind fun a11=>
((cell r7.2 a11.block ((a11.off + Int.toNat n8 * 5) + 4)).bind getS).bind fun l12=>
nw1 r7.2 54 [] fun h13=>
(v0).bind fun a14=>
(gate (neA (some ⟨a14.block,(a14.off + 1),none⟩) (List.length r7.2))
(((cell h13 a14.block (a14.off + 1)).bind getS).bind fun l15=>
(if 0≤(0 : Int)∧(0 : Int)≤n8∧n8≤((l15.2 : Nat) : Int)∧okTy base h13 l15.1 54 (Int.toNat (0 : Int)) = true then
(app base h13 54 5 88 (some ⟨(List.length r7.2),0,none⟩) 0 (rawAt h13 (shiftA l15.1 (Int.toNat (0 : Int) * 5)) ((Int.toNat n8 - Int.toNat (0 : Int)) * 5)) (Int.toNat n8 - Int.toNat (0 : Int))).bind fun p16=>
((some p16.1).bind getS).bind fun l17=>
(v0).bind fun a18=>
(gate (neA (some ⟨a18.block,(a18.off + 1),none⟩) (List.length r7.2))
((gate (sameA h13 p16.2 (some ⟨a18.block,(a18.off + 1),none⟩) 1)
(((cell p16.2 a18.block (a18.off + 1)).bind getS).bind fun l19=>
(gate (neA l19.1 (List.length r7.2))
((gate (sameA h13 p16.2 l19.1 0)
((if 0≤(IntKind.wrap .i64 (n8 + (1 : Int)))∧(IntKind.wrap .i64 (n8 + (1 : Int)))≤((l19.2 : Nat) : Int)∧((l19.2 : Nat) : Int)≤((l19.2 : Nat) : Int)∧okTy base p16.2 l19.1 54 (Int.toNat (IntKind.wrap .i64 (n8 + (1 : Int)))) = true then
(app base p16.2 54 5 88 l17.1 l17.2 (rawAt p16.2 (shiftA l19.1 (Int.toNat (IntKind.wrap .i64 (n8 + (1 : Int))) * 5)) ((Int.toNat ((l19.2 : Nat) : Int) - Int.toNat (IntKind.wrap .i64 (n8 + (1 : Int)))) * 5)) (Int.toNat ((l19.2 : Nat) : Int) - Int.toNat (IntKind.wrap .i64 (n8 + (1 : Int))))).bind fun p20=>
((some p20.1).bind getS).bind fun l21=>
(v0).bind fun a22=>
(wr base p20.2 a22.block (a22.off + 1) [(vL l21.1 l21.2)]).bind fun h23=>
(loopL (B175_0 base) [some (.pointer v0),some (vI v1),some (vP (List.length h)),some (vL l12.1 l12.2),some (vI (0 : Int))] h23).bind fun q24=>
(if q24.1 = 2 then
j_PIAL q24.2.1 fun p25 n26 d27 l28=>
(p25).bind fun a29=>
((cell q24.2.2 a29.block (a29.off + 3)).bind getS).bind fun l30=>
c_IITL q24.2.2 d27.block d27.off fun n31 n32 s33 l34=>
(run (Et base) 168 [(vL l30.1 l30.2),(vI (3 : Int)),(vI n26),(.agg #[(vI n31),(vI n32),(vT s33),(vL l34.1 l34.2)])] q24.2.2).bind fun r35=>
((some r35.1).bind getS).bind fun l36=>
(p25).bind fun a37=>
(wr base r35.2 a37.block (a37.off + 3) [(vL l36.1 l36.2)]).bind fun h38=>
(loopL (B175_1 base) [some (.pointer p25),some (vA d27),some (vL l28.1 l28.2),some (vI (0 : Int))] h38).bind fun q39=>
(if q39.1 = 4 then
some ((.tuple #[]),q39.2.2)
else
none)
else
none)
else none)))))))))
else none)))
else none))
theorem r175 {base : Nat} {v0 : Option Addr} {v1 : Int} {v2_0 : Int} {v2_1 : Int} {v2_2 : ByteArray} {v2_3 : Option Addr} {v2_3n : Nat} {h : AH} {r : Value × AH} (hx : qf175 base v0 v1 v2_0 v2_1 v2_2 v2_3 v2_3n h = some r) : run (Et base) 175 [(.pointer v0),(vI v1),(.agg #[(vI v2_0),(vI v2_1),(vT v2_2),(vL v2_3 v2_3n)])] h = some r:=run_i (an:=a175) Try.func175 (by kernel_rfl) (.trans (by kernel_rfl) hx)
noncomputable def B176_0 (base : Nat) : Body:=fun l h=>lay s176_0 l fun s=>exCode (Et base) (run (Et base)) loopL a176_0 (subC [1,1,1,0,0] (bodyC Try.f176)) s h (keepK s176_0 e176_0)
theorem B176_0_eq (base : Nat) (v0 : Option Addr) (v2 : Int) (v6 : Int) (v7 : Bool) (v8 : Int) (h : AH) : B176_0 base [some (.pointer v0),some (vI v2),some (vI v6),some (.bool v7),some (vI v8)] h =
(((if (decide (v8 < v2)) = true then
some (.inl ([some (.pointer v0),some (vI v2),some (vI v6),some (vI v8),some (.bool v7)],h))
else
some (.inl ([some (.pointer v0),some (vI v2),some (vI v6),some (vI v8),some (.bool false)],h)))).bind fun j1=>joinK j1 fun j1=>
j_PIIIB j1.1 fun p2 n3 n4 n5 b6=>
(if b6 = true then
(p2).bind fun a7=>
c_LLIL j1.2 a7.block a7.off fun l8 l9 n10 l11=>
(run (Et base) 118 [(.agg #[(vL l8.1 l8.2),(vL l9.1 l9.2),(vI n10),(vL l11.1 l11.2)]),(vI n4)] j1.2).bind fun r12=>
((some r12.1).bind (getI .i64)).bind fun n13=>
(p2).bind fun a14=>
((cell r12.2 a14.block (a14.off + 0)).bind getS).bind fun l15=>
(p2).bind fun a16=>
((cell r12.2 a16.block (a16.off + 1)).bind getS).bind fun l17=>
(if 0≤n13∧n13 < ((l17.2 : Nat) : Int) then
((l17.1 : Option Addr)).bind fun a18=>
c_IILLL r12.2 a18.block (a18.off + Int.toNat n13 * 5) fun n19 n20 l21 l22 l23=>
(p2).bind fun a24=>
((cell r12.2 a24.block (a24.off + 2)).bind (getI .i64)).bind fun n25=>
(run (Et base) 209 [(vL l15.1 l15.2),(.agg #[(vI n19),(vI n20),(vL l21.1 l21.2),(vL l22.1 l22.2),(vL l23.1 l23.2)]),(vI n25)] r12.2).bind fun r26=>
(getTup 2 r26.1).bind fun l27=>
gG (l27[0]?) 5 fun l28=>
l_IILLL l28 fun n29 n30 l31 l32 l33=>
gG (l27[1]?) 7 fun l34=>
l_IIIIITL l34 fun n35 n36 n37 n38 n39 s40 l41=>
(gate (neA (some ⟨a24.block,(a24.off + 2),none⟩) (List.length r26.2))
((gate (neA (some ⟨a18.block,(a18.off + Int.toNat n13 * 5),none⟩) (List.length r26.2))
((gate (neA (some ⟨a16.block,(a16.off + 1),none⟩) (List.length r26.2))
((gate (neA (some ⟨a14.block,(a14.off + 0),none⟩) (List.length r26.2))
(nw1 r26.2 54 [(vI 0),(vI 0),(vL none 0),(vL none 0),(vL none 0)] fun h42=>
(gate (neA (some ⟨a24.block,(a24.off + 2),none⟩) (List.length h42))
((gate (neA (some ⟨a18.block,(a18.off + Int.toNat n13 * 5),none⟩) (List.length h42))
((gate (neA (some ⟨a16.block,(a16.off + 1),none⟩) (List.length h42))
((gate (neA (some ⟨a14.block,(a14.off + 0),none⟩) (List.length h42))
(nw1 h42 224 [(vI 0),(vI 0),(vI 0),(vI 0),(vI 0),(vT ⟨#[]⟩),(vL none 0)] fun h43=>
(wr base h43 (List.length r26.2) 0 [(vI n29),(vI n30),(vL l31.1 l31.2),(vL l32.1 l32.2),(vL l33.1 l33.2)]).bind fun h44=>
(wr base h44 (List.length h42) 0 [(vI n35),(vI n36),(vI n37),(vI n38),(vI n39),(vT s40),(vL l41.1 l41.2)]).bind fun h45=>
(p2).bind fun a46=>
((cell h45 a46.block (a46.off + 1)).bind getS).bind fun l47=>
c_IILLL h45 (List.length r26.2) 0 fun n48 n49 l50 l51 l52=>
(if 0≤n13∧n13 < ((l47.2 : Nat) : Int) then
((l47.1 : Option Addr)).bind fun a53=>
(wr base h45 a53.block (a53.off + Int.toNat n13 * 5) [(vI n48),(vI n49),(vL l50.1 l50.2),(vL l51.1 l51.2),(vL l52.1 l52.2)]).bind fun h54=>
c_IIIIITL h54 (List.length h42) 0 fun n55 n56 n57 n58 n59 s60 l61=>
(run (Et base) 210 [(.pointer p2),(vI n4),(.agg #[(vI n55),(vI n56),(vI n57),(vI n58),(vI n59),(vT s60),(vL l61.1 l61.2)])] h54).bind fun r62=>
((some r62.1).bind getB).bind fun b63=>
some (0,[some (.pointer p2),some (vI n3),some (vI n4),some (.bool b63),some (vI (IntKind.wrap .i64 (n5 + (1 : Int))))],r62.2)
else none)))))))))))))))))
else none)
else
some (2,[],j1.2)) : Option (Nat × Slots × AH)):=by kernel_rfl
theorem r176 {base : Nat} {v0 : Option Addr} {v1 : Int} {v2 : Int} {h : AH} {r : Value × AH} (hx : ((v0).bind fun a1=>
((cell h a1.block (a1.off + 1)).bind getS).bind fun l2=>
(v0).bind fun a3=>
((cell h a3.block (a3.off + 1)).bind getS).bind fun l4=>
(if ((l4.2 : Nat) : Int) = 0 then none else
(if 0≤(Int.tmod v1 ((l4.2 : Nat) : Int))∧(Int.tmod v1 ((l4.2 : Nat) : Int)) < ((l2.2 : Nat) : Int) then
((l2.1 : Option Addr)).bind fun a5=>
((cell h a5.block ((a5.off + Int.toNat (Int.tmod v1 ((l4.2 : Nat) : Int)) * 5) + 0)).bind (getI .i64)).bind fun n6=>
(loopL (B176_0 base) [some (.pointer v0),some (.int .i64 v2),some (.int .i64 n6),some (.bool true),some (.int .i64 (0 : Int))] h).bind fun q7=>
(if q7.1 = 2 then
some ((.tuple #[]),q7.2.2)
else
none)
else none))) = some r) : run (Et base) 176 [(.pointer v0),(vI v1),(vI v2)] h = some r:=run_i (an:=a176) Try.func176 (by kernel_rfl) (.trans (by kernel_rfl) hx)
noncomputable def B177_1 (base : Nat) : Body:=fun l h=>lay s177_1 l fun s=>exCode (Et base) (run (Et base)) loopL a177_1 (subC [1,1,1,0,1,0,0] (bodyC Try.f177)) s h (keepK s177_1 e177_1)
noncomputable def B177_0 (base : Nat) : Body:=fun l h=>lay s177_0 l fun s=>exCode (Et base) (run (Et base)) loopL a177_0 (subC [1,1,0,1,0,0] (bodyC Try.f177)) s h (keepK s177_0 e177_0)
theorem B177_1_eq (base : Nat) (v0 : Option Addr) (v4 : Addr) (v5 : Addr) (v7 : Int) (h : AH) : B177_1 base [some (.pointer v0),some (vA v4),some (vA v5),some (vI v7)] h =
((if (decide (v7 > (0 : Int))) = true then
((cell h v5.block (v5.off + 3)).bind getS).bind fun l1=>
(run (Et base) 132 [(.pointer v0),(.int .i64 (2 : Int))] h).bind fun r2=>
((some r2.1).bind (getAgg 4)).bind fun l3=>
((l3[0]?).bind (getI .i64)).bind fun n4=>
((l3[1]?).bind (getI .i64)).bind fun n5=>
((l3[2]?).bind getStr).bind fun s6=>
((l3[3]?).bind getS).bind fun l7=>
(gate (sameA h r2.2 (some ⟨v5.block,(v5.off + 3),none⟩) 1)
((gate (neA (some ⟨v5.block,(v5.off + 3),none⟩) (List.length r2.2))
((some (r2.2++[some ⟨[(.int .i64 n4),(.int .i64 n5),(.string s6),(.slice l7.1 l7.2 l7.2)],42⟩])).bind fun h8=>
(app base h8 42 4 56 l1.1 l1.2 (rawAt h8 (some ⟨(List.length r2.2),0,none⟩) (1 * 4)) 1).bind fun p9=>
((some p9.1).bind getS).bind fun l10=>
(wr base p9.2 v5.block (v5.off + 3) [(.slice l10.1 l10.2 l10.2)]).bind fun h11=>
some (0,[some (.pointer v0),some (.pointer (some v4)),some (.pointer (some v5)),some (.int .i64 (IntKind.wrap .i64 (v7 - (1 : Int))))],h11)))))
else
some (4,[some (.pointer v0),some (.pointer (some v4)),some (.pointer (some v5))],h)) : Option (Nat × Slots × AH)):=by kernel_rfl
theorem B177_0_eq (base : Nat) (v0 : Option Addr) (v4 : Addr) (v5 : Addr) (v6 : Int) (h : AH) : B177_0 base [some (.pointer v0),some (vA v4),some (vA v5),some (vI v6)] h =
((if (decide (v6 > (0 : Int))) = true then
((cell h v5.block (v5.off + 2)).bind getS).bind fun l1=>
(run (Et base) 133 [(.pointer v0),(.int .i64 (6 : Int))] h).bind fun r2=>
((some r2.1).bind (getI .i64)).bind fun n3=>
(gate (sameA h r2.2 (some ⟨v5.block,(v5.off + 2),none⟩) 1)
((run (Et base) 132 [(.pointer v0),(.int .i64 (2 : Int))] r2.2).bind fun r4=>
((some r4.1).bind (getAgg 4)).bind fun l5=>
((l5[0]?).bind (getI .i64)).bind fun n6=>
((l5[1]?).bind (getI .i64)).bind fun n7=>
((l5[2]?).bind getStr).bind fun s8=>
((l5[3]?).bind getS).bind fun l9=>
(gate (sameA r2.2 r4.2 (some ⟨v5.block,(v5.off + 2),none⟩) 1)
((if 0≤n3∧n3 < ((l1.2 : Nat) : Int) then
((l1.1 : Option Addr)).bind fun a10=>
(wr base r4.2 a10.block (a10.off + Int.toNat n3 * 4) [(.int .i64 n6),(.int .i64 n7),(.string s8),(.slice l9.1 l9.2 l9.2)]).bind fun h11=>
some (0,[some (.pointer v0),some (.pointer (some v4)),some (.pointer (some v5)),some (.int .i64 (IntKind.wrap .i64 (v6 - (1 : Int))))],h11)
else none)))))
else
some (2,[some (.pointer v0),some (.pointer (some v4)),some (.pointer (some v5))],h)) : Option (Nat × Slots × AH)):=by kernel_rfl
noncomputable abbrev qf177 (base : Nat) (v0 : Option Addr) (v1 : Option Addr) (v1n : Nat) (h : AH) : Option (Value × AH):=
nw1 h 54 [(vI 0),(vI 0),(vL none 0),(vL none 0),(vL none 0)] fun h1=>
(run (Et base) 133 [(.pointer v0),(vI (3 : Int))] h1).bind fun r2=>
((some r2.1).bind (getI .i64)).bind fun n3=>
(run (Et base) 133 [(.pointer v0),(vI ((v1n : Nat) : Int))] r2.2).bind fun r4=>
((some r4.1).bind (getI .i64)).bind fun n5=>
(run (Et base) 132 [(.pointer v0),(vI (2 : Int))] r4.2).bind fun r6=>
gG (some r6.1) 4 fun l7=>
l_IITL l7 fun n8 n9 s10 l11=>
(run (Et base) 167 [(vI (IntKind.wrap .i64 ((1 : Int) + n3))),(vI n5),(.agg #[(vI n8),(vI n9),(vT s10),(vL l11.1 l11.2)])] r6.2).bind fun r12=>
gG (some r12.1) 5 fun l13=>
l_IILLL l13 fun n14 n15 l16 l17 l18=>
nw1 r12.2 54 [(vI 0),(vI 0),(vL none 0),(vL none 0),(vL none 0)] fun h19=>
(wr base h19 (List.length r12.2) 0 [(vI n14),(vI n15),(vL l16.1 l16.2),(vL l17.1 l17.2),(vL l18.1 l18.2)]).bind fun h20=>
(run (Et base) 133 [(.pointer v0),(vI (6 : Int))] h20).bind fun r21=>
((some r21.1).bind (getI .i64)).bind fun n22=>
(loopL (B177_0 base) [some (.pointer v0),some (vP (List.length h)),some (vP (List.length r12.2)),some (vI n22)] r21.2).bind fun q23=>
(if q23.1 = 2 then
j_PAA q23.2.1 fun p24 d25 d26=>
(run (Et base) 133 [(.pointer p24),(vI (3 : Int))] q23.2.2).bind fun r27=>
((some r27.1).bind (getI .i64)).bind fun n28=>
(loopL (B177_1 base) [some (.pointer p24),some (vA d25),some (vA d26),some (vI n28)] r27.2).bind fun q29=>
(if q29.1 = 4 then
j_PAA q29.2.1 fun p30 d31 d32=>
((run (Et base) 156 [(.pointer p30),(vI (3 : Int))] q29.2.2).bind fun r34=>
((some r34.1).bind getB).bind fun b35=>
(if b35 = true then
(run (Et base) 133 [(.pointer p30),(vI (3 : Int))] r34.2).bind fun r36=>
((some r36.1).bind (getI .i64)).bind fun n37=>
nw1 r36.2 3 [(vI (IntKind.wrap .i64 ((5 : Int) + n37)))] fun h38=>
(wr base h38 d32.block (d32.off + 4) [(vL (some ⟨(List.length r36.2),0,none⟩) 1)]).bind fun h39=>
some (.inl ([some (vA d31),some (vA d32)],h39))
else
some (.inl ([some (vA d31),some (vA d32)],r34.2)))).bind fun j33=>joinK j33 fun j33=>
j_AA j33.1 fun d40 d41=>
c_IILLL j33.2 d41.block d41.off fun n42 n43 l44 l45 l46=>
(wr base j33.2 d40.block d40.off [(vI n42),(vI n43),(vL l44.1 l44.2),(vL l45.1 l45.2),(vL l46.1 l46.2)]).bind fun h47=>
c_IILLL h47 d40.block d40.off fun n48 n49 l50 l51 l52=>
some ((.agg #[(vI n48),(vI n49),(vL l50.1 l50.2),(vL l51.1 l51.2),(vL l52.1 l52.2)]),h47)
else
none)
else
none)
theorem r177 {base : Nat} {v0 : Option Addr} {v1 : Option Addr} {v1n : Nat} {h : AH} {r : Value × AH} (hx : qf177 base v0 v1 v1n h = some r) : run (Et base) 177 [(.pointer v0),(vL v1 v1n)] h = some r:=run_i (an:=a177) Try.func177 (by kernel_rfl) (.trans (by kernel_rfl) hx)
noncomputable def B178_0 (base : Nat) : Body:=fun l h=>lay s178_0 l fun s=>exCode (Et base) (run (Et base)) loopL a178_0 (subC [1,1,0,1,0,1,1,1,1,1,1,1,1,1,0,1,0,0] (bodyC Try.f178)) s h (keepK s178_0 e178_0)
theorem B178_0_eq (base : Nat) (v3 : Addr) (v4 : Addr) (v5 : Int) (h : AH) : B178_0 base [some (vA v3),some (vA v4),some (vI v5)] h =
((if (decide (v5 < (6 : Int))) = true then
((cell h v3.block v3.off).bind (getI .i64)).bind fun n1=>
((cell h v3.block (v3.off + 1)).bind (getI .i64)).bind fun n2=>
((cell h v3.block ((v3.off + 1) + 1)).bind getStr).bind fun s3=>
((cell h v3.block (((v3.off + 1) + 1) + 1)).bind getS).bind fun l4=>
(some (h++[some ⟨[(.int .i64 0),(.int .i64 0),(.string ⟨#[]⟩),(.slice none 0 0)],42⟩])).bind fun h5=>
(wr base h5 (List.length h) 0 [(.int .i64 n1),(.int .i64 n2),(.string s3),(.slice l4.1 l4.2 l4.2)]).bind fun h6=>
((cell h6 (List.length h) 0).bind (getI .i64)).bind fun n7=>
((cell h6 (List.length h) 1).bind (getI .i64)).bind fun n8=>
((cell h6 (List.length h) 2).bind getStr).bind fun s9=>
((cell h6 (List.length h) 3).bind getS).bind fun l10=>
(some (h6++[some ⟨[(.int .i64 n7),(.int .i64 n8),(.string s9),(.slice l10.1 l10.2 l10.2)],42⟩])).bind fun h11=>
(wr base h11 v3.block v3.off [(.int .i64 (4 : Int)),(.int .i64 (0 : Int)),(.string (⟨#[]⟩ : ByteArray)),(.slice (some ⟨(List.length h6),0,none⟩) 1 1)]).bind fun h12=>
some (0,[some (.pointer (some v3)),some (.pointer (some v4)),some (.int .i64 (IntKind.wrap .i64 (v5 + (1 : Int))))],h12)
else
some (3,[some (.pointer (some v3)),some (.pointer (some v4))],h)) : Option (Nat × Slots × AH)):=by kernel_rfl
noncomputable abbrev qf178 (base : Nat) (v0 : Option Addr) (v1_0 : Int) (v1_1 : Int) (v1_2 : ByteArray) (v1_3 : Option Addr) (v1_3n : Nat) (h : AH) : Option (Value × AH):=
nw1 h 42 [(vI v1_0),(vI v1_1),(vT v1_2),(vL v1_3 v1_3n)] fun h1=>
nw1 h1 42 [(vI 0),(vI 0),(vT ⟨#[]⟩),(vL none 0)] fun h2=>
c_IITL h2 (List.length h) 0 fun n3 n4 s5 l6=>
(run (Et base) 116 [(.agg #[(vI n3),(vI n4),(vT s5),(vL l6.1 l6.2)])] h2).bind fun r7=>
gG (some r7.1) 4 fun l8=>
l_IITL l8 fun n9 n10 s11 l12=>
(wr base r7.2 (List.length h) 0 [(vI n9),(vI n10),(vT s11),(vL l12.1 l12.2)]).bind fun h13=>
((run (Et base) 133 [(.pointer v0),(vI (6 : Int))] h13).bind fun r15=>
((some r15.1).bind (getI .i64)).bind fun n16=>
(if (n16 == (0 : Int)) = true then
(run (Et base) 133 [(.pointer v0),(vI (8 : Int))] r15.2).bind fun r17=>
((some r17.1).bind (getI .i64)).bind fun n18=>
(wr base r17.2 (List.length h) 0 [(vI n18)]).bind fun h19=>
some (.inl ([some (vP (List.length h)),some (vP (List.length h1))],h19))
else
(if (n16 == (1 : Int)) = true then
nw1 r15.2 3 [(vI (-1 : Int)),(vI (1000001 : Int)),(vI (100000 : Int)),(vI (3 : Int))] fun h20=>
(run (Et base) 135 [(.pointer v0),(vL (some ⟨(List.length r15.2),0,none⟩) 4)] h20).bind fun r21=>
((some r21.1).bind (getI .i64)).bind fun n22=>
(wr base r21.2 (List.length h) 1 [(vI n22)]).bind fun h23=>
some (.inl ([some (vP (List.length h)),some (vP (List.length h1))],h23))
else
(if (n16 == (2 : Int)) = true then
nw1 r15.2 9 [(vT (⟨#[]⟩ : ByteArray)),(vT (⟨#[65]⟩ : ByteArray)),(vT (⟨#[120]⟩ : ByteArray)),(vT (⟨#[116,104,105,114,116,101,101,110,98,121,116,101,115]⟩ : ByteArray))] fun h24=>
(run (Et base) 172 [(.pointer v0),(vL (some ⟨(List.length r15.2),0,none⟩) 4)] h24).bind fun r25=>
((some r25.1).bind getStr).bind fun s26=>
(wr base r25.2 (List.length h) 2 [(vT s26)]).bind fun h27=>
some (.inl ([some (vP (List.length h)),some (vP (List.length h1))],h27))
else
(if (n16 == (3 : Int)) = true then
((cell r15.2 (List.length h) 3).bind getS).bind fun l28=>
nw1 r15.2 42 [(vI (1 : Int)),(vI (4 : Int)),(vT (⟨#[]⟩ : ByteArray)),(vL none 0)] fun h29=>
(app base h29 42 4 56 l28.1 l28.2 (rawAt h29 (some ⟨(List.length r15.2),0,none⟩) (1 * 4)) 1).bind fun p30=>
((some p30.1).bind getS).bind fun l31=>
(wr base p30.2 (List.length h) 3 [(vL l31.1 l31.2)]).bind fun h32=>
some (.inl ([some (vP (List.length h)),some (vP (List.length h1))],h32))
else
(if (n16 == (4 : Int)) = true then
(loopL (B178_0 base) [some (vP (List.length h)),some (vP (List.length h1)),some (vI (0 : Int))] r15.2).bind fun q33=>
(if q33.1 = 3 then
j_AA q33.2.1 fun d34 d35=>
some (.inl ([some (vA d34),some (vA d35)],q33.2.2))
else
none)
else
some (.inl ([some (vP (List.length h)),some (vP (List.length h1))],r15.2)))))))).bind fun j14=>joinK j14 fun j14=>
j_AA j14.1 fun d36 d37=>
c_IITL j14.2 d36.block d36.off fun n38 n39 s40 l41=>
(wr base j14.2 d37.block d37.off [(vI n38),(vI n39),(vT s40),(vL l41.1 l41.2)]).bind fun h42=>
c_IITL h42 d37.block d37.off fun n43 n44 s45 l46=>
some ((.agg #[(vI n43),(vI n44),(vT s45),(vL l46.1 l46.2)]),h42)
theorem r178 {base : Nat} {v0 : Option Addr} {v1_0 : Int} {v1_1 : Int} {v1_2 : ByteArray} {v1_3 : Option Addr} {v1_3n : Nat} {h : AH} {r : Value × AH} (hx : qf178 base v0 v1_0 v1_1 v1_2 v1_3 v1_3n h = some r) : run (Et base) 178 [(.pointer v0),(.agg #[(vI v1_0),(vI v1_1),(vT v1_2),(vL v1_3 v1_3n)])] h = some r:=run_i (an:=a178) Try.func178 (by kernel_rfl) (.trans (by kernel_rfl) hx)
end Go.Proofs.Ytkdenmdijdmnjaa.Am
