/- What each of these functions comes to on the abstract machine, one equation a function and one a loop.
Conditions: none. -/
import Derived.Test.YtkdenmdijdmnjaaTb
set_option linter.unusedVariables false
set_option maxRecDepth 100000
namespace Go.Proofs.Ytkdenmdijdmnjaa.Am
open Go Go.RowKit
noncomputable abbrev qf66 (base : Nat) (v0 : Option Addr) (v1 : Int) (v2_0 : Int) (v2_1 : Int) (v2_2 : ByteArray) (v2_3 : Option Addr) (v2_3n : Nat) (h : AH) : Option (Value × AH):=
nw1 h 42 [(vI v2_0),(vI v2_1),(vT v2_2),(vL v2_3 v2_3n)] fun h1=>
(run (Et base) 87 [(.pointer v0),(vI v1)] h1).bind fun r2=>
((some r2.1).bind (getI .i64)).bind fun n3=>
((if (decide (n3 < (0 : Int))) = true then
some (.inl ([some (.pointer v0),some (vP (List.length h)),some (vI n3),some (.bool true)],r2.2))
else
(v0).bind fun a5=>
((cell r2.2 a5.block (a5.off + 1)).bind getS).bind fun l6=>
(if 0≤n3∧n3 < ((l6.2 : Nat) : Int) then
((l6.1 : Option Addr)).bind fun a7=>
((cell r2.2 a7.block ((a7.off + Int.toNat n3 * 5) + 3)).bind getS).bind fun l8=>
some (.inl ([some (.pointer v0),some (vP (List.length h)),some (vI n3),some (.bool (decide (((l8.2 : Nat) : Int) ≥ (30 : Int))))],r2.2))
else none))).bind fun j4=>joinK j4 fun j4=>
j_PAIB j4.1 fun p9 d10 n11 b12=>
(if b12 = true then
some ((.bool false),j4.2)
else
(gate (TossR (Et base) 25 26 4 (opsC (subC [1,1,1,0,0] (bodyC Try.f66))))
((gate ((((p9).bind fun a13=>
((cell (j4.2++[none]) a13.block (a13.off + 1)).bind getS).bind fun l14=>
(if 0≤n11∧n11 < ((l14.2 : Nat) : Int) then
((l14.1 : Option Addr)).bind fun a15=>
((cell (j4.2++[none]) a15.block ((a15.off + Int.toNat n11 * 5) + 3)).bind getS).bind fun l16=>
((cell (j4.2++[none]) d10.block d10.off).bind (getI .i64)).bind fun n17=>
((cell (j4.2++[none]) d10.block (d10.off + 1)).bind (getI .i64)).bind fun n18=>
((cell (j4.2++[none]) d10.block ((d10.off + 1) + 1)).bind getStr).bind fun s19=>
((cell (j4.2++[none]) d10.block (((d10.off + 1) + 1) + 1)).bind getS).bind fun l20=>
(run (Et base) 125 [(.agg #[(vI n17),(vI n18),(vT s19),(vL l20.1 l20.2)])] (j4.2++[none])).bind fun r21=>
gG (some r21.1) 4 fun l22=>
l_IITL l22 fun n23 n24 s25 l26=>
(gate (sameA (j4.2++[none]) r21.2 (some ⟨a15.block,((a15.off + Int.toNat n11 * 5) + 3),none⟩) 1)
((gate (sameA (j4.2++[none]) r21.2 (some ⟨a13.block,(a13.off + 1),none⟩) 1)
((gate (neA (some d10) (List.length r21.2))
((gate (neA (some ⟨a15.block,((a15.off + Int.toNat n11 * 5) + 3),none⟩) (List.length r21.2))
((gate (neA (some ⟨a13.block,(a13.off + 1),none⟩) (List.length r21.2))
(nw1 r21.2 42 [(vI (0 : Int)),(vI (0 : Int)),(vT (⟨#[]⟩ : ByteArray)),(vL none 0)] fun h27=>
(app base h27 42 4 56 l16.1 l16.2 (rawAt h27 (some ⟨(List.length r21.2),0,none⟩) (1 * 4)) 1).bind fun p28=>
((some p28.1).bind getS).bind fun l29=>
(if 0≤n11∧n11 < ((l14.2 : Nat) : Int) then
((l14.1 : Option Addr)).bind fun a30=>
(wr base p28.2 a30.block ((a30.off + Int.toNat n11 * 5) + 3) [(vL l29.1 l29.2)]).bind fun h31=>
(if 0≤((l16.2 : Nat) : Int)∧((l16.2 : Nat) : Int) < ((l29.2 : Nat) : Int) then
((l29.1 : Option Addr)).bind fun a32=>
(wr base h31 a32.block (a32.off + Int.toNat ((l16.2 : Nat) : Int) * 4) [(vI n23),(vI n24),(vT s25),(vL l26.1 l26.2)]).bind fun h33=>
some ((.bool true),(List.set h33 (List.length r21.2) none))
else none)
else none)))))))))))
else none) : Option (Value × AH)))
=
((p9).bind fun a34=>
((cell (j4.2++[none]) a34.block (a34.off + 1)).bind getS).bind fun l35=>
(p9).bind fun a36=>
((cell (j4.2++[none]) a36.block (a36.off + 1)).bind getS).bind fun l37=>
(if 0≤n11∧n11 < ((l37.2 : Nat) : Int) then
((l37.1 : Option Addr)).bind fun a38=>
((cell (j4.2++[none]) a38.block ((a38.off + Int.toNat n11 * 5) + 3)).bind getS).bind fun l39=>
((cell (j4.2++[none]) d10.block d10.off).bind (getI .i64)).bind fun n40=>
((cell (j4.2++[none]) d10.block (d10.off + 1)).bind (getI .i64)).bind fun n41=>
((cell (j4.2++[none]) d10.block ((d10.off + 1) + 1)).bind getStr).bind fun s42=>
((cell (j4.2++[none]) d10.block (((d10.off + 1) + 1) + 1)).bind getS).bind fun l43=>
(run (Et base) 125 [(.agg #[(vI n40),(vI n41),(vT s42),(vL l43.1 l43.2)])] (j4.2++[none])).bind fun r44=>
gG (some r44.1) 4 fun l45=>
l_IITL l45 fun n46 n47 s48 l49=>
(gate (sameA (j4.2++[none]) r44.2 (some ⟨a38.block,((a38.off + Int.toNat n11 * 5) + 3),none⟩) 1)
((gate (sameA (j4.2++[none]) r44.2 (some ⟨a36.block,(a36.off + 1),none⟩) 1)
((gate (sameA (j4.2++[none]) r44.2 (some ⟨a34.block,(a34.off + 1),none⟩) 1)
((gate (neA (some ⟨a38.block,((a38.off + Int.toNat n11 * 5) + 3),none⟩) (List.length r44.2))
((gate (neA (some ⟨a36.block,(a36.off + 1),none⟩) (List.length r44.2))
((gate (neA (some ⟨a34.block,(a34.off + 1),none⟩) (List.length r44.2))
(nw1 r44.2 42 [(vI n46),(vI n47),(vT s48),(vL l49.1 l49.2)] fun h50=>
(app base h50 42 4 56 l39.1 l39.2 (rawAt h50 (some ⟨(List.length r44.2),0,none⟩) (1 * 4)) 1).bind fun p51=>
((some p51.1).bind getS).bind fun l52=>
(gate (sameA h50 p51.2 (some ⟨a34.block,(a34.off + 1),none⟩) 1)
((if 0≤n11∧n11 < ((l35.2 : Nat) : Int) then
((l35.1 : Option Addr)).bind fun a53=>
(wr base p51.2 a53.block ((a53.off + Int.toNat n11 * 5) + 3) [(vL l52.1 l52.2)]).bind fun h54=>
some ((.bool true),(List.set h54 (List.length r44.2) none))
else none)))))))))))))))
else none)))
((p9).bind fun a13=>
((cell (j4.2++[none]) a13.block (a13.off + 1)).bind getS).bind fun l14=>
(if 0≤n11∧n11 < ((l14.2 : Nat) : Int) then
((l14.1 : Option Addr)).bind fun a15=>
((cell (j4.2++[none]) a15.block ((a15.off + Int.toNat n11 * 5) + 3)).bind getS).bind fun l16=>
((cell (j4.2++[none]) d10.block d10.off).bind (getI .i64)).bind fun n17=>
((cell (j4.2++[none]) d10.block (d10.off + 1)).bind (getI .i64)).bind fun n18=>
((cell (j4.2++[none]) d10.block ((d10.off + 1) + 1)).bind getStr).bind fun s19=>
((cell (j4.2++[none]) d10.block (((d10.off + 1) + 1) + 1)).bind getS).bind fun l20=>
(run (Et base) 125 [(.agg #[(vI n17),(vI n18),(vT s19),(vL l20.1 l20.2)])] (j4.2++[none])).bind fun r21=>
gG (some r21.1) 4 fun l22=>
l_IITL l22 fun n23 n24 s25 l26=>
(gate (sameA (j4.2++[none]) r21.2 (some ⟨a15.block,((a15.off + Int.toNat n11 * 5) + 3),none⟩) 1)
((gate (sameA (j4.2++[none]) r21.2 (some ⟨a13.block,(a13.off + 1),none⟩) 1)
((gate (neA (some d10) (List.length r21.2))
((gate (neA (some ⟨a15.block,((a15.off + Int.toNat n11 * 5) + 3),none⟩) (List.length r21.2))
((gate (neA (some ⟨a13.block,(a13.off + 1),none⟩) (List.length r21.2))
(nw1 r21.2 42 [(vI (0 : Int)),(vI (0 : Int)),(vT (⟨#[]⟩ : ByteArray)),(vL none 0)] fun h27=>
(app base h27 42 4 56 l16.1 l16.2 (rawAt h27 (some ⟨(List.length r21.2),0,none⟩) (1 * 4)) 1).bind fun p28=>
((some p28.1).bind getS).bind fun l29=>
(if 0≤n11∧n11 < ((l14.2 : Nat) : Int) then
((l14.1 : Option Addr)).bind fun a30=>
(wr base p28.2 a30.block ((a30.off + Int.toNat n11 * 5) + 3) [(vL l29.1 l29.2)]).bind fun h31=>
(if 0≤((l16.2 : Nat) : Int)∧((l16.2 : Nat) : Int) < ((l29.2 : Nat) : Int) then
((l29.1 : Option Addr)).bind fun a32=>
(wr base h31 a32.block (a32.off + Int.toNat ((l16.2 : Nat) : Int) * 4) [(vI n23),(vI n24),(vT s25),(vL l26.1 l26.2)]).bind fun h33=>
some ((.bool true),(List.set h33 (List.length r21.2) none))
else none)
else none)))))))))))
else none))))))
theorem r66 {base : Nat} {v0 : Option Addr} {v1 : Int} {v2_0 : Int} {v2_1 : Int} {v2_2 : ByteArray} {v2_3 : Option Addr} {v2_3n : Nat} {h : AH} {r : Value × AH} (hx : qf66 base v0 v1 v2_0 v2_1 v2_2 v2_3 v2_3n h = some r) : run (Et base) 66 [(.pointer v0),(vI v1),(.agg #[(vI v2_0),(vI v2_1),(vT v2_2),(vL v2_3 v2_3n)])] h = some r:=run_i (an:=a66) Try.func66 (by kernel_rfl) (.trans (by kernel_rfl) hx)
noncomputable def B67_0 (base : Nat) : Body:=fun l h=>lay s67_0 l fun s=>exCode (Et base) (run (Et base)) loopL a67_0 (subC [1,1,0,1,0,0] (bodyC Try.f67)) s h (keepK s67_0 e67_0)
theorem B67_0_eq (base : Nat) (v0 : Option Addr) (v0n : Nat) (v1 : Option Addr) (v1n : Nat) (v5 : Int) (h : AH) : B67_0 base [some (vL v0 v0n),some (vL v1 v1n),some (vI v5)] h =
((if (decide (v5 < ((v0n : Nat) : Int))) = true then
(if 0≤v5∧v5 < ((v0n : Nat) : Int) then
((v0 : Option Addr)).bind fun a1=>
c_IIIIIT h a1.block (a1.off + Int.toNat v5 * 6) fun n2 n3 n4 n5 n6 s7=>
(if 0≤v5∧v5 < ((v1n : Nat) : Int) then
((v1 : Option Addr)).bind fun a8=>
c_IIIIIT h a8.block (a8.off + Int.toNat v5 * 6) fun n9 n10 n11 n12 n13 s14=>
(run (Et base) 126 [(.agg #[(vI n2),(vI n3),(vI n4),(vI n5),(vI n6),(vT s7)]),(.agg #[(vI n9),(vI n10),(vI n11),(vI n12),(vI n13),(vT s14)])] h).bind fun r15=>
((some r15.1).bind getB).bind fun b16=>
(if (!b16) = true then
some (1,[some (.bool false)],r15.2)
else
some (0,[some (vL v0 v0n),some (vL v1 v1n),some (vI (IntKind.wrap .i64 (v5 + (1 : Int))))],r15.2))
else none)
else none)
else
some (2,[],h)) : Option (Nat × Slots × AH)):=by kernel_rfl
theorem r67 {base : Nat} {v0 : Option Addr} {v0n : Nat} {v1 : Option Addr} {v1n : Nat} {h : AH} {r : Value × AH} (hx : ((if (((v0n : Nat) : Int) != ((v1n : Nat) : Int)) = true then
some ((.bool false),h)
else
(loopL (B67_0 base) [some (.slice v0 v0n v0n),some (.slice v1 v1n v1n),some (.int .i64 (0 : Int))] h).bind fun q1=>
(if q1.1 = 1 then
((sget q1.2.1 0).bind getB).bind fun b2=>
some ((.bool b2),q1.2.2)
else
(if q1.1 = 2 then
some ((.bool true),q1.2.2)
else
none)))) = some r) : run (Et base) 67 [(vL v0 v0n),(vL v1 v1n)] h = some r:=run_i (an:=a67) Try.func67 (by kernel_rfl) (.trans (by kernel_rfl) hx)
noncomputable def B68_0 (base : Nat) : Body:=fun l h=>lay s68_0 l fun s=>exCode (Et base) (run (Et base)) loopL a68_0 (subC [1,1,0,1,0,0] (bodyC Try.f68)) s h (keepK s68_0 e68_0)
theorem B68_0_eq (base : Nat) (v0 : Option Addr) (v0n : Nat) (v1 : Option Addr) (v1n : Nat) (v5 : Int) (h : AH) : B68_0 base [some (vL v0 v0n),some (vL v1 v1n),some (vI v5)] h =
((if (decide (v5 < ((v0n : Nat) : Int))) = true then
(if 0≤v5∧v5 < ((v0n : Nat) : Int) then
((v0 : Option Addr)).bind fun a1=>
c_IILLL h a1.block (a1.off + Int.toNat v5 * 5) fun n2 n3 l4 l5 l6=>
(if 0≤v5∧v5 < ((v1n : Nat) : Int) then
((v1 : Option Addr)).bind fun a7=>
c_IILLL h a7.block (a7.off + Int.toNat v5 * 5) fun n8 n9 l10 l11 l12=>
(run (Et base) 127 [(.agg #[(vI n2),(vI n3),(vL l4.1 l4.2),(vL l5.1 l5.2),(vL l6.1 l6.2)]),(.agg #[(vI n8),(vI n9),(vL l10.1 l10.2),(vL l11.1 l11.2),(vL l12.1 l12.2)])] h).bind fun r13=>
((some r13.1).bind getB).bind fun b14=>
(if (!b14) = true then
some (1,[some (.bool false)],r13.2)
else
some (0,[some (vL v0 v0n),some (vL v1 v1n),some (vI (IntKind.wrap .i64 (v5 + (1 : Int))))],r13.2))
else none)
else none)
else
some (2,[],h)) : Option (Nat × Slots × AH)):=by kernel_rfl
theorem r68 {base : Nat} {v0 : Option Addr} {v0n : Nat} {v1 : Option Addr} {v1n : Nat} {h : AH} {r : Value × AH} (hx : ((if (((v0n : Nat) : Int) != ((v1n : Nat) : Int)) = true then
some ((.bool false),h)
else
(loopL (B68_0 base) [some (.slice v0 v0n v0n),some (.slice v1 v1n v1n),some (.int .i64 (0 : Int))] h).bind fun q1=>
(if q1.1 = 1 then
((sget q1.2.1 0).bind getB).bind fun b2=>
some ((.bool b2),q1.2.2)
else
(if q1.1 = 2 then
some ((.bool true),q1.2.2)
else
none)))) = some r) : run (Et base) 68 [(vL v0 v0n),(vL v1 v1n)] h = some r:=run_i (an:=a68) Try.func68 (by kernel_rfl) (.trans (by kernel_rfl) hx)
noncomputable def B69_0 (base : Nat) : Body:=fun l h=>lay s69_0 l fun s=>exCode (Et base) (run (Et base)) loopL a69_0 (subC [1,1,0,1,0,0] (bodyC Try.f69)) s h (keepK s69_0 e69_0)
theorem B69_0_eq (base : Nat) (v0 : Option Addr) (v0n : Nat) (v1 : Option Addr) (v1n : Nat) (v5 : Int) (h : AH) : B69_0 base [some (vL v0 v0n),some (vL v1 v1n),some (vI v5)] h =
((if (decide (v5 < ((v0n : Nat) : Int))) = true then
(if 0≤v5∧v5 < ((v0n : Nat) : Int) then
((v0 : Option Addr)).bind fun a1=>
c_IIIITL h a1.block (a1.off + Int.toNat v5 * 6) fun n2 n3 n4 n5 s6 l7=>
(if 0≤v5∧v5 < ((v1n : Nat) : Int) then
((v1 : Option Addr)).bind fun a8=>
c_IIIITL h a8.block (a8.off + Int.toNat v5 * 6) fun n9 n10 n11 n12 s13 l14=>
(run (Et base) 128 [(.agg #[(vI n2),(vI n3),(vI n4),(vI n5),(vT s6),(vL l7.1 l7.2)]),(.agg #[(vI n9),(vI n10),(vI n11),(vI n12),(vT s13),(vL l14.1 l14.2)])] h).bind fun r15=>
((some r15.1).bind getB).bind fun b16=>
(if (!b16) = true then
some (1,[some (.bool false)],r15.2)
else
some (0,[some (vL v0 v0n),some (vL v1 v1n),some (vI (IntKind.wrap .i64 (v5 + (1 : Int))))],r15.2))
else none)
else none)
else
some (2,[],h)) : Option (Nat × Slots × AH)):=by kernel_rfl
theorem r69 {base : Nat} {v0 : Option Addr} {v0n : Nat} {v1 : Option Addr} {v1n : Nat} {h : AH} {r : Value × AH} (hx : ((if (((v0n : Nat) : Int) != ((v1n : Nat) : Int)) = true then
some ((.bool false),h)
else
(loopL (B69_0 base) [some (.slice v0 v0n v0n),some (.slice v1 v1n v1n),some (.int .i64 (0 : Int))] h).bind fun q1=>
(if q1.1 = 1 then
((sget q1.2.1 0).bind getB).bind fun b2=>
some ((.bool b2),q1.2.2)
else
(if q1.1 = 2 then
some ((.bool true),q1.2.2)
else
none)))) = some r) : run (Et base) 69 [(vL v0 v0n),(vL v1 v1n)] h = some r:=run_i (an:=a69) Try.func69 (by kernel_rfl) (.trans (by kernel_rfl) hx)
noncomputable def B70_0 (base : Nat) : Body:=fun l h=>lay s70_0 l fun s=>exCode (Et base) (run (Et base)) loopL a70_0 (subC [1,1,0,1,0,0] (bodyC Try.f70)) s h (keepK s70_0 e70_0)
theorem B70_0_eq (base : Nat) (v0 : Option Addr) (v0n : Nat) (v1 : Option Addr) (v1n : Nat) (v5 : Int) (h : AH) : B70_0 base [some (vL v0 v0n),some (vL v1 v1n),some (vI v5)] h =
((if (decide (v5 < ((v0n : Nat) : Int))) = true then
(if 0≤v5∧v5 < ((v0n : Nat) : Int) then
((v0 : Option Addr)).bind fun a1=>
((cell h a1.block (a1.off + Int.toNat v5 * 4)).bind (getI .i64)).bind fun n2=>
((cell h a1.block ((a1.off + Int.toNat v5 * 4) + 1)).bind (getI .i64)).bind fun n3=>
((cell h a1.block (((a1.off + Int.toNat v5 * 4) + 1) + 1)).bind getStr).bind fun s4=>
((cell h a1.block ((((a1.off + Int.toNat v5 * 4) + 1) + 1) + 1)).bind getS).bind fun l5=>
(if 0≤v5∧v5 < ((v1n : Nat) : Int) then
((v1 : Option Addr)).bind fun a6=>
((cell h a6.block (a6.off + Int.toNat v5 * 4)).bind (getI .i64)).bind fun n7=>
((cell h a6.block ((a6.off + Int.toNat v5 * 4) + 1)).bind (getI .i64)).bind fun n8=>
((cell h a6.block (((a6.off + Int.toNat v5 * 4) + 1) + 1)).bind getStr).bind fun s9=>
((cell h a6.block ((((a6.off + Int.toNat v5 * 4) + 1) + 1) + 1)).bind getS).bind fun l10=>
(run (Et base) 18 [(.agg #[(.int .i64 n2),(.int .i64 n3),(.string s4),(.slice l5.1 l5.2 l5.2)]),(.agg #[(.int .i64 n7),(.int .i64 n8),(.string s9),(.slice l10.1 l10.2 l10.2)])] h).bind fun r11=>
((some r11.1).bind getB).bind fun b12=>
(if (!b12) = true then
some (1,[some (.bool false)],r11.2)
else
some (0,[some (.slice v0 v0n v0n),some (.slice v1 v1n v1n),some (.int .i64 (IntKind.wrap .i64 (v5 + (1 : Int))))],r11.2))
else none)
else none)
else
some (2,[],h)) : Option (Nat × Slots × AH)):=by kernel_rfl
theorem r70 {base : Nat} {v0 : Option Addr} {v0n : Nat} {v1 : Option Addr} {v1n : Nat} {h : AH} {r : Value × AH} (hx : ((if (((v0n : Nat) : Int) != ((v1n : Nat) : Int)) = true then
some ((.bool false),h)
else
(loopL (B70_0 base) [some (.slice v0 v0n v0n),some (.slice v1 v1n v1n),some (.int .i64 (0 : Int))] h).bind fun q1=>
(if q1.1 = 1 then
((sget q1.2.1 0).bind getB).bind fun b2=>
some ((.bool b2),q1.2.2)
else
(if q1.1 = 2 then
some ((.bool true),q1.2.2)
else
none)))) = some r) : run (Et base) 70 [(vL v0 v0n),(vL v1 v1n)] h = some r:=run_i (an:=a70) Try.func70 (by kernel_rfl) (.trans (by kernel_rfl) hx)
noncomputable def B71_0 (base : Nat) : Body:=fun l h=>lay s71_0 l fun s=>exCode (Et base) (run (Et base)) loopL a71_0 (subC [1,0,1,0,0] (bodyC Try.f71)) s h (keepK s71_0 e71_0)
theorem B71_0_eq (base : Nat) (v0 : Option Addr) (v0n : Nat) (v1 : Int) (v5 : Int) (h : AH) : B71_0 base [some (vL v0 v0n),some (vI v1),some (vI v5)] h =
((if (decide (v5 < ((v0n : Nat) : Int))) = true then
(if 0≤v5∧v5 < ((v0n : Nat) : Int) then
((v0 : Option Addr)).bind fun a1=>
(wr base h a1.block ((a1.off + Int.toNat v5 * 6) + 0) [(vI v1)]).bind fun h2=>
(if 0≤v5∧v5 < ((v0n : Nat) : Int) then
((v0 : Option Addr)).bind fun a3=>
(wr base h2 a3.block ((a3.off + Int.toNat v5 * 6) + 1) [(vI (IntKind.wrap .i64 (v1 + (1 : Int))))]).bind fun h4=>
(if 0≤v5∧v5 < ((v0n : Nat) : Int) then
((v0 : Option Addr)).bind fun a5=>
(wr base h4 a5.block ((a5.off + Int.toNat v5 * 6) + 2) [(vI (IntKind.wrap .i64 ((IntKind.wrap .i64 (v1 + (1 : Int))) + (1 : Int))))]).bind fun h6=>
(if 0≤v5∧v5 < ((v0n : Nat) : Int) then
((v0 : Option Addr)).bind fun a7=>
(wr base h6 a7.block ((a7.off + Int.toNat v5 * 6) + 3) [(vI (IntKind.wrap .i64 ((IntKind.wrap .i64 ((IntKind.wrap .i64 (v1 + (1 : Int))) + (1 : Int))) + (1 : Int))))]).bind fun h8=>
(if 0≤v5∧v5 < ((v0n : Nat) : Int) then
((v0 : Option Addr)).bind fun a9=>
(wr base h8 a9.block ((a9.off + Int.toNat v5 * 6) + 4) [(vI (IntKind.wrap .i64 ((IntKind.wrap .i64 ((IntKind.wrap .i64 ((IntKind.wrap .i64 (v1 + (1 : Int))) + (1 : Int))) + (1 : Int))) + (1 : Int))))]).bind fun h10=>
(run (Et base) 100 [(vI (IntKind.wrap .i64 ((IntKind.wrap .i64 ((IntKind.wrap .i64 ((IntKind.wrap .i64 ((IntKind.wrap .i64 (v1 + (1 : Int))) + (1 : Int))) + (1 : Int))) + (1 : Int))) + (1 : Int))))] h10).bind fun r11=>
((some r11.1).bind getStr).bind fun s12=>
(if 0≤v5∧v5 < ((v0n : Nat) : Int) then
((v0 : Option Addr)).bind fun a13=>
(wr base r11.2 a13.block ((a13.off + Int.toNat v5 * 6) + 5) [(vT s12)]).bind fun h14=>
some (0,[some (vL v0 v0n),some (vI (IntKind.wrap .i64 ((IntKind.wrap .i64 ((IntKind.wrap .i64 ((IntKind.wrap .i64 ((IntKind.wrap .i64 ((IntKind.wrap .i64 (v1 + (1 : Int))) + (1 : Int))) + (1 : Int))) + (1 : Int))) + (1 : Int))) + (1 : Int)))),some (vI (IntKind.wrap .i64 (v5 + (1 : Int))))],h14)
else none)
else none)
else none)
else none)
else none)
else none)
else
some (2,[some (vI v1)],h)) : Option (Nat × Slots × AH)):=by kernel_rfl
theorem r71 {base : Nat} {v0 : Option Addr} {v0n : Nat} {v1 : Int} {h : AH} {r : Value × AH} (hx : ((loopL (B71_0 base) [some (.slice v0 v0n v0n),some (.int .i64 v1),some (.int .i64 (0 : Int))] h).bind fun q1=>
(if q1.1 = 2 then
((sget q1.2.1 0).bind (getI .i64)).bind fun n2=>
some ((.int .i64 n2),q1.2.2)
else
none)) = some r) : run (Et base) 71 [(vL v0 v0n),(vI v1)] h = some r:=run_i (an:=a71) Try.func71 (by kernel_rfl) (.trans (by kernel_rfl) hx)
noncomputable def B72_0 (base : Nat) : Body:=fun l h=>lay s72_0 l fun s=>exCode (Et base) (run (Et base)) loopL a72_0 (subC [1,0,1,0,0] (bodyC Try.f72)) s h (keepK s72_0 e72_0)
theorem B72_0_eq (base : Nat) (v0 : Option Addr) (v0n : Nat) (v1 : Int) (v5 : Int) (h : AH) : B72_0 base [some (vL v0 v0n),some (vI v1),some (vI v5)] h =
((if (decide (v5 < ((v0n : Nat) : Int))) = true then
(if 0≤v5∧v5 < ((v0n : Nat) : Int) then
((v0 : Option Addr)).bind fun a1=>
(wr base h a1.block ((a1.off + Int.toNat v5 * 5) + 0) [(vI v1)]).bind fun h2=>
(if 0≤v5∧v5 < ((v0n : Nat) : Int) then
((v0 : Option Addr)).bind fun a3=>
(wr base h2 a3.block ((a3.off + Int.toNat v5 * 5) + 1) [(vI (IntKind.wrap .i64 (v1 + (1 : Int))))]).bind fun h4=>
(if 0≤v5∧v5 < ((v0n : Nat) : Int) then
((v0 : Option Addr)).bind fun a5=>
((cell h4 a5.block ((a5.off + Int.toNat v5 * 5) + 2)).bind getS).bind fun l6=>
(run (Et base) 74 [(vL l6.1 l6.2),(vI (IntKind.wrap .i64 ((IntKind.wrap .i64 (v1 + (1 : Int))) + (1 : Int))))] h4).bind fun r7=>
((some r7.1).bind (getI .i64)).bind fun n8=>
(if 0≤v5∧v5 < ((v0n : Nat) : Int) then
((v0 : Option Addr)).bind fun a9=>
((cell r7.2 a9.block ((a9.off + Int.toNat v5 * 5) + 3)).bind getS).bind fun l10=>
(run (Et base) 74 [(vL l10.1 l10.2),(vI n8)] r7.2).bind fun r11=>
((some r11.1).bind (getI .i64)).bind fun n12=>
(if 0≤v5∧v5 < ((v0n : Nat) : Int) then
((v0 : Option Addr)).bind fun a13=>
((cell r11.2 a13.block ((a13.off + Int.toNat v5 * 5) + 4)).bind getS).bind fun l14=>
(run (Et base) 42 [(vL l14.1 l14.2),(vI n12)] r11.2).bind fun r15=>
((some r15.1).bind (getI .i64)).bind fun n16=>
some (0,[some (vL v0 v0n),some (vI n16),some (vI (IntKind.wrap .i64 (v5 + (1 : Int))))],r15.2)
else none)
else none)
else none)
else none)
else none)
else
some (2,[some (vI v1)],h)) : Option (Nat × Slots × AH)):=by kernel_rfl
theorem r72 {base : Nat} {v0 : Option Addr} {v0n : Nat} {v1 : Int} {h : AH} {r : Value × AH} (hx : ((loopL (B72_0 base) [some (.slice v0 v0n v0n),some (.int .i64 v1),some (.int .i64 (0 : Int))] h).bind fun q1=>
(if q1.1 = 2 then
((sget q1.2.1 0).bind (getI .i64)).bind fun n2=>
some ((.int .i64 n2),q1.2.2)
else
none)) = some r) : run (Et base) 72 [(vL v0 v0n),(vI v1)] h = some r:=run_i (an:=a72) Try.func72 (by kernel_rfl) (.trans (by kernel_rfl) hx)
noncomputable def B73_0 (base : Nat) : Body:=fun l h=>lay s73_0 l fun s=>exCode (Et base) (run (Et base)) loopL a73_0 (subC [1,0,1,0,0] (bodyC Try.f73)) s h (keepK s73_0 e73_0)
theorem B73_0_eq (base : Nat) (v0 : Option Addr) (v0n : Nat) (v1 : Int) (v5 : Int) (h : AH) : B73_0 base [some (vL v0 v0n),some (vI v1),some (vI v5)] h =
((if (decide (v5 < ((v0n : Nat) : Int))) = true then
(if 0≤v5∧v5 < ((v0n : Nat) : Int) then
((v0 : Option Addr)).bind fun a1=>
(wr base h a1.block ((a1.off + Int.toNat v5 * 6) + 0) [(vI v1)]).bind fun h2=>
(if 0≤v5∧v5 < ((v0n : Nat) : Int) then
((v0 : Option Addr)).bind fun a3=>
(wr base h2 a3.block ((a3.off + Int.toNat v5 * 6) + 1) [(vI (IntKind.wrap .i64 (v1 + (1 : Int))))]).bind fun h4=>
(if 0≤v5∧v5 < ((v0n : Nat) : Int) then
((v0 : Option Addr)).bind fun a5=>
(wr base h4 a5.block (((a5.off + Int.toNat v5 * 6) + 2) + 0) [(vI (IntKind.wrap .i64 ((IntKind.wrap .i64 (v1 + (1 : Int))) + (1 : Int))))]).bind fun h6=>
(if 0≤v5∧v5 < ((v0n : Nat) : Int) then
((v0 : Option Addr)).bind fun a7=>
(wr base h6 a7.block (((a7.off + Int.toNat v5 * 6) + 2) + 1) [(vI (IntKind.wrap .i64 ((IntKind.wrap .i64 ((IntKind.wrap .i64 (v1 + (1 : Int))) + (1 : Int))) + (1 : Int))))]).bind fun h8=>
(run (Et base) 100 [(vI (IntKind.wrap .i64 ((IntKind.wrap .i64 ((IntKind.wrap .i64 ((IntKind.wrap .i64 (v1 + (1 : Int))) + (1 : Int))) + (1 : Int))) + (1 : Int))))] h8).bind fun r9=>
((some r9.1).bind getStr).bind fun s10=>
(if 0≤v5∧v5 < ((v0n : Nat) : Int) then
((v0 : Option Addr)).bind fun a11=>
(wr base r9.2 a11.block (((a11.off + Int.toNat v5 * 6) + 2) + 2) [(vT s10)]).bind fun h12=>
(if 0≤v5∧v5 < ((v0n : Nat) : Int) then
((v0 : Option Addr)).bind fun a13=>
((cell h12 a13.block (((a13.off + Int.toNat v5 * 6) + 2) + 3)).bind getS).bind fun l14=>
(run (Et base) 74 [(vL l14.1 l14.2),(vI (IntKind.wrap .i64 ((IntKind.wrap .i64 ((IntKind.wrap .i64 ((IntKind.wrap .i64 ((IntKind.wrap .i64 (v1 + (1 : Int))) + (1 : Int))) + (1 : Int))) + (1 : Int))) + (1 : Int))))] h12).bind fun r15=>
((some r15.1).bind (getI .i64)).bind fun n16=>
some (0,[some (vL v0 v0n),some (vI n16),some (vI (IntKind.wrap .i64 (v5 + (1 : Int))))],r15.2)
else none)
else none)
else none)
else none)
else none)
else none)
else
some (2,[some (vI v1)],h)) : Option (Nat × Slots × AH)):=by kernel_rfl
theorem r73 {base : Nat} {v0 : Option Addr} {v0n : Nat} {v1 : Int} {h : AH} {r : Value × AH} (hx : ((loopL (B73_0 base) [some (.slice v0 v0n v0n),some (.int .i64 v1),some (.int .i64 (0 : Int))] h).bind fun q1=>
(if q1.1 = 2 then
((sget q1.2.1 0).bind (getI .i64)).bind fun n2=>
some ((.int .i64 n2),q1.2.2)
else
none)) = some r) : run (Et base) 73 [(vL v0 v0n),(vI v1)] h = some r:=run_i (an:=a73) Try.func73 (by kernel_rfl) (.trans (by kernel_rfl) hx)
noncomputable def B74_0 (base : Nat) : Body:=fun l h=>lay s74_0 l fun s=>exCode (Et base) (run (Et base)) loopL a74_0 (subC [1,0,1,0,0] (bodyC Try.f74)) s h (keepK s74_0 e74_0)
theorem B74_0_eq (base : Nat) (v0 : Option Addr) (v0n : Nat) (v1 : Int) (v5 : Int) (h : AH) : B74_0 base [some (vL v0 v0n),some (vI v1),some (vI v5)] h =
((if (decide (v5 < ((v0n : Nat) : Int))) = true then
(if 0≤v5∧v5 < ((v0n : Nat) : Int) then
((v0 : Option Addr)).bind fun a1=>
(wr base h a1.block ((a1.off + Int.toNat v5 * 4) + 0) [(.int .i64 v1)]).bind fun h2=>
(if 0≤v5∧v5 < ((v0n : Nat) : Int) then
((v0 : Option Addr)).bind fun a3=>
(wr base h2 a3.block ((a3.off + Int.toNat v5 * 4) + 1) [(.int .i64 (IntKind.wrap .i64 (v1 + (1 : Int))))]).bind fun h4=>
(run (Et base) 100 [(.int .i64 (IntKind.wrap .i64 ((IntKind.wrap .i64 (v1 + (1 : Int))) + (1 : Int))))] h4).bind fun r5=>
((some r5.1).bind getStr).bind fun s6=>
(if 0≤v5∧v5 < ((v0n : Nat) : Int) then
((v0 : Option Addr)).bind fun a7=>
(wr base r5.2 a7.block ((a7.off + Int.toNat v5 * 4) + 2) [(.string s6)]).bind fun h8=>
(if 0≤v5∧v5 < ((v0n : Nat) : Int) then
((v0 : Option Addr)).bind fun a9=>
((cell h8 a9.block ((a9.off + Int.toNat v5 * 4) + 3)).bind getS).bind fun l10=>
(run (Et base) 74 [(.slice l10.1 l10.2 l10.2),(.int .i64 (IntKind.wrap .i64 ((IntKind.wrap .i64 ((IntKind.wrap .i64 (v1 + (1 : Int))) + (1 : Int))) + (1 : Int))))] h8).bind fun r11=>
((some r11.1).bind (getI .i64)).bind fun n12=>
some (0,[some (.slice v0 v0n v0n),some (.int .i64 n12),some (.int .i64 (IntKind.wrap .i64 (v5 + (1 : Int))))],r11.2)
else none)
else none)
else none)
else none)
else
some (2,[some (.int .i64 v1)],h)) : Option (Nat × Slots × AH)):=by kernel_rfl
theorem r74 {base : Nat} {v0 : Option Addr} {v0n : Nat} {v1 : Int} {h : AH} {r : Value × AH} (hx : ((loopL (B74_0 base) [some (.slice v0 v0n v0n),some (.int .i64 v1),some (.int .i64 (0 : Int))] h).bind fun q1=>
(if q1.1 = 2 then
((sget q1.2.1 0).bind (getI .i64)).bind fun n2=>
some ((.int .i64 n2),q1.2.2)
else
none)) = some r) : run (Et base) 74 [(vL v0 v0n),(vI v1)] h = some r:=run_i (an:=a74) Try.func74 (by kernel_rfl) (.trans (by kernel_rfl) hx)
noncomputable def B75_0 (base : Nat) : Body:=fun l h=>lay s75_0 l fun s=>exCode (Et base) (run (Et base)) loopL a75_0 (subC [1,0,1,0,0] (bodyC Try.f75)) s h (keepK s75_0 e75_0)
theorem B75_0_eq (base : Nat) (v0 : Option Addr) (v0n : Nat) (v1 : Int) (v5 : Int) (h : AH) : B75_0 base [some (vL v0 v0n),some (vI v1),some (vI v5)] h =
((if (decide (v5 < ((v0n : Nat) : Int))) = true then
(if 0≤v5∧v5 < ((v0n : Nat) : Int) then
((v0 : Option Addr)).bind fun a1=>
((cell h a1.block ((a1.off + Int.toNat v5 * 6) + 0)).bind (getI .i64)).bind fun n2=>
(if (n2 != v1) = true then
some (1,[some (vI (-1 : Int))],h)
else
(if 0≤v5∧v5 < ((v0n : Nat) : Int) then
((v0 : Option Addr)).bind fun a3=>
((cell h a3.block ((a3.off + Int.toNat v5 * 6) + 1)).bind (getI .i64)).bind fun n4=>
(if (n4 != (IntKind.wrap .i64 (v1 + (1 : Int)))) = true then
some (1,[some (vI (-1 : Int))],h)
else
(if 0≤v5∧v5 < ((v0n : Nat) : Int) then
((v0 : Option Addr)).bind fun a5=>
((cell h a5.block ((a5.off + Int.toNat v5 * 6) + 2)).bind (getI .i64)).bind fun n6=>
(if (n6 != (IntKind.wrap .i64 ((IntKind.wrap .i64 (v1 + (1 : Int))) + (1 : Int)))) = true then
some (1,[some (vI (-1 : Int))],h)
else
(if 0≤v5∧v5 < ((v0n : Nat) : Int) then
((v0 : Option Addr)).bind fun a7=>
((cell h a7.block ((a7.off + Int.toNat v5 * 6) + 3)).bind (getI .i64)).bind fun n8=>
(if (n8 != (IntKind.wrap .i64 ((IntKind.wrap .i64 ((IntKind.wrap .i64 (v1 + (1 : Int))) + (1 : Int))) + (1 : Int)))) = true then
some (1,[some (vI (-1 : Int))],h)
else
(if 0≤v5∧v5 < ((v0n : Nat) : Int) then
((v0 : Option Addr)).bind fun a9=>
((cell h a9.block ((a9.off + Int.toNat v5 * 6) + 4)).bind (getI .i64)).bind fun n10=>
(if (n10 != (IntKind.wrap .i64 ((IntKind.wrap .i64 ((IntKind.wrap .i64 ((IntKind.wrap .i64 (v1 + (1 : Int))) + (1 : Int))) + (1 : Int))) + (1 : Int)))) = true then
some (1,[some (vI (-1 : Int))],h)
else
(if 0≤v5∧v5 < ((v0n : Nat) : Int) then
((v0 : Option Addr)).bind fun a11=>
((cell h a11.block ((a11.off + Int.toNat v5 * 6) + 5)).bind getStr).bind fun s12=>
(run (Et base) 100 [(vI (IntKind.wrap .i64 ((IntKind.wrap .i64 ((IntKind.wrap .i64 ((IntKind.wrap .i64 ((IntKind.wrap .i64 (v1 + (1 : Int))) + (1 : Int))) + (1 : Int))) + (1 : Int))) + (1 : Int))))] h).bind fun r13=>
((some r13.1).bind getStr).bind fun s14=>
(gate (sameA h r13.2 (some ⟨a11.block,((a11.off + Int.toNat v5 * 6) + 5),none⟩) 1)
((if (!(s12.toList == s14.toList)) = true then
some (1,[some (vI (-1 : Int))],r13.2)
else
some (0,[some (vL v0 v0n),some (vI (IntKind.wrap .i64 ((IntKind.wrap .i64 ((IntKind.wrap .i64 ((IntKind.wrap .i64 ((IntKind.wrap .i64 ((IntKind.wrap .i64 (v1 + (1 : Int))) + (1 : Int))) + (1 : Int))) + (1 : Int))) + (1 : Int))) + (1 : Int)))),some (vI (IntKind.wrap .i64 (v5 + (1 : Int))))],r13.2))))
else none))
else none))
else none))
else none))
else none))
else none)
else
some (2,[some (vI v1)],h)) : Option (Nat × Slots × AH)):=by kernel_rfl
theorem r75 {base : Nat} {v0 : Option Addr} {v0n : Nat} {v1 : Int} {h : AH} {r : Value × AH} (hx : ((loopL (B75_0 base) [some (.slice v0 v0n v0n),some (.int .i64 v1),some (.int .i64 (0 : Int))] h).bind fun q1=>
(if q1.1 = 1 then
((sget q1.2.1 0).bind (getI .i64)).bind fun n2=>
some ((.int .i64 n2),q1.2.2)
else
(if q1.1 = 2 then
((sget q1.2.1 0).bind (getI .i64)).bind fun n3=>
some ((.int .i64 n3),q1.2.2)
else
none))) = some r) : run (Et base) 75 [(vL v0 v0n),(vI v1)] h = some r:=run_i (an:=a75) Try.func75 (by kernel_rfl) (.trans (by kernel_rfl) hx)
noncomputable def B76_0 (base : Nat) : Body:=fun l h=>lay s76_0 l fun s=>exCode (Et base) (run (Et base)) loopL a76_0 (subC [1,0,1,0,0] (bodyC Try.f76)) s h (keepK s76_0 e76_0)
theorem B76_0_eq (base : Nat) (v0 : Option Addr) (v0n : Nat) (v1 : Int) (v5 : Int) (h : AH) : B76_0 base [some (vL v0 v0n),some (vI v1),some (vI v5)] h =
((if (decide (v5 < ((v0n : Nat) : Int))) = true then
(if 0≤v5∧v5 < ((v0n : Nat) : Int) then
((v0 : Option Addr)).bind fun a1=>
((cell h a1.block ((a1.off + Int.toNat v5 * 5) + 0)).bind (getI .i64)).bind fun n2=>
(if (n2 != v1) = true then
some (1,[some (vI (-1 : Int))],h)
else
(if 0≤v5∧v5 < ((v0n : Nat) : Int) then
((v0 : Option Addr)).bind fun a3=>
((cell h a3.block ((a3.off + Int.toNat v5 * 5) + 1)).bind (getI .i64)).bind fun n4=>
(if (n4 != (IntKind.wrap .i64 (v1 + (1 : Int)))) = true then
some (1,[some (vI (-1 : Int))],h)
else
(if 0≤v5∧v5 < ((v0n : Nat) : Int) then
((v0 : Option Addr)).bind fun a5=>
((cell h a5.block ((a5.off + Int.toNat v5 * 5) + 2)).bind getS).bind fun l6=>
(run (Et base) 129 [(vL l6.1 l6.2),(vI (IntKind.wrap .i64 ((IntKind.wrap .i64 (v1 + (1 : Int))) + (1 : Int))))] h).bind fun r7=>
((some r7.1).bind (getI .i64)).bind fun n8=>
(if (decide (n8 < (0 : Int))) = true then
some (1,[some (vI (-1 : Int))],r7.2)
else
(if 0≤v5∧v5 < ((v0n : Nat) : Int) then
((v0 : Option Addr)).bind fun a9=>
((cell r7.2 a9.block ((a9.off + Int.toNat v5 * 5) + 3)).bind getS).bind fun l10=>
(run (Et base) 129 [(vL l10.1 l10.2),(vI n8)] r7.2).bind fun r11=>
((some r11.1).bind (getI .i64)).bind fun n12=>
(if (decide (n12 < (0 : Int))) = true then
some (1,[some (vI (-1 : Int))],r11.2)
else
(if 0≤v5∧v5 < ((v0n : Nat) : Int) then
((v0 : Option Addr)).bind fun a13=>
((cell r11.2 a13.block ((a13.off + Int.toNat v5 * 5) + 4)).bind getS).bind fun l14=>
(run (Et base) 44 [(vL l14.1 l14.2),(vI n12)] r11.2).bind fun r15=>
((some r15.1).bind (getI .i64)).bind fun n16=>
(if (decide (n16 < (0 : Int))) = true then
some (1,[some (vI (-1 : Int))],r15.2)
else
some (0,[some (vL v0 v0n),some (vI n16),some (vI (IntKind.wrap .i64 (v5 + (1 : Int))))],r15.2))
else none))
else none))
else none))
else none))
else none)
else
some (2,[some (vI v1)],h)) : Option (Nat × Slots × AH)):=by kernel_rfl
theorem r76 {base : Nat} {v0 : Option Addr} {v0n : Nat} {v1 : Int} {h : AH} {r : Value × AH} (hx : ((loopL (B76_0 base) [some (.slice v0 v0n v0n),some (.int .i64 v1),some (.int .i64 (0 : Int))] h).bind fun q1=>
(if q1.1 = 1 then
((sget q1.2.1 0).bind (getI .i64)).bind fun n2=>
some ((.int .i64 n2),q1.2.2)
else
(if q1.1 = 2 then
((sget q1.2.1 0).bind (getI .i64)).bind fun n3=>
some ((.int .i64 n3),q1.2.2)
else
none))) = some r) : run (Et base) 76 [(vL v0 v0n),(vI v1)] h = some r:=run_i (an:=a76) Try.func76 (by kernel_rfl) (.trans (by kernel_rfl) hx)
noncomputable def B77_0 (base : Nat) : Body:=fun l h=>lay s77_0 l fun s=>exCode (Et base) (run (Et base)) loopL a77_0 (subC [1,0,1,0,0] (bodyC Try.f77)) s h (keepK s77_0 e77_0)
theorem B77_0_eq (base : Nat) (v0 : Option Addr) (v0n : Nat) (v1 : Int) (v5 : Int) (h : AH) : B77_0 base [some (vL v0 v0n),some (vI v1),some (vI v5)] h =
((if (decide (v5 < ((v0n : Nat) : Int))) = true then
(if 0≤v5∧v5 < ((v0n : Nat) : Int) then
((v0 : Option Addr)).bind fun a1=>
((cell h a1.block ((a1.off + Int.toNat v5 * 6) + 0)).bind (getI .i64)).bind fun n2=>
(if (n2 != v1) = true then
some (1,[some (vI (-1 : Int))],h)
else
(if 0≤v5∧v5 < ((v0n : Nat) : Int) then
((v0 : Option Addr)).bind fun a3=>
((cell h a3.block ((a3.off + Int.toNat v5 * 6) + 1)).bind (getI .i64)).bind fun n4=>
(if (n4 != (IntKind.wrap .i64 (v1 + (1 : Int)))) = true then
some (1,[some (vI (-1 : Int))],h)
else
(if 0≤v5∧v5 < ((v0n : Nat) : Int) then
((v0 : Option Addr)).bind fun a5=>
((cell h a5.block (((a5.off + Int.toNat v5 * 6) + 2) + 0)).bind (getI .i64)).bind fun n6=>
(if (n6 != (IntKind.wrap .i64 ((IntKind.wrap .i64 (v1 + (1 : Int))) + (1 : Int)))) = true then
some (1,[some (vI (-1 : Int))],h)
else
(if 0≤v5∧v5 < ((v0n : Nat) : Int) then
((v0 : Option Addr)).bind fun a7=>
((cell h a7.block (((a7.off + Int.toNat v5 * 6) + 2) + 1)).bind (getI .i64)).bind fun n8=>
(if (n8 != (IntKind.wrap .i64 ((IntKind.wrap .i64 ((IntKind.wrap .i64 (v1 + (1 : Int))) + (1 : Int))) + (1 : Int)))) = true then
some (1,[some (vI (-1 : Int))],h)
else
(if 0≤v5∧v5 < ((v0n : Nat) : Int) then
((v0 : Option Addr)).bind fun a9=>
((cell h a9.block (((a9.off + Int.toNat v5 * 6) + 2) + 2)).bind getStr).bind fun s10=>
(run (Et base) 100 [(vI (IntKind.wrap .i64 ((IntKind.wrap .i64 ((IntKind.wrap .i64 ((IntKind.wrap .i64 (v1 + (1 : Int))) + (1 : Int))) + (1 : Int))) + (1 : Int))))] h).bind fun r11=>
((some r11.1).bind getStr).bind fun s12=>
(gate (sameA h r11.2 (some ⟨a9.block,(((a9.off + Int.toNat v5 * 6) + 2) + 2),none⟩) 1)
((if (!(s10.toList == s12.toList)) = true then
some (1,[some (vI (-1 : Int))],r11.2)
else
(if 0≤v5∧v5 < ((v0n : Nat) : Int) then
((v0 : Option Addr)).bind fun a13=>
((cell r11.2 a13.block (((a13.off + Int.toNat v5 * 6) + 2) + 3)).bind getS).bind fun l14=>
(run (Et base) 129 [(vL l14.1 l14.2),(vI (IntKind.wrap .i64 ((IntKind.wrap .i64 ((IntKind.wrap .i64 ((IntKind.wrap .i64 ((IntKind.wrap .i64 (v1 + (1 : Int))) + (1 : Int))) + (1 : Int))) + (1 : Int))) + (1 : Int))))] r11.2).bind fun r15=>
((some r15.1).bind (getI .i64)).bind fun n16=>
(if (decide (n16 < (0 : Int))) = true then
some (1,[some (vI (-1 : Int))],r15.2)
else
some (0,[some (vL v0 v0n),some (vI n16),some (vI (IntKind.wrap .i64 (v5 + (1 : Int))))],r15.2))
else none))))
else none))
else none))
else none))
else none))
else none)
else
some (2,[some (vI v1)],h)) : Option (Nat × Slots × AH)):=by kernel_rfl
theorem r77 {base : Nat} {v0 : Option Addr} {v0n : Nat} {v1 : Int} {h : AH} {r : Value × AH} (hx : ((loopL (B77_0 base) [some (.slice v0 v0n v0n),some (.int .i64 v1),some (.int .i64 (0 : Int))] h).bind fun q1=>
(if q1.1 = 1 then
((sget q1.2.1 0).bind (getI .i64)).bind fun n2=>
some ((.int .i64 n2),q1.2.2)
else
(if q1.1 = 2 then
((sget q1.2.1 0).bind (getI .i64)).bind fun n3=>
some ((.int .i64 n3),q1.2.2)
else
none))) = some r) : run (Et base) 77 [(vL v0 v0n),(vI v1)] h = some r:=run_i (an:=a77) Try.func77 (by kernel_rfl) (.trans (by kernel_rfl) hx)
noncomputable def B82_0 (base : Nat) : Body:=fun l h=>lay s82_0 l fun s=>exCode (Et base) (run (Et base)) loopL a82_0 (subC [1,1,0,1,0,0] (bodyC Try.f82)) s h (keepK s82_0 e82_0)
theorem B82_0_eq (base : Nat) (v0 : Option Addr) (v0n : Nat) (v3 : Int) (v8 : Option Addr) (v8n : Nat) (v9 : Int) (v10 : Int) (h : AH) : B82_0 base [some (vL v0 v0n),some (vI v3),some (vL v8 v8n),some (vI v9),some (vI v10)] h =
((if (decide (v10 < v9)) = true then
(if 0≤v10∧v10 < ((v8n : Nat) : Int) then
((v8 : Option Addr)).bind fun a1=>
c_IIIIIT h a1.block (a1.off + Int.toNat v10 * 6) fun n2 n3 n4 n5 n6 s7=>
nw1 h 143 [(vI 0),(vI 0),(vI 0),(vI 0),(vI 0),(vT ⟨#[]⟩)] fun h8=>
(wr base h8 (List.length h) 0 [(vI n2),(vI n3),(vI n4),(vI n5),(vI n6),(vT s7)]).bind fun h9=>
c_IIIIIT h9 (List.length h) 0 fun n10 n11 n12 n13 n14 s15=>
(run (Et base) 139 [(.agg #[(vI n10),(vI n11),(vI n12),(vI n13),(vI n14),(vT s15)]),(vI v3)] h9).bind fun r16=>
((some r16.1).bind getB).bind fun b17=>
(if (!b17) = true then
some (1,[some (.bool false)],r16.2)
else
some (0,[some (vL v0 v0n),some (vI v3),some (vL v8 v8n),some (vI v9),some (vI (IntKind.wrap .i64 (v10 + (1 : Int))))],r16.2))
else none)
else
some (2,[some (vL v0 v0n),some (vI v3)],h)) : Option (Nat × Slots × AH)):=by kernel_rfl
theorem r82 {base : Nat} {v0 : Option Addr} {v0n : Nat} {h : AH} {r : Value × AH} (hx : ((loopL (B82_0 base) [some (.slice v0 v0n v0n),some (.int .i64 ((v0n : Nat) : Int)),some (.slice v0 v0n v0n),some (.int .i64 ((v0n : Nat) : Int)),some (.int .i64 (0 : Int))] h).bind fun q1=>
(if q1.1 = 1 then
((sget q1.2.1 0).bind getB).bind fun b2=>
some ((.bool b2),q1.2.2)
else
(if q1.1 = 2 then
((sget q1.2.1 0).bind getS).bind fun l3=>
((sget (q1.2.1.tail) 0).bind (getI .i64)).bind fun n4=>
(run (Et base) 83 [(.int .i64 n4),(.int .i64 (1 : Int)),(.int .i64 (200 : Int))] q1.2.2).bind fun r5=>
((some r5.1).bind getB).bind fun b6=>
(if b6 = true then
(if 0≤(IntKind.wrap .i64 (n4 - (1 : Int)))∧(IntKind.wrap .i64 (n4 - (1 : Int))) < ((l3.2 : Nat) : Int) then
((l3.1 : Option Addr)).bind fun a7=>
((cell r5.2 a7.block ((a7.off + Int.toNat (IntKind.wrap .i64 (n4 - (1 : Int))) * 6) + 0)).bind (getI .i64)).bind fun n8=>
(if (n8 == (19 : Int)) = true then
some ((.bool true),r5.2)
else
(if 0≤(IntKind.wrap .i64 (n4 - (1 : Int)))∧(IntKind.wrap .i64 (n4 - (1 : Int))) < ((l3.2 : Nat) : Int) then
((l3.1 : Option Addr)).bind fun a9=>
((cell r5.2 a9.block ((a9.off + Int.toNat (IntKind.wrap .i64 (n4 - (1 : Int))) * 6) + 0)).bind (getI .i64)).bind fun n10=>
some ((.bool (n10 == (12 : Int))),r5.2)
else none))
else none)
else
some ((.bool false),r5.2))
else
none))) = some r) : run (Et base) 82 [(vL v0 v0n)] h = some r:=run_i (an:=a82) Try.func82 (by kernel_rfl) (.trans (by kernel_rfl) hx)
theorem r83 {base : Nat} {v0 : Int} {v1 : Int} {v2 : Int} {h : AH} {r : Value × AH} (hx : ((if (decide (v0 ≥ v1)) = true then
some ((.bool (decide (v0≤v2))),h)
else
some ((.bool false),h))) = some r) : run (Et base) 83 [(vI v0),(vI v1),(vI v2)] h = some r:=run_i (an:=a83) Try.func83 (by kernel_rfl) (.trans (by kernel_rfl) hx)
noncomputable def B84_0 (base : Nat) : Body:=fun l h=>lay s84_0 l fun s=>exCode (Et base) (run (Et base)) loopL a84_0 (subC [1,0,1,0,0] (bodyC Try.f84)) s h (keepK s84_0 e84_0)
theorem B84_0_eq (base : Nat) (v5 : Option Addr) (v5n : Nat) (v6 : Int) (v7 : Int) (h : AH) : B84_0 base [some (vL v5 v5n),some (vI v6),some (vI v7)] h =
((if (decide (v7 < v6)) = true then
(if 0≤v7∧v7 < ((v5n : Nat) : Int) then
((v5 : Option Addr)).bind fun a1=>
((cell h a1.block (a1.off + Int.toNat v7 * 4)).bind (getI .i64)).bind fun n2=>
((cell h a1.block ((a1.off + Int.toNat v7 * 4) + 1)).bind (getI .i64)).bind fun n3=>
((cell h a1.block (((a1.off + Int.toNat v7 * 4) + 1) + 1)).bind getStr).bind fun s4=>
((cell h a1.block ((((a1.off + Int.toNat v7 * 4) + 1) + 1) + 1)).bind getS).bind fun l5=>
(some (h++[some ⟨[(.int .i64 0),(.int .i64 0),(.string ⟨#[]⟩),(.slice none 0 0)],42⟩])).bind fun h6=>
(wr base h6 (List.length h) 0 [(.int .i64 n2),(.int .i64 n3),(.string s4),(.slice l5.1 l5.2 l5.2)]).bind fun h7=>
((cell h7 (List.length h) 0).bind (getI .i64)).bind fun n8=>
((cell h7 (List.length h) 1).bind (getI .i64)).bind fun n9=>
((cell h7 (List.length h) 2).bind getStr).bind fun s10=>
((cell h7 (List.length h) 3).bind getS).bind fun l11=>
(run (Et base) 65 [(.agg #[(.int .i64 n8),(.int .i64 n9),(.string s10),(.slice l11.1 l11.2 l11.2)])] h7).bind fun r12=>
((some r12.1).bind getB).bind fun b13=>
(if (!b13) = true then
some (1,[some (.bool false)],r12.2)
else
some (0,[some (.slice v5 v5n v5n),some (.int .i64 v6),some (.int .i64 (IntKind.wrap .i64 (v7 + (1 : Int))))],r12.2))
else none)
else
some (2,[],h)) : Option (Nat × Slots × AH)):=by kernel_rfl
theorem r84 {base : Nat} {v0 : Option Addr} {v0n : Nat} {h : AH} {r : Value × AH} (hx : ((loopL (B84_0 base) [some (.slice v0 v0n v0n),some (.int .i64 ((v0n : Nat) : Int)),some (.int .i64 (0 : Int))] h).bind fun q1=>
(if q1.1 = 1 then
((sget q1.2.1 0).bind getB).bind fun b2=>
some ((.bool b2),q1.2.2)
else
(if q1.1 = 2 then
some ((.bool true),q1.2.2)
else
none))) = some r) : run (Et base) 84 [(vL v0 v0n)] h = some r:=run_i (an:=a84) Try.func84 (by kernel_rfl) (.trans (by kernel_rfl) hx)
noncomputable def B85_0 (base : Nat) : Body:=fun l h=>lay s85_0 l fun s=>exCode (Et base) (run (Et base)) loopL a85_0 (subC [1,0,1,0,0] (bodyC Try.f85)) s h (keepK s85_0 e85_0)
theorem B85_0_eq (base : Nat) (v0 : Option Addr) (v0n : Nat) (v1 : Int) (v7 : Option Addr) (v7n : Nat) (v8 : Int) (v9 : Int) (h : AH) : B85_0 base [some (vL v0 v0n),some (vI v1),some (vL v7 v7n),some (vI v8),some (vI v9)] h =
((if (decide (v9 < v8)) = true then
(if 0≤v9∧v9 < ((v7n : Nat) : Int) then
((v7 : Option Addr)).bind fun a1=>
((cell h a1.block (a1.off + Int.toNat v9 * 1)).bind (getI .i64)).bind fun n2=>
((run (Et base) 83 [(vI n2),(vI (1 : Int)),(vI (99999 : Int))] h).bind fun r4=>
((some r4.1).bind getB).bind fun b5=>
(if (!b5) = true then
some (.inl ([some (vL v0 v0n),some (vI v1),some (vL v7 v7n),some (vI v8),some (vI v9),some (.bool true)],r4.2))
else
(if (n2 == v1) = true then
some (.inl ([some (vL v0 v0n),some (vI v1),some (vL v7 v7n),some (vI v8),some (vI v9),some (.bool true)],r4.2))
else
(if (decide (v9 > (0 : Int))) = true then
(if 0≤(IntKind.wrap .i64 (v9 - (1 : Int)))∧(IntKind.wrap .i64 (v9 - (1 : Int))) < ((v0n : Nat) : Int) then
((v0 : Option Addr)).bind fun a6=>
((cell r4.2 a6.block (a6.off + Int.toNat (IntKind.wrap .i64 (v9 - (1 : Int))) * 1)).bind (getI .i64)).bind fun n7=>
some (.inl ([some (vL v0 v0n),some (vI v1),some (vL v7 v7n),some (vI v8),some (vI v9),some (.bool (decide (n7 ≥ n2)))],r4.2))
else none)
else
some (.inl ([some (vL v0 v0n),some (vI v1),some (vL v7 v7n),some (vI v8),some (vI v9),some (.bool false)],r4.2)))))).bind fun j3=>joinK j3 fun j3=>
j_LILIIB j3.1 fun l8 n9 l10 n11 n12 b13=>
(if b13 = true then
some (1,[some (.bool false)],j3.2)
else
some (0,[some (vL l8.1 l8.2),some (vI n9),some (vL l10.1 l10.2),some (vI n11),some (vI (IntKind.wrap .i64 (n12 + (1 : Int))))],j3.2))
else none)
else
some (2,[some (vL v0 v0n)],h)) : Option (Nat × Slots × AH)):=by kernel_rfl
theorem r85 {base : Nat} {v0 : Option Addr} {v0n : Nat} {v1 : Int} {h : AH} {r : Value × AH} (hx : ((loopL (B85_0 base) [some (.slice v0 v0n v0n),some (.int .i64 v1),some (.slice v0 v0n v0n),some (.int .i64 ((v0n : Nat) : Int)),some (.int .i64 (0 : Int))] h).bind fun q1=>
(if q1.1 = 1 then
((sget q1.2.1 0).bind getB).bind fun b2=>
some ((.bool b2),q1.2.2)
else
(if q1.1 = 2 then
((sget q1.2.1 0).bind getS).bind fun l3=>
some ((.bool (decide (((l3.2 : Nat) : Int)≤(50 : Int)))),q1.2.2)
else
none))) = some r) : run (Et base) 85 [(vL v0 v0n),(vI v1)] h = some r:=run_i (an:=a85) Try.func85 (by kernel_rfl) (.trans (by kernel_rfl) hx)
noncomputable def B86_0 (base : Nat) : Body:=fun l h=>lay s86_0 l fun s=>exCode (Et base) (run (Et base)) loopL a86_0 (subC [1,0,1,0,0] (bodyC Try.f86)) s h (keepK s86_0 e86_0)
theorem B86_0_eq (base : Nat) (v0 : Option Addr) (v0n : Nat) (v5 : Option Addr) (v5n : Nat) (v6 : Int) (v7 : Int) (h : AH) : B86_0 base [some (vL v0 v0n),some (vL v5 v5n),some (vI v6),some (vI v7)] h =
((if (decide (v7 < v6)) = true then
(if 0≤v7∧v7 < ((v5n : Nat) : Int) then
((v5 : Option Addr)).bind fun a1=>
c_IIIITL h a1.block (a1.off + Int.toNat v7 * 6) fun n2 n3 n4 n5 s6 l7=>
nw1 h 140 [(vI 0),(vI 0),(vI 0),(vI 0),(vT ⟨#[]⟩),(vL none 0)] fun h8=>
(wr base h8 (List.length h) 0 [(vI n2),(vI n3),(vI n4),(vI n5),(vT s6),(vL l7.1 l7.2)]).bind fun h9=>
(((cell h9 (List.length h) 0).bind (getI .i64)).bind fun n11=>
(run (Et base) 83 [(vI n11),(vI (1 : Int)),(vI (3 : Int))] h9).bind fun r12=>
((some r12.1).bind getB).bind fun b13=>
(if (!b13) = true then
some (.inl ([some (vL v0 v0n),some (vL v5 v5n),some (vI v6),some (vI v7),some (.bool true)],r12.2))
else
((cell r12.2 (List.length h) 1).bind (getI .i64)).bind fun n14=>
(run (Et base) 83 [(vI n14),(vI (1 : Int)),(vI (99999 : Int))] r12.2).bind fun r15=>
((some r15.1).bind getB).bind fun b16=>
(if (!b16) = true then
some (.inl ([some (vL v0 v0n),some (vL v5 v5n),some (vI v6),some (vI v7),some (.bool true)],r15.2))
else
c_IITL r15.2 (List.length h) 2 fun n17 n18 s19 l20=>
(run (Et base) 65 [(.agg #[(vI n17),(vI n18),(vT s19),(vL l20.1 l20.2)])] r15.2).bind fun r21=>
((some r21.1).bind getB).bind fun b22=>
some (.inl ([some (vL v0 v0n),some (vL v5 v5n),some (vI v6),some (vI v7),some (.bool (!b22))],r21.2))))).bind fun j10=>joinK j10 fun j10=>
j_LLIIB j10.1 fun l23 l24 n25 n26 b27=>
(if b27 = true then
some (1,[some (.bool false)],j10.2)
else
some (0,[some (vL l23.1 l23.2),some (vL l24.1 l24.2),some (vI n25),some (vI (IntKind.wrap .i64 (n26 + (1 : Int))))],j10.2))
else none)
else
some (2,[some (vL v0 v0n)],h)) : Option (Nat × Slots × AH)):=by kernel_rfl
theorem r86 {base : Nat} {v0 : Option Addr} {v0n : Nat} {h : AH} {r : Value × AH} (hx : ((loopL (B86_0 base) [some (.slice v0 v0n v0n),some (.slice v0 v0n v0n),some (.int .i64 ((v0n : Nat) : Int)),some (.int .i64 (0 : Int))] h).bind fun q1=>
(if q1.1 = 1 then
((sget q1.2.1 0).bind getB).bind fun b2=>
some ((.bool b2),q1.2.2)
else
(if q1.1 = 2 then
((sget q1.2.1 0).bind getS).bind fun l3=>
some ((.bool (decide (((l3.2 : Nat) : Int)≤(500 : Int)))),q1.2.2)
else
none))) = some r) : run (Et base) 86 [(vL v0 v0n)] h = some r:=run_i (an:=a86) Try.func86 (by kernel_rfl) (.trans (by kernel_rfl) hx)
noncomputable def B87_0 (base : Nat) : Body:=fun l h=>lay s87_0 l fun s=>exCode (Et base) (run (Et base)) loopL a87_0 (subC [1,0,1,0,0] (bodyC Try.f87)) s h (keepK s87_0 e87_0)
theorem B87_0_eq (base : Nat) (v1 : Int) (v10 : Option Addr) (v10n : Nat) (v11 : Int) (v12 : Int) (h : AH) : B87_0 base [some (vI v1),some (vL v10 v10n),some (vI v11),some (vI v12)] h =
((if (decide (v12 < v11)) = true then
(if 0≤v12∧v12 < ((v10n : Nat) : Int) then
((v10 : Option Addr)).bind fun a1=>
((cell h a1.block (a1.off + Int.toNat v12 * 5)).bind (getI .i64)).bind fun n2=>
((cell h a1.block ((a1.off + Int.toNat v12 * 5) + 1)).bind (getI .i64)).bind fun n3=>
((cell h a1.block (((a1.off + Int.toNat v12 * 5) + 1) + 1)).bind getS).bind fun l4=>
((cell h a1.block ((((a1.off + Int.toNat v12 * 5) + 1) + 1) + 1)).bind getS).bind fun l5=>
((cell h a1.block (((((a1.off + Int.toNat v12 * 5) + 1) + 1) + 1) + 1)).bind getS).bind fun l6=>
(some (h++[some ⟨[(.int .i64 0),(.int .i64 0),(.slice none 0 0),(.slice none 0 0),(.slice none 0 0)],54⟩])).bind fun h7=>
(wr base h7 (List.length h) 0 [(.int .i64 n2),(.int .i64 n3),(.slice l4.1 l4.2 l4.2),(.slice l5.1 l5.2 l5.2),(.slice l6.1 l6.2 l6.2)]).bind fun h8=>
((cell h8 (List.length h) 0).bind (getI .i64)).bind fun n9=>
(if (n9 == v1) = true then
some (1,[some (.int .i64 v12)],h8)
else
some (0,[some (.int .i64 v1),some (.slice v10 v10n v10n),some (.int .i64 v11),some (.int .i64 (IntKind.wrap .i64 (v12 + (1 : Int))))],h8))
else none)
else
some (2,[],h)) : Option (Nat × Slots × AH)):=by kernel_rfl
theorem r87 {base : Nat} {v0 : Option Addr} {v1 : Int} {h : AH} {r : Value × AH} (hx : ((v0).bind fun a1=>
((cell h a1.block (a1.off + 1)).bind getS).bind fun l2=>
(loopL (B87_0 base) [some (.int .i64 v1),some (.slice l2.1 l2.2 l2.2),some (.int .i64 ((l2.2 : Nat) : Int)),some (.int .i64 (0 : Int))] h).bind fun q3=>
(if q3.1 = 1 then
((sget q3.2.1 0).bind (getI .i64)).bind fun n4=>
some ((.int .i64 n4),q3.2.2)
else
(if q3.1 = 2 then
some ((.int .i64 (-1 : Int)),q3.2.2)
else
none))) = some r) : run (Et base) 87 [(.pointer v0),(vI v1)] h = some r:=run_i (an:=a87) Try.func87 (by kernel_rfl) (.trans (by kernel_rfl) hx)
noncomputable def B88_0 (base : Nat) : Body:=fun l h=>lay s88_0 l fun s=>exCode (Et base) (run (Et base)) loopL a88_0 (subC [1,0,1,0,0] (bodyC Try.f88)) s h (keepK s88_0 e88_0)
theorem B88_0_eq (base : Nat) (v1 : Int) (v7 : Option Addr) (v7n : Nat) (v8 : Int) (v9 : Int) (h : AH) : B88_0 base [some (vI v1),some (vL v7 v7n),some (vI v8),some (vI v9)] h =
((if (decide (v9 < v8)) = true then
(if 0≤v9∧v9 < ((v7n : Nat) : Int) then
((v7 : Option Addr)).bind fun a1=>
((cell h a1.block (a1.off + Int.toNat v9 * 1)).bind (getI .i64)).bind fun n2=>
(if (n2 == v1) = true then
some (1,[some (.bool true)],h)
else
some (0,[some (.int .i64 v1),some (.slice v7 v7n v7n),some (.int .i64 v8),some (.int .i64 (IntKind.wrap .i64 (v9 + (1 : Int))))],h))
else none)
else
some (2,[],h)) : Option (Nat × Slots × AH)):=by kernel_rfl
theorem r88 {base : Nat} {v0 : Option Addr} {v0n : Nat} {v1 : Int} {h : AH} {r : Value × AH} (hx : ((loopL (B88_0 base) [some (.int .i64 v1),some (.slice v0 v0n v0n),some (.int .i64 ((v0n : Nat) : Int)),some (.int .i64 (0 : Int))] h).bind fun q1=>
(if q1.1 = 1 then
((sget q1.2.1 0).bind getB).bind fun b2=>
some ((.bool b2),q1.2.2)
else
(if q1.1 = 2 then
some ((.bool false),q1.2.2)
else
none))) = some r) : run (Et base) 88 [(vL v0 v0n),(vI v1)] h = some r:=run_i (an:=a88) Try.func88 (by kernel_rfl) (.trans (by kernel_rfl) hx)
noncomputable def B89_0 (base : Nat) : Body:=fun l h=>lay s89_0 l fun s=>exCode (Et base) (run (Et base)) loopL a89_0 (subC [1,1,1,0,1,0,0] (bodyC Try.f89)) s h (keepK s89_0 e89_0)
theorem B89_0_eq (base : Nat) (v0 : Option Addr) (v0n : Nat) (v3 : Int) (v4 : Int) (h : AH) : B89_0 base [some (vL v0 v0n),some (vI v3),some (vI v4)] h =
((if (decide (v4 < v3)) = true then
(if 0≤v4∧v4 < ((v0n : Nat) : Int) then
((v0 : Option Addr)).bind fun a1=>
((cell h a1.block (a1.off + Int.toNat v4 * 6)).bind (getI .i64)).bind fun n2=>
((cell h a1.block ((a1.off + Int.toNat v4 * 6) + 1)).bind (getI .i64)).bind fun n3=>
((cell h a1.block (((a1.off + Int.toNat v4 * 6) + 1) + 1)).bind (getI .i64)).bind fun n4=>
((cell h a1.block ((((a1.off + Int.toNat v4 * 6) + 1) + 1) + 1)).bind (getI .i64)).bind fun n5=>
((cell h a1.block (((((a1.off + Int.toNat v4 * 6) + 1) + 1) + 1) + 1)).bind (getI .i64)).bind fun n6=>
((cell h a1.block ((((((a1.off + Int.toNat v4 * 6) + 1) + 1) + 1) + 1) + 1)).bind getStr).bind fun s7=>
(run (Et base) 140 [(.agg #[(.int .i64 n2),(.int .i64 n3),(.int .i64 n4),(.int .i64 n5),(.int .i64 n6),(.string s7)]),(.int .i64 v3)] h).bind fun r8=>
((some r8.1).bind getB).bind fun b9=>
(if (!b9) = true then
some (1,[some (.bool false)],r8.2)
else
some (0,[some (.slice v0 v0n v0n),some (.int .i64 v3),some (.int .i64 (IntKind.wrap .i64 (v4 + (1 : Int))))],r8.2))
else none)
else
some (2,[],h)) : Option (Nat × Slots × AH)):=by kernel_rfl
theorem r89 {base : Nat} {v0 : Option Addr} {v0n : Nat} {h : AH} {r : Value × AH} (hx : (((run (Et base) 90 [(vI ((v0n : Nat) : Int)),(vI (1 : Int)),(vI (200 : Int))] h).bind fun r2=>
((some r2.1).bind getB).bind fun b3=>
(if (!b3) = true then
some (.inl ([some (vL v0 v0n),some (vI ((v0n : Nat) : Int)),some (.bool true)],r2.2))
else
(if 0≤(IntKind.wrap .i64 (((v0n : Nat) : Int) - (1 : Int)))∧(IntKind.wrap .i64 (((v0n : Nat) : Int) - (1 : Int))) < ((v0n : Nat) : Int) then
((v0 : Option Addr)).bind fun a4=>
((cell r2.2 a4.block ((a4.off + Int.toNat (IntKind.wrap .i64 (((v0n : Nat) : Int) - (1 : Int))) * 6) + 0)).bind (getI .i64)).bind fun n5=>
(if (n5 != (19 : Int)) = true then
(if 0≤(IntKind.wrap .i64 (((v0n : Nat) : Int) - (1 : Int)))∧(IntKind.wrap .i64 (((v0n : Nat) : Int) - (1 : Int))) < ((v0n : Nat) : Int) then
((v0 : Option Addr)).bind fun a6=>
((cell r2.2 a6.block ((a6.off + Int.toNat (IntKind.wrap .i64 (((v0n : Nat) : Int) - (1 : Int))) * 6) + 0)).bind (getI .i64)).bind fun n7=>
some (.inl ([some (vL v0 v0n),some (vI ((v0n : Nat) : Int)),some (.bool (n7 != (12 : Int)))],r2.2))
else none)
else
some (.inl ([some (vL v0 v0n),some (vI ((v0n : Nat) : Int)),some (.bool false)],r2.2)))
else none))).bind fun j1=>joinK j1 fun j1=>
j_LIB j1.1 fun l8 n9 b10=>
(if b10 = true then
some ((.bool false),j1.2)
else
(loopL (B89_0 base) [some (vL l8.1 l8.2),some (vI n9),some (vI (0 : Int))] j1.2).bind fun q11=>
(if q11.1 = 1 then
((sget q11.2.1 0).bind getB).bind fun b12=>
some ((.bool b12),q11.2.2)
else
(if q11.1 = 2 then
some ((.bool true),q11.2.2)
else
none)))) = some r) : run (Et base) 89 [(vL v0 v0n)] h = some r:=run_i (an:=a89) Try.func89 (by kernel_rfl) (.trans (by kernel_rfl) hx)
theorem r90 {base : Nat} {v0 : Int} {v1 : Int} {v2 : Int} {h : AH} {r : Value × AH} (hx : ((if (decide (v0 ≥ v1)) = true then
some ((.bool (decide (v0≤v2))),h)
else
some ((.bool false),h))) = some r) : run (Et base) 90 [(vI v0),(vI v1),(vI v2)] h = some r:=run_i (an:=a90) Try.func90 (by kernel_rfl) (.trans (by kernel_rfl) hx)
noncomputable def B91_0 (base : Nat) : Body:=fun l h=>lay s91_0 l fun s=>exCode (Et base) (run (Et base)) loopL a91_0 (subC [1,0,1,0,0] (bodyC Try.f91)) s h (keepK s91_0 e91_0)
theorem B91_0_eq (base : Nat) (v0 : Option Addr) (v0n : Nat) (v3 : Int) (h : AH) : B91_0 base [some (vL v0 v0n),some (vI v3)] h =
((if (decide (v3 < ((v0n : Nat) : Int))) = true then
((if 0≤v3∧v3 < ((v0n : Nat) : Int) then
((v0 : Option Addr)).bind fun a2=>
((cell h a2.block ((a2.off + Int.toNat v3 * 6) + 0)).bind (getI .i64)).bind fun n3=>
(run (Et base) 90 [(vI n3),(vI (1 : Int)),(vI (3 : Int))] h).bind fun r4=>
((some r4.1).bind getB).bind fun b5=>
(if (!b5) = true then
some (.inl ([some (vL v0 v0n),some (vI v3),some (.bool true)],r4.2))
else
(if 0≤v3∧v3 < ((v0n : Nat) : Int) then
((v0 : Option Addr)).bind fun a6=>
((cell r4.2 a6.block ((a6.off + Int.toNat v3 * 6) + 1)).bind (getI .i64)).bind fun n7=>
(run (Et base) 90 [(vI n7),(vI (1 : Int)),(vI (99999 : Int))] r4.2).bind fun r8=>
((some r8.1).bind getB).bind fun b9=>
(if (!b9) = true then
some (.inl ([some (vL v0 v0n),some (vI v3),some (.bool true)],r8.2))
else
(if 0≤v3∧v3 < ((v0n : Nat) : Int) then
((v0 : Option Addr)).bind fun a10=>
c_IITL r8.2 a10.block ((a10.off + Int.toNat v3 * 6) + 2) fun n11 n12 s13 l14=>
(run (Et base) 58 [(.agg #[(vI n11),(vI n12),(vT s13),(vL l14.1 l14.2)])] r8.2).bind fun r15=>
((some r15.1).bind getB).bind fun b16=>
some (.inl ([some (vL v0 v0n),some (vI v3),some (.bool (!b16))],r15.2))
else none))
else none))
else none)).bind fun j1=>joinK j1 fun j1=>
j_LIB j1.1 fun l17 n18 b19=>
(if b19 = true then
some (1,[some (.bool false)],j1.2)
else
some (0,[some (vL l17.1 l17.2),some (vI (IntKind.wrap .i64 (n18 + (1 : Int))))],j1.2))
else
some (2,[some (vL v0 v0n)],h)) : Option (Nat × Slots × AH)):=by kernel_rfl
theorem r91 {base : Nat} {v0 : Option Addr} {v0n : Nat} {h : AH} {r : Value × AH} (hx : ((loopL (B91_0 base) [some (.slice v0 v0n v0n),some (.int .i64 (0 : Int))] h).bind fun q1=>
(if q1.1 = 1 then
((sget q1.2.1 0).bind getB).bind fun b2=>
some ((.bool b2),q1.2.2)
else
(if q1.1 = 2 then
((sget q1.2.1 0).bind getS).bind fun l3=>
some ((.bool (decide (((l3.2 : Nat) : Int)≤(500 : Int)))),q1.2.2)
else
none))) = some r) : run (Et base) 91 [(vL v0 v0n)] h = some r:=run_i (an:=a91) Try.func91 (by kernel_rfl) (.trans (by kernel_rfl) hx)
theorem r92 {base : Nat} {v0 : Option Addr} {v0n : Nat} {v1_0 : Int} {v1_1 : Int} {v1_2 : Option Addr} {v1_2n : Nat} {v1_3 : Option Addr} {v1_3n : Nat} {v1_4 : Option Addr} {v1_4n : Nat} {h : AH} {r : Value × AH} (hx : (nw1 h 54 [(vI v1_0),(vI v1_1),(vL v1_2 v1_2n),(vL v1_3 v1_3n),(vL v1_4 v1_4n)] fun h1=>
((run (Et base) 89 [(vL v0 v0n)] h1).bind fun r3=>
((some r3.1).bind getB).bind fun b4=>
(if (!b4) = true then
some (.inl ([some (vP (List.length h)),some (.bool true)],r3.2))
else
((cell r3.2 (List.length h) 0).bind (getI .i64)).bind fun n5=>
(run (Et base) 90 [(vI n5),(vI (1 : Int)),(vI (99999 : Int))] r3.2).bind fun r6=>
((some r6.1).bind getB).bind fun b7=>
(if (!b7) = true then
some (.inl ([some (vP (List.length h)),some (.bool true)],r6.2))
else
((cell r6.2 (List.length h) 1).bind (getI .i64)).bind fun n8=>
(run (Et base) 90 [(vI n8),(vI (0 : Int)),(vI (IntKind.wrap .i64 (((v0n : Nat) : Int) - (1 : Int))))] r6.2).bind fun r9=>
((some r9.1).bind getB).bind fun b10=>
(if (!b10) = true then
some (.inl ([some (vP (List.length h)),some (.bool true)],r9.2))
else
((cell r9.2 (List.length h) 2).bind getS).bind fun l11=>
(if (((l11.2 : Nat) : Int) != (8 : Int)) = true then
some (.inl ([some (vP (List.length h)),some (.bool true)],r9.2))
else
((cell r9.2 (List.length h) 3).bind getS).bind fun l12=>
some (.inl ([some (vP (List.length h)),some (.bool (decide (((l12.2 : Nat) : Int) > (30 : Int))))],r9.2))))))).bind fun j2=>joinK j2 fun j2=>
j_AB j2.1 fun d13 b14=>
(if b14 = true then
some ((.bool false),j2.2)
else
((cell j2.2 d13.block (d13.off + 2)).bind getS).bind fun l15=>
(run (Et base) 141 [(vL l15.1 l15.2)] j2.2).bind fun r16=>
((some r16.1).bind getB).bind fun b17=>
(if b17 = true then
((cell r16.2 d13.block (d13.off + 3)).bind getS).bind fun l18=>
(run (Et base) 141 [(vL l18.1 l18.2)] r16.2).bind fun r19=>
((some r19.1).bind getB).bind fun b20=>
(if b20 = true then
((cell r19.2 d13.block (d13.off + 4)).bind getS).bind fun l21=>
((cell r19.2 d13.block (d13.off + 0)).bind (getI .i64)).bind fun n22=>
(run (Et base) 142 [(vL l21.1 l21.2),(vI n22)] r19.2).bind fun r23=>
((some r23.1).bind getB).bind fun b24=>
some ((.bool b24),r23.2)
else
some ((.bool false),r19.2))
else
some ((.bool false),r16.2)))) = some r) : run (Et base) 92 [(vL v0 v0n),(.agg #[(vI v1_0),(vI v1_1),(vL v1_2 v1_2n),(vL v1_3 v1_3n),(vL v1_4 v1_4n)])] h = some r:=run_i (an:=a92) Try.func92 (by kernel_rfl) (.trans (by kernel_rfl) hx)
noncomputable def B93_0 (base : Nat) : Body:=fun l h=>lay s93_0 l fun s=>exCode (Et base) (run (Et base)) loopL a93_0 (subC [1,1,0,1,0,0] (bodyC Try.f93)) s h (keepK s93_0 e93_0)
theorem B93_0_eq (base : Nat) (v2 : Addr) (v5 : Addr) (v6 : Int) (h : AH) : B93_0 base [some (vA v2),some (vA v5),some (vI v6)] h =
(((cell h v5.block (v5.off + 4)).bind getS).bind fun l1=>
(if (decide (v6 < ((l1.2 : Nat) : Int))) = true then
c_LLIL h v2.block v2.off fun l2 l3 n4 l5=>
((cell h v5.block (v5.off + 4)).bind getS).bind fun l6=>
(if 0≤v6∧v6 < ((l6.2 : Nat) : Int) then
((l6.1 : Option Addr)).bind fun a7=>
((cell h a7.block (a7.off + Int.toNat v6 * 1)).bind (getI .i64)).bind fun n8=>
(run (Et base) 118 [(.agg #[(vL l2.1 l2.2),(vL l3.1 l3.2),(vI n4),(vL l5.1 l5.2)]),(vI n8)] h).bind fun r9=>
((some r9.1).bind (getI .i64)).bind fun n10=>
((if (decide (n10 ≥ (0 : Int))) = true then
((cell r9.2 v2.block (v2.off + 1)).bind getS).bind fun l12=>
(if 0≤n10∧n10 < ((l12.2 : Nat) : Int) then
((l12.1 : Option Addr)).bind fun a13=>
((cell r9.2 a13.block ((a13.off + Int.toNat n10 * 5) + 4)).bind getS).bind fun l14=>
((cell r9.2 v5.block (v5.off + 0)).bind (getI .i64)).bind fun n15=>
(run (Et base) 143 [(vL l14.1 l14.2),(vI n15)] r9.2).bind fun r16=>
((some r16.1).bind getB).bind fun b17=>
some (.inl ([some (vA v2),some (vA v5),some (vI v6),some (.bool (!b17))],r16.2))
else none)
else
some (.inl ([some (vA v2),some (vA v5),some (vI v6),some (.bool false)],r9.2)))).bind fun j11=>joinK j11 fun j11=>
j_AAIB j11.1 fun d18 d19 n20 b21=>
(if b21 = true then
some (1,[some (.bool false)],j11.2)
else
some (0,[some (vA d18),some (vA d19),some (vI (IntKind.wrap .i64 (n20 + (1 : Int))))],j11.2))
else none)
else
some (2,[],h)) : Option (Nat × Slots × AH)):=by kernel_rfl
theorem r93 {base : Nat} {v0_0 : Option Addr} {v0_0n : Nat} {v0_1 : Option Addr} {v0_1n : Nat} {v0_2 : Int} {v0_3 : Option Addr} {v0_3n : Nat} {v1 : Int} {h : AH} {r : Value × AH} (hx : ((some (h++[some ⟨[(.slice v0_0 v0_0n v0_0n),(.slice v0_1 v0_1n v0_1n),(.int .i64 v0_2),(.slice v0_3 v0_3n v0_3n)],36⟩])).bind fun h1=>
((cell h1 (List.length h) 1).bind getS).bind fun l2=>
(if 0≤v1∧v1 < ((l2.2 : Nat) : Int) then
((l2.1 : Option Addr)).bind fun a3=>
((cell h1 a3.block (a3.off + Int.toNat v1 * 5)).bind (getI .i64)).bind fun n4=>
((cell h1 a3.block ((a3.off + Int.toNat v1 * 5) + 1)).bind (getI .i64)).bind fun n5=>
((cell h1 a3.block (((a3.off + Int.toNat v1 * 5) + 1) + 1)).bind getS).bind fun l6=>
((cell h1 a3.block ((((a3.off + Int.toNat v1 * 5) + 1) + 1) + 1)).bind getS).bind fun l7=>
((cell h1 a3.block (((((a3.off + Int.toNat v1 * 5) + 1) + 1) + 1) + 1)).bind getS).bind fun l8=>
(some (h1++[some ⟨[(.int .i64 0),(.int .i64 0),(.slice none 0 0),(.slice none 0 0),(.slice none 0 0)],54⟩])).bind fun h9=>
(wr base h9 (List.length h1) 0 [(.int .i64 n4),(.int .i64 n5),(.slice l6.1 l6.2 l6.2),(.slice l7.1 l7.2 l7.2),(.slice l8.1 l8.2 l8.2)]).bind fun h10=>
(loopL (B93_0 base) [some (.pointer (some ⟨(List.length h),0,none⟩)),some (.pointer (some ⟨(List.length h1),0,none⟩)),some (.int .i64 (0 : Int))] h10).bind fun q11=>
(if q11.1 = 1 then
((sget q11.2.1 0).bind getB).bind fun b12=>
some ((.bool b12),q11.2.2)
else
(if q11.1 = 2 then
some ((.bool true),q11.2.2)
else
none))
else none)) = some r) : run (Et base) 93 [(.agg #[(vL v0_0 v0_0n),(vL v0_1 v0_1n),(vI v0_2),(vL v0_3 v0_3n)]),(vI v1)] h = some r:=run_i (an:=a93) Try.func93 (by kernel_rfl) (.trans (by kernel_rfl) hx)
theorem r94 {base : Nat} {v0 : Option Addr} {v0n : Nat} {v1 : Int} {h : AH} {r : Value × AH} (hx : ((if (decide ((IntKind.wrap .i64 (v1 - ((v0n : Nat) : Int))) < (0 : Int))) = true then
some ((.int .i64 (-1 : Int)),h)
else
some ((.int .i64 (IntKind.wrap .i64 (v1 - ((v0n : Nat) : Int)))),h))) = some r) : run (Et base) 94 [(vL v0 v0n),(vI v1)] h = some r:=run_i (an:=a94) Try.func94 (by kernel_rfl) (.trans (by kernel_rfl) hx)
noncomputable def B100_0 (base : Nat) : Body:=fun l h=>lay s100_0 l fun s=>exCode (Et base) (run (Et base)) loopL a100_0 (subC [1,1,1,0,0,0] (bodyC Try.f100)) s h (keepK s100_0 e100_0)
theorem B100_0_eq (base : Nat) (v0 : Int) (v3 : ByteArray) (h : AH) : B100_0 base [some (vI v0),some (vT v3)] h =
((if (decide (v0 > (0 : Int))) = true then
(some (h++[some ⟨[(.int .u8 (IntKind.wrap .u8 (IntKind.wrap .i64 ((48 : Int) + (Int.tmod v0 (10 : Int))))))],5⟩])).bind fun h1=>
((rawAt h1 (some ⟨(List.length h),0,none⟩) 1).bind u8s).bind fun z2=>
(if (bstr z2).size + v3.size≤9223372036854775807 then
some (0,[some (.int .i64 (IntKind.wrap .i64 (Int.tdiv v0 (10 : Int)))),some (.string ((bstr z2)++v3))],h1)
else none)
else
some (2,[some (.string v3)],h)) : Option (Nat × Slots × AH)):=by kernel_rfl
theorem r100 {base : Nat} {v0 : Int} {h : AH} {r : Value × AH} (hx : ((if (decide (v0≤(0 : Int))) = true then
some ((.string (⟨#[109,48]⟩ : ByteArray)),h)
else
(loopL (B100_0 base) [some (.int .i64 v0),some (.string (⟨#[]⟩ : ByteArray))] h).bind fun q1=>
(if q1.1 = 2 then
((sget q1.2.1 0).bind getStr).bind fun s2=>
(if (⟨#[109]⟩ : ByteArray).size + s2.size≤9223372036854775807 then
some ((.string ((⟨#[109]⟩ : ByteArray)++s2)),q1.2.2)
else none)
else
none))) = some r) : run (Et base) 100 [(vI v0)] h = some r:=run_i (an:=a100) Try.func100 (by kernel_rfl) (.trans (by kernel_rfl) hx)
theorem r104 {base : Nat} {v0 : Option Addr} {v0n : Nat} {h : AH} {r : Value × AH} (hx : ((app base h 3 1 8 none 0 (rawAt h v0 (v0n * 1)) v0n).bind fun p1=>
((some p1.1).bind getS).bind fun l2=>
some ((.slice l2.1 l2.2 l2.2),p1.2)) = some r) : run (Et base) 104 [(vL v0 v0n)] h = some r:=run_i (an:=a104) Try.func104 (by kernel_rfl) (.trans (by kernel_rfl) hx)
theorem r112 {base : Nat} {v0_0 : Int} {v0_1 : Int} {v0_2 : Int} {v0_3 : Int} {v0_4 : Int} {v0_5 : ByteArray} {v1 : Int} {h : AH} {r : Value × AH} (hx : ((some (h++[some ⟨[(.int .i64 v0_0),(.int .i64 v0_1),(.int .i64 v0_2),(.int .i64 v0_3),(.int .i64 v0_4),(.string v0_5)],131⟩])).bind fun h1=>
((cell h1 (List.length h) 5).bind getStr).bind fun s2=>
(if (decide ((IntKind.wrap .i64 (v1 - (s2.size : Int))) < (0 : Int))) = true then
some ((.int .i64 (-1 : Int)),h1)
else
some ((.int .i64 (IntKind.wrap .i64 (v1 - (s2.size : Int)))),h1))) = some r) : run (Et base) 112 [(.agg #[(vI v0_0),(vI v0_1),(vI v0_2),(vI v0_3),(vI v0_4),(vT v0_5)]),(vI v1)] h = some r:=run_i (an:=a112) Try.func112 (by kernel_rfl) (.trans (by kernel_rfl) hx)
theorem r113 {base : Nat} {v0_0 : Int} {v0_1 : Int} {v0_2 : Option Addr} {v0_2n : Nat} {v0_3 : Option Addr} {v0_3n : Nat} {v0_4 : Option Addr} {v0_4n : Nat} {v1 : Int} {h : AH} {r : Value × AH} (hx : ((some (h++[some ⟨[(.int .i64 v0_0),(.int .i64 v0_1),(.slice v0_2 v0_2n v0_2n),(.slice v0_3 v0_3n v0_3n),(.slice v0_4 v0_4n v0_4n)],134⟩])).bind fun h1=>
((cell h1 (List.length h) 2).bind getS).bind fun l2=>
(run (Et base) 56 [(.slice l2.1 l2.2 l2.2),(.int .i64 v1)] h1).bind fun r3=>
((some r3.1).bind (getI .i64)).bind fun n4=>
(if (decide (n4 < (0 : Int))) = true then
some ((.int .i64 (-1 : Int)),r3.2)
else
((cell r3.2 (List.length h) 3).bind getS).bind fun l5=>
(run (Et base) 56 [(.slice l5.1 l5.2 l5.2),(.int .i64 n4)] r3.2).bind fun r6=>
((some r6.1).bind (getI .i64)).bind fun n7=>
(if (decide (n7 < (0 : Int))) = true then
some ((.int .i64 (-1 : Int)),r6.2)
else
((cell r6.2 (List.length h) 4).bind getS).bind fun l8=>
(run (Et base) 94 [(.slice l8.1 l8.2 l8.2),(.int .i64 n7)] r6.2).bind fun r9=>
((some r9.1).bind (getI .i64)).bind fun n10=>
(if (decide (n10 < (0 : Int))) = true then
some ((.int .i64 (-1 : Int)),r9.2)
else
some ((.int .i64 n10),r9.2))))) = some r) : run (Et base) 113 [(.agg #[(vI v0_0),(vI v0_1),(vL v0_2 v0_2n),(vL v0_3 v0_3n),(vL v0_4 v0_4n)]),(vI v1)] h = some r:=run_i (an:=a113) Try.func113 (by kernel_rfl) (.trans (by kernel_rfl) hx)
theorem r114 {base : Nat} {v0_0 : Int} {v0_1 : Int} {v0_2 : Int} {v0_3 : Int} {v0_4 : ByteArray} {v0_5 : Option Addr} {v0_5n : Nat} {v1 : Int} {h : AH} {r : Value × AH} (hx : ((some (h++[some ⟨[(.int .i64 v0_0),(.int .i64 v0_1),(.int .i64 v0_2),(.int .i64 v0_3),(.string v0_4),(.slice v0_5 v0_5n v0_5n)],137⟩])).bind fun h1=>
((cell h1 (List.length h) 2).bind (getI .i64)).bind fun n2=>
((cell h1 (List.length h) 3).bind (getI .i64)).bind fun n3=>
((cell h1 (List.length h) 4).bind getStr).bind fun s4=>
((cell h1 (List.length h) 5).bind getS).bind fun l5=>
(run (Et base) 12 [(.agg #[(.int .i64 n2),(.int .i64 n3),(.string s4),(.slice l5.1 l5.2 l5.2)]),(.int .i64 v1)] h1).bind fun r6=>
((some r6.1).bind (getI .i64)).bind fun n7=>
(if (decide (n7 < (0 : Int))) = true then
some ((.int .i64 (-1 : Int)),r6.2)
else
some ((.int .i64 n7),r6.2))) = some r) : run (Et base) 114 [(.agg #[(vI v0_0),(vI v0_1),(vI v0_2),(vI v0_3),(vT v0_4),(vL v0_5 v0_5n)]),(vI v1)] h = some r:=run_i (an:=a114) Try.func114 (by kernel_rfl) (.trans (by kernel_rfl) hx)
theorem r115 {base : Nat} {v0_0 : Int} {v0_1 : Int} {v0_2 : Option Addr} {v0_2n : Nat} {v0_3 : Option Addr} {v0_3n : Nat} {v0_4 : Option Addr} {v0_4n : Nat} {h : AH} {r : Value × AH} (hx : (nw1 h 54 [(vI v0_0),(vI v0_1),(vL v0_2 v0_2n),(vL v0_3 v0_3n),(vL v0_4 v0_4n)] fun h1=>
nw1 h1 54 [(vI 0),(vI 0),(vL none 0),(vL none 0),(vL none 0)] fun h2=>
c_IIL h2 (List.length h) 0 fun n3 n4 l5=>
(run (Et base) 163 [(vL l5.1 l5.2)] h2).bind fun r6=>
((some r6.1).bind getS).bind fun l7=>
(gate (sameA h2 r6.2 (some ⟨(List.length h),1,none⟩) 1)
((gate (sameA h2 r6.2 (some ⟨(List.length h),0,none⟩) 1)
((gate (sameA h2 r6.2 (some ⟨(List.length h),3,none⟩) 1)
(((cell r6.2 (List.length h) 3).bind getS).bind fun l8=>
(run (Et base) 163 [(vL l8.1 l8.2)] r6.2).bind fun r9=>
((some r9.1).bind getS).bind fun l10=>
(gate (sameA r6.2 r9.2 (some ⟨(List.length h),1,none⟩) 1)
((gate (sameA r6.2 r9.2 (some ⟨(List.length h),0,none⟩) 1)
((gate (neA (some ⟨(List.length h),3,none⟩) (List.length r9.2))
((gate (neA (some ⟨(List.length h),2,none⟩) (List.length r9.2))
((gate (neA (some ⟨(List.length h),1,none⟩) (List.length r9.2))
((gate (neA (some ⟨(List.length h),0,none⟩) (List.length r9.2))
(nw1 r9.2 3 [] fun h11=>
(gate (neA (some ⟨(List.length h),4,none⟩) (List.length r9.2))
((gate (sameA r6.2 h11 (some ⟨(List.length h),4,none⟩) 1)
((gate (sameA h2 h11 (some ⟨(List.length h),4,none⟩) 1)
(((cell h11 (List.length h) 4).bind getS).bind fun l12=>
(app base h11 3 1 8 (some ⟨(List.length r9.2),0,none⟩) 0 (rawAt h11 l12.1 (l12.2 * 1)) l12.2).bind fun p13=>
((some p13.1).bind getS).bind fun l14=>
(gate (sameA h11 p13.2 (some ⟨(List.length h),1,none⟩) 1)
((gate (sameA h11 p13.2 (some ⟨(List.length h),0,none⟩) 1)
((wr base p13.2 (List.length h1) 0 [(vI n3),(vI n4),(vL l7.1 l7.2),(vL l10.1 l10.2),(vL l14.1 l14.2)]).bind fun h15=>
c_IILLL h15 (List.length h1) 0 fun n16 n17 l18 l19 l20=>
some ((.agg #[(vI n16),(vI n17),(vL l18.1 l18.2),(vL l19.1 l19.2),(vL l20.1 l20.2)]),h15)))))))))))))))))))))))))))))) = some r) : run (Et base) 115 [(.agg #[(vI v0_0),(vI v0_1),(vL v0_2 v0_2n),(vL v0_3 v0_3n),(vL v0_4 v0_4n)])] h = some r:=run_i (an:=a115) Try.func115 (by kernel_rfl) (.trans (by kernel_rfl) hx)
noncomputable def B116_0 (base : Nat) : Body:=fun l h=>lay s116_0 l fun s=>exCode (Et base) (run (Et base)) loopL a116_0 (subC [1,1,1,0,1,0,0] (bodyC Try.f116)) s h (keepK s116_0 e116_0)
theorem B116_0_eq (base : Nat) (v1 : Addr) (v2 : Addr) (v3 : Addr) (v4 : Int) (h : AH) : B116_0 base [some (vA v1),some (vA v2),some (vA v3),some (vI v4)] h =
(((cell h v1.block (v1.off + 3)).bind getS).bind fun l1=>
(if (decide (v4 < ((l1.2 : Nat) : Int))) = true then
((cell h v3.block (v3.off + 3)).bind getS).bind fun l2=>
((cell h v1.block (v1.off + 3)).bind getS).bind fun l3=>
(if 0≤v4∧v4 < ((l3.2 : Nat) : Int) then
((l3.1 : Option Addr)).bind fun a4=>
c_IITL h a4.block (a4.off + Int.toNat v4 * 4) fun n5 n6 s7 l8=>
(run (Et base) 116 [(.agg #[(vI n5),(vI n6),(vT s7),(vL l8.1 l8.2)])] h).bind fun r9=>
gG (some r9.1) 4 fun l10=>
l_IITL l10 fun n11 n12 s13 l14=>
(gate (sameA h r9.2 (some ⟨v3.block,(v3.off + 3),none⟩) 1)
((gate (neA (some ⟨v3.block,(v3.off + 3),none⟩) (List.length r9.2))
(nw1 r9.2 42 [(vI n11),(vI n12),(vT s13),(vL l14.1 l14.2)] fun h15=>
(app base h15 42 4 56 l2.1 l2.2 (rawAt h15 (some ⟨(List.length r9.2),0,none⟩) (1 * 4)) 1).bind fun p16=>
((some p16.1).bind getS).bind fun l17=>
(wr base p16.2 v3.block (v3.off + 3) [(vL l17.1 l17.2)]).bind fun h18=>
some (0,[some (vA v1),some (vA v2),some (vA v3),some (vI (IntKind.wrap .i64 (v4 + (1 : Int))))],h18)))))
else none)
else
some (2,[some (vA v2),some (vA v3)],h)) : Option (Nat × Slots × AH)):=by kernel_rfl
theorem r116 {base : Nat} {v0_0 : Int} {v0_1 : Int} {v0_2 : ByteArray} {v0_3 : Option Addr} {v0_3n : Nat} {h : AH} {r : Value × AH} (hx : (nw1 h 42 [(vI v0_0),(vI v0_1),(vT v0_2),(vL v0_3 v0_3n)] fun h1=>
nw1 h1 42 [(vI 0),(vI 0),(vT ⟨#[]⟩),(vL none 0)] fun h2=>
c_IITL h2 (List.length h) 0 fun n3 n4 s5 l6=>
nw1 h2 42 [(vI 0),(vI 0),(vT ⟨#[]⟩),(vL none 0)] fun h7=>
(wr base h7 (List.length h2) 0 [(vI n3),(vI n4),(vT s5),(vL l6.1 l6.2)]).bind fun h8=>
nw1 h8 42 [] fun h9=>
(wr base h9 (List.length h2) 3 [(vL (some ⟨(List.length h8),0,none⟩) 0)]).bind fun h10=>
(loopL (B116_0 base) [some (vP (List.length h)),some (vP (List.length h1)),some (vP (List.length h2)),some (vI (0 : Int))] h10).bind fun q11=>
(if q11.1 = 2 then
j_AA q11.2.1 fun d12 d13=>
c_IITL q11.2.2 d13.block d13.off fun n14 n15 s16 l17=>
(wr base q11.2.2 d12.block d12.off [(vI n14),(vI n15),(vT s16),(vL l17.1 l17.2)]).bind fun h18=>
c_IITL h18 d12.block d12.off fun n19 n20 s21 l22=>
some ((.agg #[(vI n19),(vI n20),(vT s21),(vL l22.1 l22.2)]),h18)
else
none)) = some r) : run (Et base) 116 [(.agg #[(vI v0_0),(vI v0_1),(vT v0_2),(vL v0_3 v0_3n)])] h = some r:=run_i (an:=a116) Try.func116 (by kernel_rfl) (.trans (by kernel_rfl) hx)
noncomputable def B117_0 (base : Nat) : Body:=fun l h=>lay s117_0 l fun s=>exCode (Et base) (run (Et base)) loopL a117_0 (subC [1,1,1,0,1,0,0] (bodyC Try.f117)) s h (keepK s117_0 e117_0)
theorem B117_0_eq (base : Nat) (v1 : Int) (v2 : Int) (v3 : Addr) (v7 : Int) (h : AH) : B117_0 base [some (vI v1),some (vI v2),some (vA v3),some (vI v7)] h =
((((cell h v3.block (v3.off + 3)).bind getS).bind fun l2=>
(if (decide (v7 < ((l2.2 : Nat) : Int))) = true then
some (.inl ([some (vI v1),some (vI v2),some (vA v3),some (vI v7),some (.bool (decide (v2 ≥ (0 : Int))))],h))
else
some (.inl ([some (vI v1),some (vI v2),some (vA v3),some (vI v7),some (.bool false)],h)))).bind fun j1=>joinK j1 fun j1=>
j_IIAIB j1.1 fun n3 n4 d5 n6 b7=>
(if b7 = true then
((cell j1.2 d5.block (d5.off + 3)).bind getS).bind fun l8=>
(if 0≤n6∧n6 < ((l8.2 : Nat) : Int) then
((l8.1 : Option Addr)).bind fun a9=>
c_IITL j1.2 a9.block (a9.off + Int.toNat n6 * 4) fun n10 n11 s12 l13=>
(run (Et base) 117 [(.agg #[(vI n10),(vI n11),(vT s12),(vL l13.1 l13.2)]),(vI (IntKind.wrap .i64 (n3 - (1 : Int)))),(vI n4)] j1.2).bind fun r14=>
((some r14.1).bind (getI .i64)).bind fun n15=>
some (0,[some (vI n3),some (vI n15),some (vA d5),some (vI (IntKind.wrap .i64 (n6 + (1 : Int))))],r14.2)
else none)
else
some (2,[some (vI n4)],j1.2)) : Option (Nat × Slots × AH)):=by kernel_rfl
theorem r117 {base : Nat} {v0_0 : Int} {v0_1 : Int} {v0_2 : ByteArray} {v0_3 : Option Addr} {v0_3n : Nat} {v1 : Int} {v2 : Int} {h : AH} {r : Value × AH} (hx : (nw1 h 42 [(vI v0_0),(vI v0_1),(vT v0_2),(vL v0_3 v0_3n)] fun h1=>
((if (decide (v1 < (1 : Int))) = true then
some (.inl ([some (vI v1),some (vI v2),some (vP (List.length h)),some (.bool true)],h1))
else
(if (decide (v2 < (1 : Int))) = true then
some (.inl ([some (vI v1),some (vI v2),some (vP (List.length h)),some (.bool true)],h1))
else
c_IITL h1 (List.length h) 0 fun n3 n4 s5 l6=>
(run (Et base) 164 [(.agg #[(vI n3),(vI n4),(vT s5),(vL l6.1 l6.2)])] h1).bind fun r7=>
((some r7.1).bind getB).bind fun b8=>
some (.inl ([some (vI v1),some (vI v2),some (vP (List.length h)),some (.bool (!b8))],r7.2))))).bind fun j2=>joinK j2 fun j2=>
j_IIAB j2.1 fun n9 n10 d11 b12=>
(if b12 = true then
some ((vI (-1 : Int)),j2.2)
else
(loopL (B117_0 base) [some (vI n9),some (vI (IntKind.wrap .i64 (n10 - (1 : Int)))),some (vA d11),some (vI (0 : Int))] j2.2).bind fun q13=>
(if q13.1 = 2 then
((sget q13.2.1 0).bind (getI .i64)).bind fun n14=>
some ((vI n14),q13.2.2)
else
none))) = some r) : run (Et base) 117 [(.agg #[(vI v0_0),(vI v0_1),(vT v0_2),(vL v0_3 v0_3n)]),(vI v1),(vI v2)] h = some r:=run_i (an:=a117) Try.func117 (by kernel_rfl) (.trans (by kernel_rfl) hx)
noncomputable def B118_0 (base : Nat) : Body:=fun l h=>lay s118_0 l fun s=>exCode (Et base) (run (Et base)) loopL a118_0 (subC [1,0,1,0,0] (bodyC Try.f118)) s h (keepK s118_0 e118_0)
theorem B118_0_eq (base : Nat) (v1 : Int) (v2 : Addr) (v5 : Int) (h : AH) : B118_0 base [some (vI v1),some (vA v2),some (vI v5)] h =
(((cell h v2.block (v2.off + 1)).bind getS).bind fun l1=>
(if (decide (v5 < ((l1.2 : Nat) : Int))) = true then
((cell h v2.block (v2.off + 1)).bind getS).bind fun l2=>
(if 0≤v5∧v5 < ((l2.2 : Nat) : Int) then
((l2.1 : Option Addr)).bind fun a3=>
((cell h a3.block ((a3.off + Int.toNat v5 * 5) + 0)).bind (getI .i64)).bind fun n4=>
(if (n4 == v1) = true then
some (1,[some (.int .i64 v5)],h)
else
some (0,[some (.int .i64 v1),some (.pointer (some v2)),some (.int .i64 (IntKind.wrap .i64 (v5 + (1 : Int))))],h))
else none)
else
some (2,[],h)) : Option (Nat × Slots × AH)):=by kernel_rfl
theorem r118 {base : Nat} {v0_0 : Option Addr} {v0_0n : Nat} {v0_1 : Option Addr} {v0_1n : Nat} {v0_2 : Int} {v0_3 : Option Addr} {v0_3n : Nat} {v1 : Int} {h : AH} {r : Value × AH} (hx : ((some (h++[some ⟨[(.slice v0_0 v0_0n v0_0n),(.slice v0_1 v0_1n v0_1n),(.int .i64 v0_2),(.slice v0_3 v0_3n v0_3n)],36⟩])).bind fun h1=>
(loopL (B118_0 base) [some (.int .i64 v1),some (.pointer (some ⟨(List.length h),0,none⟩)),some (.int .i64 (0 : Int))] h1).bind fun q2=>
(if q2.1 = 1 then
((sget q2.2.1 0).bind (getI .i64)).bind fun n3=>
some ((.int .i64 n3),q2.2.2)
else
(if q2.1 = 2 then
some ((.int .i64 (-1 : Int)),q2.2.2)
else
none))) = some r) : run (Et base) 118 [(.agg #[(vL v0_0 v0_0n),(vL v0_1 v0_1n),(vI v0_2),(vL v0_3 v0_3n)]),(vI v1)] h = some r:=run_i (an:=a118) Try.func118 (by kernel_rfl) (.trans (by kernel_rfl) hx)
theorem r119 {base : Nat} {v0_0 : Int} {v0_1 : Int} {v0_2 : Int} {v0_3 : Int} {v0_4 : Int} {v0_5 : ByteArray} {h : AH} {r : Value × AH} (hx : (nw1 h 131 [(vI v0_0),(vI v0_1),(vI v0_2),(vI v0_3),(vI v0_4),(vT v0_5)] fun h1=>
nw1 h1 143 [(vI 0),(vI 0),(vI 0),(vI 0),(vI 0),(vT ⟨#[]⟩)] fun h2=>
nw1 h2 143 [(vI 0),(vI 0),(vI 0),(vI 0),(vI 0),(vT ⟨#[]⟩)] fun h3=>
((cell h3 (List.length h) 0).bind (getI .i64)).bind fun n4=>
(wr base h3 (List.length h2) 0 [(vI n4)]).bind fun h5=>
((cell h5 (List.length h) 1).bind (getI .i64)).bind fun n6=>
(wr base h5 (List.length h2) 1 [(vI n6)]).bind fun h7=>
((cell h7 (List.length h) 2).bind (getI .i64)).bind fun n8=>
(wr base h7 (List.length h2) 2 [(vI n8)]).bind fun h9=>
((cell h9 (List.length h) 3).bind (getI .i64)).bind fun n10=>
(wr base h9 (List.length h2) 3 [(vI n10)]).bind fun h11=>
((cell h11 (List.length h) 4).bind (getI .i64)).bind fun n12=>
(wr base h11 (List.length h2) 4 [(vI n12)]).bind fun h13=>
((cell h13 (List.length h) 5).bind getStr).bind fun s14=>
(wr base h13 (List.length h2) 5 [(vT s14)]).bind fun h15=>
c_IIIIIT h15 (List.length h2) 0 fun n16 n17 n18 n19 n20 s21=>
(wr base h15 (List.length h1) 0 [(vI n16),(vI n17),(vI n18),(vI n19),(vI n20),(vT s21)]).bind fun h22=>
c_IIIIIT h22 (List.length h1) 0 fun n23 n24 n25 n26 n27 s28=>
some ((.agg #[(vI n23),(vI n24),(vI n25),(vI n26),(vI n27),(vT s28)]),h22)) = some r) : run (Et base) 119 [(.agg #[(vI v0_0),(vI v0_1),(vI v0_2),(vI v0_3),(vI v0_4),(vT v0_5)])] h = some r:=run_i (an:=a119) Try.func119 (by kernel_rfl) (.trans (by kernel_rfl) hx)
theorem r120 {base : Nat} {v0_0 : Int} {v0_1 : Int} {v0_2 : Option Addr} {v0_2n : Nat} {v0_3 : Option Addr} {v0_3n : Nat} {v0_4 : Option Addr} {v0_4n : Nat} {h : AH} {r : Value × AH} (hx : (nw1 h 134 [(vI v0_0),(vI v0_1),(vL v0_2 v0_2n),(vL v0_3 v0_3n),(vL v0_4 v0_4n)] fun h1=>
nw1 h1 54 [(vI 0),(vI 0),(vL none 0),(vL none 0),(vL none 0)] fun h2=>
nw1 h2 54 [(vI 0),(vI 0),(vL none 0),(vL none 0),(vL none 0)] fun h3=>
((cell h3 (List.length h) 0).bind (getI .i64)).bind fun n4=>
(wr base h3 (List.length h2) 0 [(vI n4)]).bind fun h5=>
((cell h5 (List.length h) 1).bind (getI .i64)).bind fun n6=>
(wr base h5 (List.length h2) 1 [(vI n6)]).bind fun h7=>
((cell h7 (List.length h) 2).bind getS).bind fun l8=>
(run (Et base) 63 [(vL l8.1 l8.2)] h7).bind fun r9=>
((some r9.1).bind getS).bind fun l10=>
(wr base r9.2 (List.length h2) 2 [(vL l10.1 l10.2)]).bind fun h11=>
((cell h11 (List.length h) 3).bind getS).bind fun l12=>
(run (Et base) 63 [(vL l12.1 l12.2)] h11).bind fun r13=>
((some r13.1).bind getS).bind fun l14=>
(wr base r13.2 (List.length h2) 3 [(vL l14.1 l14.2)]).bind fun h15=>
((cell h15 (List.length h) 4).bind getS).bind fun l16=>
(run (Et base) 33 [(vL l16.1 l16.2)] h15).bind fun r17=>
((some r17.1).bind getS).bind fun l18=>
(wr base r17.2 (List.length h2) 4 [(vL l18.1 l18.2)]).bind fun h19=>
c_IILLL h19 (List.length h2) 0 fun n20 n21 l22 l23 l24=>
(wr base h19 (List.length h1) 0 [(vI n20),(vI n21),(vL l22.1 l22.2),(vL l23.1 l23.2),(vL l24.1 l24.2)]).bind fun h25=>
c_IILLL h25 (List.length h1) 0 fun n26 n27 l28 l29 l30=>
some ((.agg #[(vI n26),(vI n27),(vL l28.1 l28.2),(vL l29.1 l29.2),(vL l30.1 l30.2)]),h25)) = some r) : run (Et base) 120 [(.agg #[(vI v0_0),(vI v0_1),(vL v0_2 v0_2n),(vL v0_3 v0_3n),(vL v0_4 v0_4n)])] h = some r:=run_i (an:=a120) Try.func120 (by kernel_rfl) (.trans (by kernel_rfl) hx)
theorem r121 {base : Nat} {v0_0 : Int} {v0_1 : Int} {v0_2 : Int} {v0_3 : Int} {v0_4 : ByteArray} {v0_5 : Option Addr} {v0_5n : Nat} {h : AH} {r : Value × AH} (hx : (nw1 h 137 [(vI v0_0),(vI v0_1),(vI v0_2),(vI v0_3),(vT v0_4),(vL v0_5 v0_5n)] fun h1=>
nw1 h1 140 [(vI 0),(vI 0),(vI 0),(vI 0),(vT ⟨#[]⟩),(vL none 0)] fun h2=>
nw1 h2 140 [(vI 0),(vI 0),(vI 0),(vI 0),(vT ⟨#[]⟩),(vL none 0)] fun h3=>
((cell h3 (List.length h) 0).bind (getI .i64)).bind fun n4=>
(wr base h3 (List.length h2) 0 [(vI n4)]).bind fun h5=>
((cell h5 (List.length h) 1).bind (getI .i64)).bind fun n6=>
(wr base h5 (List.length h2) 1 [(vI n6)]).bind fun h7=>
c_IITL h7 (List.length h) 2 fun n8 n9 s10 l11=>
(run (Et base) 15 [(.agg #[(vI n8),(vI n9),(vT s10),(vL l11.1 l11.2)])] h7).bind fun r12=>
gG (some r12.1) 4 fun l13=>
l_IITL l13 fun n14 n15 s16 l17=>
(wr base r12.2 (List.length h2) 2 [(vI n14),(vI n15),(vT s16),(vL l17.1 l17.2)]).bind fun h18=>
c_IIIITL h18 (List.length h2) 0 fun n19 n20 n21 n22 s23 l24=>
(wr base h18 (List.length h1) 0 [(vI n19),(vI n20),(vI n21),(vI n22),(vT s23),(vL l24.1 l24.2)]).bind fun h25=>
c_IIIITL h25 (List.length h1) 0 fun n26 n27 n28 n29 s30 l31=>
some ((.agg #[(vI n26),(vI n27),(vI n28),(vI n29),(vT s30),(vL l31.1 l31.2)]),h25)) = some r) : run (Et base) 121 [(.agg #[(vI v0_0),(vI v0_1),(vI v0_2),(vI v0_3),(vT v0_4),(vL v0_5 v0_5n)])] h = some r:=run_i (an:=a121) Try.func121 (by kernel_rfl) (.trans (by kernel_rfl) hx)
noncomputable def B122_0 (base : Nat) : Body:=fun l h=>lay s122_0 l fun s=>exCode (Et base) (run (Et base)) loopL a122_0 (subC [1,1,0,1,0,0] (bodyC Try.f122)) s h (keepK s122_0 e122_0)
theorem B122_0_eq (base : Nat) (v3 : Option Addr) (v3n : Nat) (v6 : Option Addr) (v6n : Nat) (v7 : Int) (v8 : Int) (h : AH) : B122_0 base [some (vL v3 v3n),some (vL v6 v6n),some (vI v7),some (vI v8)] h =
((if (decide (v8 < v7)) = true then
(if 0≤v8∧v8 < ((v6n : Nat) : Int) then
((v6 : Option Addr)).bind fun a1=>
c_IIIITL h a1.block (a1.off + Int.toNat v8 * 6) fun n2 n3 n4 n5 s6 l7=>
nw1 h 140 [(vI 0),(vI 0),(vI 0),(vI 0),(vT ⟨#[]⟩),(vL none 0)] fun h8=>
(wr base h8 (List.length h) 0 [(vI n2),(vI n3),(vI n4),(vI n5),(vT s6),(vL l7.1 l7.2)]).bind fun h9=>
c_IITL h9 (List.length h) 2 fun n10 n11 s12 l13=>
(run (Et base) 125 [(.agg #[(vI n10),(vI n11),(vT s12),(vL l13.1 l13.2)])] h9).bind fun r14=>
gG (some r14.1) 4 fun l15=>
l_IITL l15 fun n16 n17 s18 l19=>
(wr base r14.2 (List.length h) 2 [(vI n16),(vI n17),(vT s18),(vL l19.1 l19.2)]).bind fun h20=>
c_IIIITL h20 (List.length h) 0 fun n21 n22 n23 n24 s25 l26=>
nw1 h20 140 [(vI n21),(vI n22),(vI n23),(vI n24),(vT s25),(vL l26.1 l26.2)] fun h27=>
(app base h27 140 6 72 v3 v3n (rawAt h27 (some ⟨(List.length h20),0,none⟩) (1 * 6)) 1).bind fun p28=>
((some p28.1).bind getS).bind fun l29=>
some (0,[some (vL l29.1 l29.2),some (vL v6 v6n),some (vI v7),some (vI (IntKind.wrap .i64 (v8 + (1 : Int))))],p28.2)
else none)
else
some (2,[some (vL v3 v3n)],h)) : Option (Nat × Slots × AH)):=by kernel_rfl
theorem r122 {base : Nat} {v0 : Option Addr} {v0n : Nat} {h : AH} {r : Value × AH} (hx : ((loopL (B122_0 base) [some (.slice none 0 0),some (.slice v0 v0n v0n),some (.int .i64 ((v0n : Nat) : Int)),some (.int .i64 (0 : Int))] h).bind fun q1=>
(if q1.1 = 2 then
((sget q1.2.1 0).bind getS).bind fun l2=>
some ((.slice l2.1 l2.2 l2.2),q1.2.2)
else
none)) = some r) : run (Et base) 122 [(vL v0 v0n)] h = some r:=run_i (an:=a122) Try.func122 (by kernel_rfl) (.trans (by kernel_rfl) hx)
theorem r123 {base : Nat} {v0_0 : Int} {v0_1 : Int} {v0_2 : Option Addr} {v0_2n : Nat} {v0_3 : Option Addr} {v0_3n : Nat} {v0_4 : Option Addr} {v0_4n : Nat} {h : AH} {r : Value × AH} (hx : (nw1 h 54 [(vI v0_0),(vI v0_1),(vL v0_2 v0_2n),(vL v0_3 v0_3n),(vL v0_4 v0_4n)] fun h1=>
nw1 h1 54 [(vI 0),(vI 0),(vL none 0),(vL none 0),(vL none 0)] fun h2=>
((cell h2 (List.length h) 2).bind getS).bind fun l3=>
(run (Et base) 165 [(vL l3.1 l3.2)] h2).bind fun r4=>
((some r4.1).bind getS).bind fun l5=>
(gate (sameA h2 r4.2 (some ⟨(List.length h),3,none⟩) 1)
(((cell r4.2 (List.length h) 3).bind getS).bind fun l6=>
(run (Et base) 165 [(vL l6.1 l6.2)] r4.2).bind fun r7=>
((some r7.1).bind getS).bind fun l8=>
(gate (sameA r4.2 r7.2 (some ⟨(List.length h),4,none⟩) 1)
((gate (sameA h2 r7.2 (some ⟨(List.length h),4,none⟩) 1)
(((cell r7.2 (List.length h) 4).bind getS).bind fun l9=>
(run (Et base) 104 [(vL l9.1 l9.2)] r7.2).bind fun r10=>
((some r10.1).bind getS).bind fun l11=>
(wr base r10.2 (List.length h) 2 [(vL l5.1 l5.2)]).bind fun h12=>
(wr base h12 (List.length h) 3 [(vL l8.1 l8.2)]).bind fun h13=>
(wr base h13 (List.length h) 4 [(vL l11.1 l11.2)]).bind fun h14=>
c_IILLL h14 (List.length h) 0 fun n15 n16 l17 l18 l19=>
(wr base h14 (List.length h1) 0 [(vI n15),(vI n16),(vL l17.1 l17.2),(vL l18.1 l18.2),(vL l19.1 l19.2)]).bind fun h20=>
c_IILLL h20 (List.length h1) 0 fun n21 n22 l23 l24 l25=>
some ((.agg #[(vI n21),(vI n22),(vL l23.1 l23.2),(vL l24.1 l24.2),(vL l25.1 l25.2)]),h20)))))))) = some r) : run (Et base) 123 [(.agg #[(vI v0_0),(vI v0_1),(vL v0_2 v0_2n),(vL v0_3 v0_3n),(vL v0_4 v0_4n)])] h = some r:=run_i (an:=a123) Try.func123 (by kernel_rfl) (.trans (by kernel_rfl) hx)
noncomputable def B124_0 (base : Nat) : Body:=fun l h=>lay s124_0 l fun s=>exCode (Et base) (run (Et base)) loopL a124_0 (subC [1,1,1,0,1,0,0] (bodyC Try.f124)) s h (keepK s124_0 e124_0)
theorem B124_0_eq (base : Nat) (v1 : Int) (v2 : Int) (v27 : Option Addr) (v27n : Nat) (v28 : Int) (v29 : Int) (h : AH) : B124_0 base [some (vI v1),some (vI v2),some (vL v27 v27n),some (vI v28),some (vI v29)] h =
((if (decide (v29 < v28)) = true then
(if 0≤v29∧v29 < ((v27n : Nat) : Int) then
((v27 : Option Addr)).bind fun a1=>
c_IITL h a1.block (a1.off + Int.toNat v29 * 4) fun n2 n3 s4 l5=>
nw1 h 42 [(vI 0),(vI 0),(vT ⟨#[]⟩),(vL none 0)] fun h6=>
(wr base h6 (List.length h) 0 [(vI n2),(vI n3),(vT s4),(vL l5.1 l5.2)]).bind fun h7=>
c_IITL h7 (List.length h) 0 fun n8 n9 s10 l11=>
(run (Et base) 124 [(.agg #[(vI n8),(vI n9),(vT s10),(vL l11.1 l11.2)]),(vI (IntKind.wrap .i64 (v1 + (1 : Int)))),(vI v2)] h7).bind fun r12=>
(getTup 2 r12.1).bind fun l13=>
l_IB l13 fun n14 b15=>
(if (!b15) = true then
some (1,[some (vI n14),some (.bool false)],r12.2)
else
some (0,[some (vI v1),some (vI n14),some (vL v27 v27n),some (vI v28),some (vI (IntKind.wrap .i64 (v29 + (1 : Int))))],r12.2))
else none)
else
some (2,[some (vI v2)],h)) : Option (Nat × Slots × AH)):=by kernel_rfl
theorem r124 {base : Nat} {v0_0 : Int} {v0_1 : Int} {v0_2 : ByteArray} {v0_3 : Option Addr} {v0_3n : Nat} {v1 : Int} {v2 : Int} {h : AH} {r : Value × AH} (hx : (nw1 h 42 [(vI v0_0),(vI v0_1),(vT v0_2),(vL v0_3 v0_3n)] fun h1=>
((if (decide (v1 > (6 : Int))) = true then
some (.inl ([some (vI v1),some (vI (IntKind.wrap .i64 (v2 + (1 : Int)))),some (vP (List.length h)),some (.bool true)],h1))
else
(if (decide ((IntKind.wrap .i64 (v2 + (1 : Int))) > (100 : Int))) = true then
some (.inl ([some (vI v1),some (vI (IntKind.wrap .i64 (v2 + (1 : Int)))),some (vP (List.length h)),some (.bool true)],h1))
else
c_IITL h1 (List.length h) 0 fun n3 n4 s5 l6=>
(run (Et base) 166 [(.agg #[(vI n3),(vI n4),(vT s5),(vL l6.1 l6.2)])] h1).bind fun r7=>
((some r7.1).bind getB).bind fun b8=>
some (.inl ([some (vI v1),some (vI (IntKind.wrap .i64 (v2 + (1 : Int)))),some (vP (List.length h)),some (.bool (!b8))],r7.2))))).bind fun j2=>joinK j2 fun j2=>
j_IIAB j2.1 fun n9 n10 d11 b12=>
(if b12 = true then
some ((.tuple #[(vI n10),(.bool false)]),j2.2)
else
((cell j2.2 d11.block (d11.off + 3)).bind getS).bind fun l13=>
(loopL (B124_0 base) [some (vI n9),some (vI n10),some (vL l13.1 l13.2),some (vI ((l13.2 : Nat) : Int)),some (vI (0 : Int))] j2.2).bind fun q14=>
(if q14.1 = 1 then
j_IB q14.2.1 fun n15 b16=>
some ((.tuple #[(vI n15),(.bool b16)]),q14.2.2)
else
(if q14.1 = 2 then
((sget q14.2.1 0).bind (getI .i64)).bind fun n17=>
some ((.tuple #[(vI n17),(.bool true)]),q14.2.2)
else
none)))) = some r) : run (Et base) 124 [(.agg #[(vI v0_0),(vI v0_1),(vT v0_2),(vL v0_3 v0_3n)]),(vI v1),(vI v2)] h = some r:=run_i (an:=a124) Try.func124 (by kernel_rfl) (.trans (by kernel_rfl) hx)
end Go.Proofs.Ytkdenmdijdmnjaa.Am
